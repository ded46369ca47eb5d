/- Plain laws of what the printed functions of QuorumGrows and QuorumOrder compute. -/
import Derived.Test.YtjlcaamfpglflaaQCommits
namespace Go.Proofs.Ytjlcaamfpglflaa.QL
open Go.RowKit Go.Proofs.Ytjlcaamfpglflaa.PQuorum Go.Proofs.YtjlcaamfpglflaaW.PrintWords Go.Proofs.YtjlcaamfpglflaaW.PrintLast
open Go.Proofs.Ytjlcaamfpglflaa

/-- What a node's number becomes: more, where more has more, within the limit. -/
def grown (a : Int) : Option Int → Int
  | some b => if b > a ∧ b ≤ 1099511627776 then b else a
  | none => a
def next (l m : List Int) : List Int := (List.range l.length).map fun i => grown (l.getD i 0) m[i]?
def above (n : Int) (l : List Int) : Nat := l.countP fun a => decide (n < a)

theorem speaks_ev : Ev (fun k => latticelaw21_speaks.f k) true := ⟨10, fun _ hk => speaks_ge hk⟩

theorem rd_get {l : List Int} {i : Nat} : rd l (i : Int) = l.getD i 0 := by unfold rd; simp

def tail (l m : List Int) (i : Nat) : List Int := (List.range' i (l.length - i)).map fun i => grown (l.getD i 0) m[i]?
theorem tail_zero (l m : List Int) : tail l m 0 = next l m := by simp [tail, next, List.range_eq_range']
theorem tail_end (l m : List Int) {i : Nat} (h : i = l.length) : tail l m i = [] := by simp [tail, h]
theorem tail_step (l m : List Int) {i : Nat} (h : i < l.length) : tail l m i = grown (l.getD i 0) m[i]? :: tail l m (i + 1) := by
  unfold tail
  rw [show l.length - i = (l.length - (i + 1)) + 1 by omega, List.range'_succ]
  rfl

theorem grows_ev (l m : List Int) (hl : l.length ≤ 7) (n : Int) (R : Bool) (d : Nat) : ∀ (i c e : Nat) (acc : List Int), i + d = l.length → c ≤ i → e ≤ i → acc.length = i →
    Ev (fun k => ((quorum_Commit.f (acc ++ tail l m i)).bind fun bt134 => (if (wrap64 (2 * ((c + QMath.cnt n (l.drop i) : Nat) : Int))) > (l.length : Int) then (if (wrap64 (2 * ((e + above n (l.drop i) : Nat) : Int))) ≤ (l.length : Int) then (if bt134.2 = 0 then (if bt134.1 ≥ n then ((latticelaw21_speaks.f k).bind fun t136 => (some t136)) else (some false)) else (some false)) else (some false)) else (some false)))) R →
    Ev (fun k => latticelaw21_QuorumGrows.l0 k l m n (c : Int) (e : Int) acc l (l.length : Int) (i : Int)) R := by
  induction d with
  | zero =>
    intro i c e acc hi hc he ha h
    have hd : l.drop i = [] := List.drop_eq_nil_of_le (by omega)
    rw [hd, tail_end l m (by omega), List.append_nil] at h
    refine Ev.step (fun k => ?_) h
    simp only [latticelaw21_QuorumGrows.l0]
    rw [if_neg (by omega)]
    rfl
  | succ d ih =>
    intro i c e acc hi hc he ha h
    have hlt : i < l.length := by omega
    rw [drop_cons hlt, tail_step l m hlt] at h
    have hx : rd l (i : Int) = l.getD i 0 := rd_get
    -- the two counts
    obtain ⟨c', hc', hcc⟩ : ∃ c', c' ≤ i + 1 ∧ ((if rd l (i : Int) ≥ n then latticelaw21_QuorumGrows.j1 else latticelaw21_QuorumGrows.j1) = latticelaw21_QuorumGrows.j1) ∧ c' = (if rd l (i : Int) ≥ n then c + 1 else c) ∧ c + QMath.cnt n (rd l (i : Int) :: l.drop (i + 1)) = c' + QMath.cnt n (l.drop (i + 1)) := by
      by_cases h1 : n ≤ rd l (i : Int)
      · refine ⟨c + 1, by omega, by simp, by simp [h1], ?_⟩
        simp [QMath.cnt, h1]; omega
      · refine ⟨c, by omega, by simp, by simp [h1], ?_⟩
        simp [QMath.cnt, h1]
    obtain ⟨_, hc1, hc2⟩ := hcc
    obtain ⟨e', he', he1, he2⟩ : ∃ e', e' ≤ i + 1 ∧ e' = (if rd l (i : Int) > n then e + 1 else e) ∧ e + above n (rd l (i : Int) :: l.drop (i + 1)) = e' + above n (l.drop (i + 1)) := by
      by_cases h1 : n < rd l (i : Int)
      · refine ⟨e + 1, by omega, by simp [h1], ?_⟩
        simp [above, h1]; omega
      · refine ⟨e, by omega, by simp [h1], ?_⟩
        simp [above, h1]
    rw [hc2, he2] at h
    have h' := ih (i + 1) c' e' (acc ++ [grown (l.getD i 0) m[i]?]) (by omega) hc' he' (by simp [ha]) (by simpa using h)
    have hj : Ev (fun k => latticelaw21_QuorumGrows.j1 k l m n (c' : Int) (e : Int) acc (i : Int) (rd l (i : Int)) l (l.length : Int) (i : Int)) R := by
      refine Ev.step (fun k => ?_) h'
      simp only [latticelaw21_QuorumGrows.j1]
      have hg : ∀ (y : List Int), y = acc ++ [grown (l.getD i 0) m[i]?] → (if acc.length < 17592186044416 then (latticelaw21_QuorumGrows.l0 k l m n (c' : Int) (e' : Int) y l (l.length : Int) (wrap64 ((i : Int) + 1))) else none) = latticelaw21_QuorumGrows.l0 k l m n (c' : Int) (e' : Int) (acc ++ [grown (l.getD i 0) m[i]?]) l (l.length : Int) ((i + 1 : Nat) : Int) := by
        intro y hy
        rw [if_pos (by omega), wrap_succ (by omega), hy]
      have hbody : (if (i : Int) < (m.length : Int) then (if 0 ≤ (i : Int) then (if (rd m (i : Int)) > rd l (i : Int) then (if (rd m (i : Int)) ≤ 1099511627776 then (if acc.length < 17592186044416 then (latticelaw21_QuorumGrows.l0 k l m n (c' : Int) (e' : Int) (acc ++ [rd m (i : Int)]) l (l.length : Int) (wrap64 ((i : Int) + 1))) else (none)) else (if acc.length < 17592186044416 then (latticelaw21_QuorumGrows.l0 k l m n (c' : Int) (e' : Int) (acc ++ [rd l (i : Int)]) l (l.length : Int) (wrap64 ((i : Int) + 1))) else (none))) else (if acc.length < 17592186044416 then (latticelaw21_QuorumGrows.l0 k l m n (c' : Int) (e' : Int) (acc ++ [rd l (i : Int)]) l (l.length : Int) (wrap64 ((i : Int) + 1))) else (none))) else (none)) else (if acc.length < 17592186044416 then (latticelaw21_QuorumGrows.l0 k l m n (c' : Int) (e' : Int) (acc ++ [rd l (i : Int)]) l (l.length : Int) (wrap64 ((i : Int) + 1))) else (none))) = latticelaw21_QuorumGrows.l0 k l m n (c' : Int) (e' : Int) (acc ++ [grown (l.getD i 0) m[i]?]) l (l.length : Int) ((i + 1 : Nat) : Int) := by
        by_cases hm : i < m.length
        · have hmi : m[i]? = some (rd m (i : Int)) := by rw [rd_get, List.getD_eq_getElem?_getD, List.getElem?_eq_getElem hm]; rfl
          rw [if_pos (by omega), if_pos (by omega)]
          by_cases h1 : rd m (i : Int) > rd l (i : Int)
          · rw [if_pos h1]
            by_cases h2 : rd m (i : Int) ≤ 1099511627776
            · rw [if_pos h2]; exact hg _ (by rw [hmi, ← hx]; simp [grown, h1, h2])
            · rw [if_neg h2]; exact hg _ (by rw [hmi, ← hx]; simp [grown, h2])
          · rw [if_neg h1]; exact hg _ (by rw [hmi, ← hx]; simp [grown, h1])
        · have hmi : m[i]? = none := List.getElem?_eq_none (by omega)
          rw [if_neg (by omega)]; exact hg _ (by rw [hmi, hx]; rfl)
      by_cases h1 : rd l (i : Int) > n
      · rw [if_pos h1] at he1
        rw [if_pos h1, wrap_succ (by omega), ← he1]
        exact hbody
      · rw [if_neg h1] at he1
        rw [if_neg h1, ← he1]
        exact hbody
    refine Ev.step (fun k => ?_) hj
    simp only [latticelaw21_QuorumGrows.l0]
    rw [if_pos (by omega), if_pos (by omega), if_pos (by omega)]
    by_cases h1 : rd l (i : Int) ≥ n
    · rw [if_pos h1] at hc1
      rw [if_pos h1, wrap_succ (by omega), ← hc1]
    · rw [if_neg h1] at hc1
      rw [if_neg h1, ← hc1]

end Go.Proofs.Ytjlcaamfpglflaa.QL
