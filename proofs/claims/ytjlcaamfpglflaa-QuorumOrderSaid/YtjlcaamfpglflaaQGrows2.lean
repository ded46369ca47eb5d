/- Plain laws: QuorumGrows and QuorumOrder. -/
import Derived.Test.YtjlcaamfpglflaaQGrows
namespace Go.Proofs.Ytjlcaamfpglflaa.QL
open Go.RowKit Go.Proofs.Ytjlcaamfpglflaa.PQuorum Go.Proofs.YtjlcaamfpglflaaW.PrintWords Go.Proofs.YtjlcaamfpglflaaW.PrintLast
open Go.Proofs.Ytjlcaamfpglflaa

theorem as_range (l : List Int) : l = (List.range l.length).map fun i => l.getD i 0 := by
  apply List.ext_getElem
  · simp
  · intro i h1 h2
    simp [h1]

theorem grown_ge (a : Int) (o : Option Int) : a ≤ grown a o := by
  cases o with
  | none => exact Int.le_refl _
  | some b => unfold grown; split <;> omega
theorem grown_le {a : Int} (o : Option Int) (h : a ≤ 1099511627776) : grown a o ≤ 1099511627776 := by
  cases o with
  | none => exact h
  | some b => unfold grown; split <;> omega

theorem next_len (l m : List Int) : (next l m).length = l.length := by simp [next]
theorem next_mem {l m : List Int} {x : Int} (h : x ∈ next l m) : ∃ a ∈ l, ∃ o, x = grown a o := by
  simp only [next, List.mem_map, List.mem_range] at h
  obtain ⟨i, hi, rfl⟩ := h
  exact ⟨l.getD i 0, by rw [List.getD_eq_getElem?_getD, List.getElem?_eq_getElem hi]; exact List.getElem_mem hi, _, rfl⟩

theorem cnt_next (l m : List Int) (n : Int) : QMath.cnt n l ≤ QMath.cnt n (next l m) := by
  have e : QMath.cnt n l = QMath.cnt n ((List.range l.length).map fun i => l.getD i 0) := congrArg _ (as_range l)
  rw [e]
  unfold QMath.cnt next
  rw [List.countP_map, List.countP_map]
  refine List.countP_mono_left fun i _ h => ?_
  simp only [Function.comp, decide_eq_true_eq] at h ⊢
  exact Int.le_trans h (grown_ge _ _)

theorem above_cnt (n : Int) (l : List Int) : above n l = QMath.cnt (n + 1) l := by
  unfold above QMath.cnt
  congr 1

theorem bad_false {l : List Int} (h : CommitC.commitBad l = false) : 0 < l.length ∧ l.length ≤ 7 ∧ ∀ a ∈ l, 0 ≤ a ∧ a ≤ 1099511627776 := by
  simp only [CommitC.commitBad, Bool.or_eq_false_iff, decide_eq_false_iff_not, List.any_eq_false] at h
  obtain ⟨⟨h1, h2⟩, h3⟩ := h
  refine ⟨by cases l <;> simp_all, by omega, fun a ha => ?_⟩
  have := h3 a ha
  simp [CommitA.bad] at this
  omega
theorem bad_of {l : List Int} (h0 : 0 < l.length) (h7 : l.length ≤ 7) (h : ∀ a ∈ l, 0 ≤ a ∧ a ≤ 1099511627776) : CommitC.commitBad l = false := by
  simp only [CommitC.commitBad, Bool.or_eq_false_iff, decide_eq_false_iff_not, List.any_eq_false]
  refine ⟨⟨by cases l <;> simp_all, by omega⟩, fun a ha => ?_⟩
  have h1 : ¬ a < 0 := by have := (h a ha).1; omega
  have h2 : ¬ 1099511627776 < a := by have := (h a ha).2; omega
  unfold CommitA.bad
  rw [decide_eq_false h1, decide_eq_false h2]
  simp

theorem grows_fin (l m : List Int) (h7 : l.length ≤ 7) (n : Int) (hn : quorum_Commit.f (next l m) = some (QMath.mid (next l m), 0)) (h1 : l.length < 2 * QMath.cnt n l) (h2 : 2 * above n l ≤ l.length) (h3 : n ≤ QMath.mid (next l m)) (hc1 : QMath.cnt n l ≤ 7) (hc2 : above n l ≤ 7) :
    Ev (fun k => ((quorum_Commit.f (next l m)).bind fun bt134 => (if (wrap64 (2 * ((0 + QMath.cnt n l : Nat) : Int))) > (l.length : Int) then (if (wrap64 (2 * ((0 + above n l : Nat) : Int))) ≤ (l.length : Int) then (if bt134.2 = 0 then (if bt134.1 ≥ n then ((latticelaw21_speaks.f k).bind fun t136 => (some t136)) else (some false)) else (some false)) else (some false)) else (some false)))) true := by
  rw [hn]
  refine Ev.congr (fun k => ?_) (Ev.bind (f := fun _ t => some t) speaks_ev (Ev.now true))
  have e1 : wrap64 (2 * ((0 + QMath.cnt n l : Nat) : Int)) = ((2 * QMath.cnt n l : Nat) : Int) := by unfold wrap64; omega
  have e2 : wrap64 (2 * ((0 + above n l : Nat) : Int)) = ((2 * above n l : Nat) : Int) := by unfold wrap64; omega
  rw [Option.bind_some, e1, e2, if_pos (by omega), if_pos (by omega), if_pos rfl, if_pos h3]

theorem grows_ok (l m : List Int) (h7 : l.length ≤ 7) (n : Int) (hl : quorum_Commit.f l = some (n, 0)) (hn : quorum_Commit.f (next l m) = some (QMath.mid (next l m), 0)) (h1 : l.length < 2 * QMath.cnt n l) (h2 : 2 * above n l ≤ l.length) (h3 : n ≤ QMath.mid (next l m)) (hc1 : QMath.cnt n l ≤ 7) (hc2 : above n l ≤ 7) :
    Ev (fun k => latticelaw21_QuorumGrows.f k l m) true := by
  have hg := grows_ev l m h7 n true l.length 0 0 0 [] (Nat.zero_add _) (Nat.le_refl _) (Nat.le_refl _) rfl (by
    rw [tail_zero, List.nil_append, List.drop_zero]
    exact grows_fin l m h7 n hn h1 h2 h3 hc1 hc2)
  refine Ev.congr (fun k => ?_) hg
  unfold latticelaw21_QuorumGrows.f
  rw [hl, Option.bind_some, if_pos rfl]
  rfl

theorem QuorumGrows : latticelaw21_QuorumGrows.Pure := by
  intro l m _ _ _ _ _ _
  have key : Ev (fun k => latticelaw21_QuorumGrows.f k l m) true := by
    cases hb : CommitC.commitBad l with
    | true =>
      refine Ev.congr (fun k => ?_) (Ev.bind (f := fun _ t => some t) speaks_ev (Ev.now true))
      unfold latticelaw21_QuorumGrows.f quorum_Commit.f
      rw [if_pos hb]
      simp only [Option.bind_some]
      rw [if_neg (by decide), if_pos trivial]
    | false =>
      obtain ⟨h0, h7, hr⟩ := bad_false hb
      have hl : quorum_Commit.f l = some (QMath.mid l, 0) := by unfold quorum_Commit.f; rw [if_neg (by rw [hb]; simp)]; rfl
      have hbn : CommitC.commitBad (next l m) = false := bad_of (by rw [next_len]; exact h0) (by rw [next_len]; exact h7) (fun x hx => by
        obtain ⟨a, ha, o, rfl⟩ := next_mem hx
        have := hr a ha
        exact ⟨Int.le_trans this.1 (grown_ge _ _), grown_le o this.2⟩)
      have hn : quorum_Commit.f (next l m) = some (QMath.mid (next l m), 0) := by unfold quorum_Commit.f; rw [if_neg (by rw [hbn]; simp)]; rfl
      have hc1 : QMath.cnt (QMath.mid l) l ≤ 7 := Nat.le_trans (by unfold QMath.cnt; exact List.countP_le_length) h7
      have hc2 : above (QMath.mid l) l ≤ 7 := Nat.le_trans (by unfold above; exact List.countP_le_length) h7
      have h1 := QMath.mid_has h0
      have h2 := QMath.mid_max h0 (a := QMath.mid l + 1) (by omega)
      rw [← above_cnt] at h2
      have h3 : QMath.mid l ≤ QMath.mid (next l m) := QMath.le_mid (by rw [next_len]; exact h0) (by rw [next_len]; have := cnt_next l m (QMath.mid l); omega)
      exact grows_ok l m h7 _ hl hn h1 h2 h3 hc1 hc2
  exact key.rounds

/-! ### QuorumOrder -/
def turn (l : List Int) (s i : Nat) : Int := l.getD ((i + s) % l.length) 0
def turned (l : List Int) (s : Nat) : List Int := (List.range l.length).map (turn l s)

theorem turned_eq {l : List Int} {s : Nat} (hs : s < l.length) : turned l s = l.drop s ++ l.take s := by
  apply List.ext_getElem
  · simp [turned]; omega
  · intro i h1 h2
    have hi : i < l.length := by simpa [turned] using h1
    simp only [turned, List.getElem_map, List.getElem_range, turn]
    by_cases h : i + s < l.length
    · rw [Nat.mod_eq_of_lt h, List.getElem_append_left (by simp; omega), List.getElem_drop, List.getD_eq_getElem?_getD, List.getElem?_eq_getElem h]
      simp [Nat.add_comm]
    · have e : (i + s) % l.length = i + s - l.length := by rw [Nat.mod_eq_sub_mod (by omega), Nat.mod_eq_of_lt (by omega)]
      rw [e, List.getElem_append_right (by simp; omega), List.getElem_take, List.getD_eq_getElem?_getD, List.getElem?_eq_getElem (by omega)]
      simp only [List.length_drop, Option.getD_some]
      congr 1
      omega

theorem turned_perm {l : List Int} {s : Nat} (hs : s < l.length) : l.Perm (turned l s) := by
  rw [turned_eq hs]
  exact (List.perm_append_comm.trans (by rw [List.take_append_drop])).symm

theorem commit_perm {l t : List Int} (h : l.Perm t) : quorum_Commit.f l = quorum_Commit.f t := by
  have hb : CommitC.commitBad l = CommitC.commitBad t := by
    unfold CommitC.commitBad
    rw [h.length_eq, h.any_eq]
    congr 2
    cases l <;> cases t <;> simp_all
  unfold quorum_Commit.f CommitC.commit
  rw [hb, QMath.mid_perm h]

theorem order_ev (l : List Int) (by_ : Int) (s : Nat) (hs : s < l.length) (hby : Int.tmod by_ (l.length : Int) = (s : Int)) (hbig : l.length ≤ 17592186044400) (d : Nat) : ∀ (i : Nat) (acc : List Int), i + d = l.length → acc = (List.range i).map (turn l s) →
    Ev (fun k => latticelaw21_QuorumOrder.l0 k l by_ acc (l.length : Int) (i : Int)) true := by
  induction d with
  | zero =>
    intro i acc hi ha
    refine Ev.step (fun k => ?_) (Ev.bind (f := fun _ t => some t) speaks_ev (Ev.now true))
    simp only [latticelaw21_QuorumOrder.l0]
    have hc : quorum_Commit.f acc = quorum_Commit.f l := by
      rw [ha, show i = l.length by omega]
      exact (commit_perm (turned_perm hs)).symm
    rw [if_neg (by omega), hc]
    cases hq : quorum_Commit.f l with
    | none => unfold quorum_Commit.f at hq; split at hq <;> cases hq
    | some r => simp
  | succ d ih =>
    intro i acc hi ha
    have hal : acc.length = i := by rw [ha]; simp
    refine Ev.step (fun k => ?_) (ih (i + 1) (acc ++ [turn l s i]) (by omega) (by rw [ha, List.range_succ]; simp))
    simp only [latticelaw21_QuorumOrder.l0]
    have e1 : wrap64 ((i : Int) + (s : Int)) = ((i + s : Nat) : Int) := by unfold wrap64; omega
    have e2 : Int.tmod ((i + s : Nat) : Int) (l.length : Int) = (((i + s) % l.length : Nat) : Int) := by rw [← Int.ofNat_tmod]
    have hlt := Nat.mod_lt (i + s) (show 0 < l.length by omega)
    rw [hby, e1, e2, if_pos (by omega), if_neg (by omega), if_pos (by omega), if_pos (by omega), if_pos (by omega), rd_get]
    have e3 : wrap64 ((i : Int) + 1) = ((i + 1 : Nat) : Int) := by unfold wrap64; omega
    rw [e3]
    rfl

theorem QuorumOrder : latticelaw21_QuorumOrder.Pure := by
  intro l b _ hlen _ _
  have sp : Ev (fun k => latticelaw21_QuorumOrder.j0 k l b true) true := by
    refine Ev.step (fun k => ?_) (Ev.bind (f := fun _ t => some t) speaks_ev (Ev.now true))
    simp [latticelaw21_QuorumOrder.j0]
  have key : Ev (fun k => latticelaw21_QuorumOrder.f k l b) true := by
    by_cases h0 : (l.length : Int) = 0
    · refine Ev.congr (fun k => ?_) sp
      unfold latticelaw21_QuorumOrder.f
      rw [if_pos h0]
    · by_cases hb : b < 0
      · refine Ev.congr (fun k => ?_) sp
        unfold latticelaw21_QuorumOrder.f
        rw [if_neg h0, decide_eq_true hb]
      · have hs : b.toNat % l.length < l.length := Nat.mod_lt _ (by omega)
        have hby : Int.tmod b (l.length : Int) = ((b.toNat % l.length : Nat) : Int) := by
          obtain ⟨n, rfl⟩ := Int.eq_ofNat_of_zero_le (show 0 ≤ b by omega)
          rw [Int.toNat_natCast, ← Int.ofNat_tmod]
        have ho := order_ev l b _ hs hby (by omega) l.length 0 [] (by omega) rfl
        refine Ev.congr (f := fun k => latticelaw21_QuorumOrder.j0 k l b false) (fun k => ?_) (Ev.step (fun k => ?_) ho)
        · unfold latticelaw21_QuorumOrder.f
          rw [if_neg h0, decide_eq_false hb]
        · simp [latticelaw21_QuorumOrder.j0]
  exact key.rounds

end Go.Proofs.Ytjlcaamfpglflaa.QL
