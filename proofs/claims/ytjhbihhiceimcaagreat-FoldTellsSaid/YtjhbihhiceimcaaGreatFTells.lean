/- FoldTells: the reference's map behind a history is the program's. -/
import Derived.Test.YtjhbihhiceimcaaGreatFCmp
import Derived.Test.YtjhbihhiceimcaaGreatFSpeak
import Derived.Test.YtjhbihhiceimcaaGreatPFZx17
import Derived.Test.YtjhbihhiceimcaaGreatPFZx18
import Derived.Test.YtjhbihhiceimcaaGreatPFZx19
set_option linter.unusedSimpArgs false
set_option linter.unusedVariables false
namespace Go.Proofs.YtjhbihhiceimcaaGreat.FM
open Go.RowKit Go.Proofs.YtjhbihhiceimcaaGreat.FMap Go.Proofs.YtjhbihhiceimcaaGreat.PFZ Go.Proofs.YtjhbihhiceimcaaGreatW.PrintWords Go.Proofs.YtjhbihhiceimcaaGreatW.PrintLast

theorem ins_head {x : KV} : ∀ {l : List KV}, (∀ p ∈ l, bytesBefore (kb x.1) (kb p.1) = true) → ins x l = x :: l
  | [], _ => rfl
  | y :: r, h => by unfold ins; rw [if_pos (h y (by simp))]
theorem del_cons_ne {y : KV} {r : List KV} {k : ByteArray} (h : kb y.1 ≠ kb k) : del (y :: r) k = y :: del r k := by
  unfold del
  rw [List.filter_cons_of_pos (by simpa using h)]
theorem del_cons_eq {y : KV} {r : List KV} {k : ByteArray} (h : kb y.1 = kb k) : del (y :: r) k = del r k := by
  unfold del
  rw [List.filter_cons_of_neg (by simpa using h)]
theorem mkE_len (m : List KV) : (m.map mkE).length = m.length := List.length_map _

section
variable (m : List KV) (q0 q1 q2 q3 q4 q5 : Int) (k v : ByteArray)

theorem with_true (hm : m.length ≤ 1099511627776) : ∀ (d i : Nat) (out : List Ent), i + d = m.length → out.length + d < 4398046511104 →
    Ev (fun n => latticeref18_With.l0 n out true (m.map mkE) (m.length : Int) (i : Int) q0 q1 q2 q3 q4 q5 k v) (out ++ (del (m.drop i) k).map mkE) := by
  intro d
  induction d with
  | zero =>
    intro i out hi ho
    rw [List.drop_eq_nil_of_le (by omega)]
    refine Ev.step (f := fun _ => some (out ++ (del [] k).map mkE)) (fun n => ?_) (Ev.now _)
    simp only [latticeref18_With.l0]
    rw [if_neg (by omega), if_pos trivial]
    simp [del]
  | succ d ih =>
    intro i out hi ho
    have hlt : i < m.length := by omega
    have hr := rdE hlt
    rw [drop_kv hlt]
    refine Ev.step (f := fun n => latticeref18_With.j1 n out true (m.map mkE) (m.length : Int) (i : Int) false q0 q1 q2 q3 q4 q5 k v (mkE m[i]).f0 (mkE m[i]).f1) (fun n => ?_) ?_
    · simp only [latticeref18_With.l0]
      rw [if_pos (by omega), if_pos (by omega), if_pos (by rw [mkE_len]; omega), if_pos trivial, hr]
    · by_cases e : kb m[i].1 = kb k
      · rw [del_cons_eq e]
        refine Ev.step (fun n => ?_) (ih (i + 1) out (by omega) (by omega))
        simp only [latticeref18_With.j1]
        rw [if_neg (by simp), if_pos (by rw [tl, tl]; exact e), wrap_up (by omega)]
      · rw [del_cons_ne e, List.map_cons]
        have := ih (i + 1) (out ++ [mkE m[i]]) (by omega) (by rw [List.length_append, List.length_singleton]; omega)
        rw [List.append_assoc] at this
        refine Ev.step (fun n => ?_) this
        simp only [latticeref18_With.j1]
        rw [if_neg (by simp), if_neg (by rw [tl, tl]; exact e), if_pos (by omega), wrap_up (by omega)]

theorem with_false (hm : m.length ≤ 1099511627776) (hR : Rising m) (hz : ∀ p ∈ m, p.1.size ≤ 16) : ∀ (d i : Nat) (out : List Ent), i + d = m.length → out.length + d + 1 < 4398046511104 →
    Ev (fun n => latticeref18_With.l0 n out false (m.map mkE) (m.length : Int) (i : Int) q0 q1 q2 q3 q4 q5 k v) (out ++ (ins (k, v) (del (m.drop i) k)).map mkE) := by
  intro d
  induction d with
  | zero =>
    intro i out hi ho
    rw [List.drop_eq_nil_of_le (by omega)]
    refine Ev.step (f := fun _ => some (out ++ (ins (k, v) (del [] k)).map mkE)) (fun n => ?_) (Ev.now _)
    simp only [latticeref18_With.l0]
    rw [if_neg (by omega), if_neg (by simp), if_pos (by omega)]
    simp [del, ins, mkE]
  | succ d ih =>
    intro i out hi ho
    have hlt : i < m.length := by omega
    have hr := rdE hlt
    have hc := compare_ev m[i].1 k (by have := hz m[i] (List.getElem_mem hlt); omega)
    have hn := cmpL_less (kb m[i].1) (kb k)
    rw [bl_eq] at hn
    have hafter : ∀ p ∈ m.drop (i + 1), bytesBefore (kb m[i].1) (kb p.1) = true := by
      have h2 : (m.drop i).Pairwise (fun p q => bytesBefore (kb p.1) (kb q.1) = true) := List.Pairwise.sublist (List.drop_sublist i m) hR
      rw [drop_kv hlt] at h2
      exact (List.pairwise_cons.1 h2).1
    rw [drop_kv hlt]
    have hl0 : ∀ n, latticeref18_With.l0 (n + 1) out false (m.map mkE) (m.length : Int) (i : Int) q0 q1 q2 q3 q4 q5 k v = (latticeref05_Compare.f n m[i].1 k).bind fun t => latticeref18_With.j1 n out false (m.map mkE) (m.length : Int) (i : Int) (decide (t ≥ 0)) q0 q1 q2 q3 q4 q5 k v (mkE m[i]).f0 (mkE m[i]).f1 := fun n => by
      simp only [latticeref18_With.l0]
      rw [if_pos (by omega), if_pos (by omega), if_pos (by rw [mkE_len]; omega), if_neg (by simp), hr]
      rfl
    refine Ev.step hl0 (Ev.bind hc ?_)
    by_cases hb : bytesBefore (kb m[i].1) (kb k) = true
    · have hlt0 := hn.2 hb
      have e : kb m[i].1 ≠ kb k := fun e => by rw [e, bb_irr] at hb; cases hb
      have hnb : ¬ bytesBefore (kb k) (kb m[i].1) = true := fun h => by have := bb_trans hb h; rw [bb_irr] at this; cases this
      rw [decide_eq_false (by omega), del_cons_ne e]
      have e2 : ins (k, v) (m[i] :: del (m.drop (i + 1)) k) = m[i] :: ins (k, v) (del (m.drop (i + 1)) k) := by rw [ins]; rw [if_neg hnb]
      rw [e2, List.map_cons]
      have := ih (i + 1) (out ++ [mkE m[i]]) (by omega) (by rw [List.length_append, List.length_singleton]; omega)
      rw [List.append_assoc] at this
      refine Ev.step (fun n => ?_) this
      simp only [latticeref18_With.j1]
      rw [if_neg (by simp), if_neg (by rw [tl, tl]; exact e), if_pos (by omega), wrap_up (by omega)]
    · have hge : ¬ cmpL (kb m[i].1) (kb k) < 0 := fun h => hb (hn.1 h)
      rw [decide_eq_true (by omega)]
      by_cases e : kb m[i].1 = kb k
      · have e2 : ins (k, v) (del (m[i] :: m.drop (i + 1)) k) = (k, v) :: del (m.drop (i + 1)) k := by
          rw [del_cons_eq e]
          exact ins_head fun p hp => by
            have := hafter p (List.mem_filter.1 hp).1
            rwa [e] at this
        rw [e2, List.map_cons]
        have := with_true m q0 q1 q2 q3 q4 q5 k v hm d (i + 1) (out ++ [mkE (k, v)]) (by omega) (by rw [List.length_append, List.length_singleton]; omega)
        rw [List.append_assoc] at this
        refine Ev.step (fun n => ?_) this
        simp only [latticeref18_With.j1]
        rw [if_pos trivial, if_pos (by omega), Option.bind_some, if_pos (by rw [tl, tl]; exact e), wrap_up (by omega)]
        rfl
      · have hkb : bytesBefore (kb k) (kb m[i].1) = true := bb_total (by simpa using hb) e
        have e2 : ins (k, v) (del (m[i] :: m.drop (i + 1)) k) = (k, v) :: m[i] :: del (m.drop (i + 1)) k := by
          rw [del_cons_ne e]
          refine ins_head fun p hp => ?_
          rcases List.mem_cons.1 hp with rfl | hp
          · exact hkb
          · exact bb_trans hkb (hafter p (List.mem_filter.1 hp).1)
        rw [e2, List.map_cons, List.map_cons]
        have := with_true m q0 q1 q2 q3 q4 q5 k v hm d (i + 1) (out ++ [mkE (k, v)] ++ [mkE m[i]]) (by omega) (by simp only [List.length_append, List.length_singleton]; omega)
        rw [List.append_assoc, List.append_assoc] at this
        refine Ev.step (fun n => ?_) this
        simp only [latticeref18_With.j1]
        rw [if_pos trivial, if_pos (by omega), Option.bind_some, if_neg (by rw [tl, tl]; exact e), if_pos (by simp only [List.length_append, List.length_singleton]; omega), wrap_up (by omega)]
        rw [List.append_assoc]
        rfl
end

theorem with_ev (m : List KV) (q0 q1 q2 q3 q4 q5 : Int) (k v : ByteArray) (hm : m.length ≤ 1099511627776) (hR : Rising m) (hz : ∀ p ∈ m, p.1.size ≤ 16) :
    Ev (fun n => latticeref18_With.f n (m.map mkE) q0 q1 q2 q3 q4 q5 k v) ((doV m q4 k v).map mkE) := by
  unfold latticeref18_With.f doV put
  rw [mkE_len]
  by_cases h4 : q4 = 1
  · have e : (q4 != 1) = false := by simpa using h4
    rw [if_pos h4, e]
    have := with_false m q0 q1 q2 q3 q4 q5 k v hm hR hz m.length 0 [] (by omega) (by simp; omega)
    rw [List.drop_zero, List.nil_append] at this
    exact this
  · have e : (q4 != 1) = true := by simpa using h4
    rw [if_neg h4, e]
    have := with_true m q0 q1 q2 q3 q4 q5 k v hm m.length 0 [] (by omega) (by simp; omega)
    rw [List.drop_zero, List.nil_append] at this
    exact this

theorem rdRec {l : List Rec} {i : Nat} (h : i < l.length) : rd_T51 l (i : Int) = l[i] := by
  unfold rd_T51
  simp [h]

theorem behind_sizes {l : List Rec} (hc : ∀ r ∈ l, isC r = true) : ∀ p ∈ behindV l, p.1.size ≤ 16 := fun p hp => by
  obtain ⟨r, hr, he⟩ := behindV_mem _ l rfl hp
  have hk := (isC_sizes (hc r hr)).1
  unfold keyR at hk
  rw [Bool.and_eq_true, decide_eq_true_eq] at hk
  rw [he]
  show r.f6.size ≤ 16
  omega

theorem rbehind_l0 (l : List Rec) (hl : l.length ≤ 1099511627776) (hc : ∀ r ∈ l, isC r = true) (n : Nat) (hn : n ≤ l.length) : ∀ (d i : Nat), i + d = n →
    Ev (fun k => latticeref18_Behind.l0 k (n : Int) l ((behindV (l.take i)).map mkE) (i : Int)) ((behindV (l.take n)).map mkE, 0) := by
  intro d
  induction d with
  | zero =>
    intro i hi
    obtain rfl : i = n := by omega
    refine Ev.step (f := fun _ => some ((behindV (l.take i)).map mkE, (0 : Int))) (fun k => ?_) (Ev.now _)
    simp only [latticeref18_Behind.l0]
    rw [if_neg (by omega)]
  | succ d ih =>
    intro i hi
    have hlt : i < l.length := by omega
    have hr := rdRec hlt
    have hb := behindV_take hlt
    have hlen := behindV_len _ (l.take i) rfl
    rw [List.length_take] at hlen
    have hw := with_ev (behindV (l.take i)) l[i].f0 l[i].f1 l[i].f2 l[i].f3 l[i].f4 l[i].f5 l[i].f6 l[i].f7 (by omega) (behind_rising _ _ rfl) (behind_sizes (fun r hr => hc r (List.mem_of_mem_take hr)))
    rw [hr] at hb
    rw [← hb] at hw
    refine Ev.step (f := fun k => (latticeref18_With.f k ((behindV (l.take i)).map mkE) l[i].f0 l[i].f1 l[i].f2 l[i].f3 l[i].f4 l[i].f5 l[i].f6 l[i].f7).bind fun t => latticeref18_Behind.l0 k (n : Int) l t ((i + 1 : Nat) : Int)) (fun k => ?_) (Ev.bind hw (ih (i + 1) (by omega)))
    simp only [latticeref18_Behind.l0]
    rw [if_pos (by omega), if_pos (by omega), if_pos (by omega), hr, wrap_up (by omega)]

theorem hist_f {l : List Rec} (hl : l.length ≤ 1099511627776) : fold_History.f l = some (histV l) := by unfold fold_History.f; rw [if_pos hl]
theorem rhist_f {l : List Rec} (hl : l.length ≤ 1099511627776) : latticeref18_History.f l = some (histV l) := by unfold latticeref18_History.f; rw [if_pos hl]
theorem hist_isC (l : List Rec) : ∀ r ∈ histV l, isC r = true := fun r hr => (List.mem_filter.1 hr).2
theorem hist_hist (l : List Rec) : histV (histV l) = histV l := List.filter_eq_self.2 (hist_isC l)

def bothB (l : List Rec) (n : Int) : List Ent × Int := if n < 0 then ([], 1) else if n > (l.length : Int) then ([], 1) else ((behindV (l.take n.toNat)).map mkE, 0)
theorem fbehind_ev {h : List Rec} (hl : h.length ≤ 1099511627776) (n : Int) : fold_Behind.f h n = some (bothB (histV h) n) := by
  unfold fold_Behind.f bothB
  rw [hist_f hl, Option.bind_some, if_pos (hist_small hl)]
  by_cases h1 : n < 0
  · rw [if_pos h1, if_pos h1]
  · rw [if_neg h1, if_neg h1]
    by_cases h2 : n > ((histV h).length : Int)
    · rw [if_pos h2, if_pos h2]
    · rw [if_neg h2, if_neg h2]
theorem rbehind_ev {h : List Rec} (hl : h.length ≤ 1099511627776) (n : Int) : Ev (fun k => latticeref18_Behind.f k h n) (bothB (histV h) n) := by
  unfold latticeref18_Behind.f bothB
  rw [rhist_f hl]
  have hlh := histV_len h
  refine Ev.bind (a := histV h) (Ev.now _) ?_
  by_cases h1 : n < 0
  · rw [if_pos h1]
    refine ev_pos h1 (Ev.step (f := fun _ => some ([], (1 : Int))) (fun k => ?_) (Ev.now _))
    simp only [latticeref18_Behind.j0]
    rw [if_pos trivial]
  · rw [if_neg h1]
    refine ev_neg h1 ?_
    by_cases h2 : n > ((histV h).length : Int)
    · rw [if_pos h2, decide_eq_true h2]
      refine Ev.step (f := fun _ => some ([], (1 : Int))) (fun k => ?_) (Ev.now _)
      simp only [latticeref18_Behind.j0]
      rw [if_pos trivial]
    · rw [if_neg h2, decide_eq_false h2]
      obtain ⟨m, rfl⟩ : ∃ m : Nat, n = (m : Int) := ⟨n.toNat, by omega⟩
      rw [Int.toNat_natCast]
      refine Ev.step (fun k => ?_) (rbehind_l0 (histV h) (by omega) (hist_isC h) m (by omega) m 0 (by omega))
      simp only [latticeref18_Behind.j0]
      rw [if_neg (by simp)]
      rfl
theorem bothB_len (l : List Rec) (n : Int) : (bothB l n).1.length ≤ l.length := by
  unfold bothB
  split
  · simp
  · split
    · simp
    · rw [mkE_len]
      have := behindV_len _ (l.take n.toNat) rfl
      rw [List.length_take] at this
      omega

theorem entries_self' (l : List Ent) (hl : l.length < 9223372036854775807) : Ev (fun k => latticeplain_Entries.f k l l) true := by
  have h : ∀ (d i : Nat), i + d = l.length → Ev (fun k => latticeplain_Entries.l0 k l l (l.length : Int) (i : Int)) true := by
    intro d
    induction d with
    | zero =>
      intro i hi
      refine Ev.step (f := fun _ => some true) (fun k => ?_) (Ev.now _)
      simp only [latticeplain_Entries.l0]
      rw [if_neg (by omega)]
    | succ d ih =>
      intro i hi
      refine Ev.step (fun k => ?_) (ih (i + 1) (by omega))
      simp only [latticeplain_Entries.l0]
      rw [if_pos (by omega), if_pos (by omega), if_pos (by omega), if_pos (by omega), if_neg (by simp), wrap_up (by omega)]
  unfold latticeplain_Entries.f
  exact ev_pos rfl (h l.length 0 (by omega))
theorem records_self (l : List Rec) (hl : l.length < 9223372036854775807) : Ev (fun k => latticeplain_Records.f k l l) true := by
  have h : ∀ (d i : Nat), i + d = l.length → Ev (fun k => latticeplain_Records.l0 k l l (l.length : Int) (i : Int)) true := by
    intro d
    induction d with
    | zero =>
      intro i hi
      refine Ev.step (f := fun _ => some true) (fun k => ?_) (Ev.now _)
      simp only [latticeplain_Records.l0]
      rw [if_neg (by omega)]
    | succ d ih =>
      intro i hi
      refine Ev.step (fun k => ?_) (ih (i + 1) (by omega))
      simp only [latticeplain_Records.l0]
      rw [if_pos (by omega), if_pos (by omega), if_pos (by omega), if_pos (by omega), if_neg (by simp), wrap_up (by omega)]
  unfold latticeplain_Records.f
  exact ev_pos rfl (h l.length 0 (by omega))

theorem tells_ev (h : List Rec) (n : Int) : Ev (fun k => latticelaw18_FoldTells.f k h n) true := by
  unfold latticelaw18_FoldTells.f
  by_cases hb : (h.length : Int) > 2000
  · exact ev_pos hb (Ev.bind speaks_ev (Ev.now _))
  · refine ev_neg hb ?_
    have hl : h.length ≤ 1099511627776 := by omega
    have hlh := histV_len h
    have hbl := bothB_len (histV h) n
    rw [fbehind_ev hl n]
    refine Ev.bind (a := bothB (histV h) n) (Ev.now _) (Ev.bind (rbehind_ev hl n) ?_)
    rw [hist_f hl, rhist_f hl]
    refine Ev.bind (a := histV h) (Ev.now _) (Ev.bind (a := histV h) (Ev.now _) ?_)
    exact Ev.bind (records_self _ (by omega)) (ev_pos rfl (Ev.bind (entries_self' _ (by omega)) (ev_pos rfl (ev_pos rfl (Ev.bind speaks_ev (Ev.now _))))))

end Go.Proofs.YtjhbihhiceimcaaGreat.FM
