-- Printed by wip/tools/myprint.py (over the kit's print.py), with hand-written contracts; Lean checks all of it.
import Derived.Test.YtjhbihhiceimcaaGreatPFZx0
import Derived.Test.YtjhbihhiceimcaaGreatPFZx3
namespace Go.Proofs.YtjhbihhiceimcaaGreat.PFZ
open Go.RowKit Go.Proofs.YtjhbihhiceimcaaGreatW.PrintWords Go.Proofs.YtjhbihhiceimcaaGreatW.PrintLast Go.Proofs.YtjhbihhiceimcaaGreatW.PrintMore
attribute [local go_sem] max2_int min2_int max_two min_two max_three min_three max_four min_four   -- for this text's walks alone
set_option linter.unusedVariables false
set_option linter.unusedSimpArgs false

/-! ### fold_History: function 10 -/
theorem rowinfoH : (Tryz.prog.info? 51).map (fun i => (i.zero, i.size, i.bytes)) = some (some (.agg #[(.int .i64 0), (.int .i64 0), (.int .i64 0), (.int .i64 0), (.int .i64 0), (.int .i64 0), (.string ⟨#[]⟩), (.string ⟨#[]⟩)]), 8, 80) := by kernel_rfl
/-- Is a record a right commit? -/
def isC (r : S51) : Bool := decide (r.f2 = 7) && commitOk r.f0 r.f1 r.f3 r.f4 r.f5 r.f6 r.f7
def histV (l : List S51) : List S51 := l.filter isC
theorem histV_take {l : List S51} {j : Nat} (h : j < l.length) : histV (l.take (j + 1)) = if isC (rd_T51 l (j : Int)) = true then histV (l.take j) ++ [rd_T51 l (j : Int)] else histV (l.take j) := by
  have e : rd_T51 l (j : Int) = l[j] := by unfold rd_T51; simp [h]
  rw [List.take_succ_eq_append_getElem h, e]
  unfold histV
  rw [List.filter_append]
  by_cases hc : isC l[j] = true
  · rw [if_pos hc]; simp [hc]
  · rw [if_neg hc]; simp [hc]
theorem histV_len (l : List S51) : (histV l).length ≤ l.length := List.length_filter_le _ _
theorem check_7 (q0 q1 q3 q4 q5 : Int) (q6 q7 : ByteArray) : record_Check.f q0 q1 7 q3 q4 q5 q6 q7 = some (if commitOk q0 q1 q3 q4 q5 q6 q7 = true then 0 else 90) := by
  unfold record_Check.f
  rw [if_pos rfl]
def fold_History.f (l0 : List S51) : Option (List S51) := if l0.length ≤ 1099511627776 then some (histV l0) else none
set_option maxHeartbeats 8000000 in
set_option maxRecDepth 100000 in
theorem fold_History.calls (A0 : Option Addr) (c0 : Nat) (l0 : List (S51)) (r : List (S51)) (w : World) (hr0 : Kd.C k51 w A0 l0.length l0) (hc0 : l0.length ≤ c0) (h : fold_History.f l0 = some r) :
    Calls Tryz.prog 10 #[.slice A0 l0.length c0] w fun e w' => ∃ v0_ : Value, e = .returned (v0_) ∧ Kd.R k51 51 w' w.heap.size (fun _ => True) v0_ r ∧ Below w.heap.size w w' := by
  unfold fold_History.f at h
  by_cases hlen : l0.length ≤ 1099511627776
  · rw [if_pos hlen] at h
    obtain rfl := Option.some.inj h
    have HC := Aside0.mk hr0
    clear h hr0 hc0
    go_enter Tryz.func10, Tryz.ntmps10
    go_wp2
    go_loopw [3, 8] (fun o i wr => ∃ j : Nat, j ≤ l0.length ∧ i = .int .i64 j ∧ Aside0 (Kd.R k51 51 wr w.heap.size (fun _ => True) o (histV (l0.take j))) ∧ Aside0 (Below w.heap.size w wr)) (fun _ i _ => l0.length - (intOf i).toNat)
    case atStart => exact ⟨0, Nat.zero_le _, rfl, ⟨by rw [List.take_zero]; exact Kd.R_nil _ _ _ _ _⟩, ⟨Below.refl _ _⟩⟩
    case round =>
      obtain ⟨j, hj, rfl, HO, HW⟩ := hrel
      by_cases hlt : j < l0.length
      · have HT := Aside0.mk (histV_take hlt)
        have hln : (histV (l0.take j)).length ≤ j := Nat.le_trans (histV_len _) (List.length_take_le _ _)
        obtain ⟨ad, hA, g0, g1, g2, g3, g4, g5, g6, g7⟩ := at_T51 (Kd.C_below HC.out HW.out) (j : Int) (by omega) (by omega)
        rw [Int.toNat_natCast] at g0 g1 g2 g3 g4 g5 g6 g7
        subst hA
        generalize rd_T51 l0 (j : Int) = q at HT g0 g1 g2 g3 g4 g5 g6 g7
        obtain ⟨q0, q1, q2, q3, q4, q5, q6, q7⟩ := q
        simp only at g0 g1 g2 g3 g4 g5 g6 g7
        by_cases h7 : q2 = 7
        · subst h7
          have cC := record_Check.calls q0 q1 7 q3 q4 q5 q6 q7 _ (wr.alloc (.cells #[.int .i64 q0, .int .i64 q1, .int .i64 7, .int .i64 q3, .int .i64 q4, .int .i64 q5, .string q6, .string q7] 51)) (check_7 q0 q1 q3 q4 q5 q6 q7)
          have HI : Aside0 (isC (⟨q0, q1, 7, q3, q4, q5, q6, q7⟩ : S51) = commitOk q0 q1 q3 q4 q5 q6 q7) := ⟨by unfold isC; simp⟩
          cases hk : commitOk q0 q1 q3 q4 q5 q6 q7
          · rw [hk, if_neg (by decide)] at cC
            have HT2 : Aside0 (histV (l0.take (j + 1)) = histV (l0.take j)) := ⟨by rw [HT.out, HI.out, hk, if_neg (by decide)]⟩
            clear hk HT HI
            go_wp2_with fail
            refine cC.mono ?_
            rintro e w2 ⟨rfl, hb⟩
            have HB := Aside0.mk (((Below.refl _ wr).alloc (Nat.le_refl _) _).trans (hb.mono (by simp)))
            clear hb
            go_wp2
            go_roundw
            case rel => exact ⟨j + 1, by omega, by go_num, ⟨by rw [HT2.out]; exact Kd.R_below HO.out HB.out⟩, ⟨HW.out.trans (HB.out.mono HW.out.size)⟩⟩
            case measure => simp [intOf]; omega
          · rw [hk, if_pos rfl] at cC
            have HT2 : Aside0 (histV (l0.take (j + 1)) = histV (l0.take j) ++ [⟨q0, q1, 7, q3, q4, q5, q6, q7⟩]) := ⟨by rw [HT.out, HI.out, hk, if_pos rfl]⟩
            clear hk HT HI
            go_wp2_with fail
            refine cC.mono ?_
            rintro e w2 ⟨rfl, hb⟩
            have HB := Aside0.mk (((Below.refl _ wr).alloc (Nat.le_refl _) _).trans (hb.mono (by simp)))
            have b0 : w2.cell? ⟨wr.heap.size, 0, none⟩ = some (.int .i64 q0) := (hb.cell (p := ⟨wr.heap.size, 0, none⟩) (by simp)).trans (by simp)
            have b1 : w2.cell? ⟨wr.heap.size, 1, none⟩ = some (.int .i64 q1) := (hb.cell (p := ⟨wr.heap.size, 1, none⟩) (by simp)).trans (by simp)
            have b2 : w2.cell? ⟨wr.heap.size, 2, none⟩ = some (.int .i64 7) := (hb.cell (p := ⟨wr.heap.size, 2, none⟩) (by simp)).trans (by simp)
            have b3 : w2.cell? ⟨wr.heap.size, 3, none⟩ = some (.int .i64 q3) := (hb.cell (p := ⟨wr.heap.size, 3, none⟩) (by simp)).trans (by simp)
            have b4 : w2.cell? ⟨wr.heap.size, 4, none⟩ = some (.int .i64 q4) := (hb.cell (p := ⟨wr.heap.size, 4, none⟩) (by simp)).trans (by simp)
            have b5 : w2.cell? ⟨wr.heap.size, 5, none⟩ = some (.int .i64 q5) := (hb.cell (p := ⟨wr.heap.size, 5, none⟩) (by simp)).trans (by simp)
            have b6 : w2.cell? ⟨wr.heap.size, 6, none⟩ = some (.string q6) := (hb.cell (p := ⟨wr.heap.size, 6, none⟩) (by simp)).trans (by simp)
            have b7 : w2.cell? ⟨wr.heap.size, 7, none⟩ = some (.string q7) := (hb.cell (p := ⟨wr.heap.size, 7, none⟩) (by simp)).trans (by simp)
            have HW2 : Aside0 (Below w.heap.size w w2) := ⟨HW.out.trans (HB.out.mono HW.out.size)⟩
            have HO2 : Aside0 (Kd.R k51 51 w2 w.heap.size (fun _ => True) _ (histV (l0.take j))) := ⟨Kd.R_below HO.out HB.out⟩
            clear hb HO g0 g1 g2 g3 g4 g5 g6 g7
            go_wp2_with ((with_reducible refine gate_builtin (b := .append) (xs := #[.tmp 20, .tmp 22]) rfl ?_); at_builtin; refine Kd.R_append k51 (w0 := w) w.heap.size rfl (.tmp 20) (.tmp 22) 22 51 (.agg #[.int .i64 0, .int .i64 0, .int .i64 0, .int .i64 0, .int .i64 0, .int .i64 0, .string ⟨#[]⟩, .string ⟨#[]⟩]) 80 rfl Tryz.underlying22 rowinfoH rfl (by decide) (by omega) _ (histV (l0.take j)) (⟨q0, q1, 7, q3, q4, q5, q6, q7⟩ : S51) [.int .i64 q0, .int .i64 q1, .int .i64 7, .int .i64 q3, .int .i64 q4, .int .i64 q5, .string q6, .string q7] (fun _ => True) (fun _ => False) rfl rfl (k51_mkM _ _ _ (⟨q0, q1, 7, q3, q4, q5, q6, q7⟩ : S51)) (fun _ hk => hk.elim) (fun _ _ => trivial) HO2.out HW2.out HW2.out.size (by omega) ?_; intro v1 w3 hR1 hB1 hg1 hv1; rw [← HT2.out] at hR1; have HR1 := Aside0.mk hR1; have HB1 := Aside0.mk hB1; clear hR1 hB1 hg1 hv1)
            go_roundw
            case rel => exact ⟨j + 1, by omega, by go_num, HR1, HB1⟩
            case measure => simp [intOf]; omega
        · have h7b : (q2 == 7) = false := by simpa using h7
          have HT2 : Aside0 (histV (l0.take (j + 1)) = histV (l0.take j)) := ⟨by rw [HT.out, if_neg]; unfold isC; simp [h7]⟩
          clear h7 HT
          go_wp2
          go_roundw
          case rel => exact ⟨j + 1, by omega, by go_num, ⟨by rw [HT2.out]; exact Kd.R_alloc HO.out _⟩, ⟨HW.out.alloc HW.out.size _⟩⟩
          case measure => simp [intOf]; omega
      · obtain rfl : j = l0.length := by omega
        go_wp2
        go_ret
        exact ⟨_, rfl, by have := HO.out; rwa [List.take_length] at this, HW.out⟩
  · rw [if_neg hlen] at h
    cases h


/-! ### fold_Behind: function 7 -/
open Go.Proofs.YtjhbihhiceimcaaGreat.FMap
/-- The map behind some writes, its entries in the keys' order. -/
def behindV (l : List S51) : List KV := l.foldl (fun m r => doV m r.f4 r.f6 r.f7) []
def mkE (p : KV) : S48 := ⟨p.1, p.2⟩
def smallR (l : List S51) : Bool := l.all (fun r => decide (r.f6.size ≤ maxLen) && decide (r.f7.size ≤ maxLen)) && decide (l.length ≤ 1099511627776)
theorem smallR_at {l : List S51} (h : smallR l = true) : l.length ≤ 1099511627776 ∧ ∀ r ∈ l, r.f6.size ≤ maxLen ∧ r.f7.size ≤ maxLen := by
  unfold smallR at h
  rw [Bool.and_eq_true, decide_eq_true_eq, List.all_eq_true] at h
  exact ⟨h.2, fun r hr => by simpa using h.1 r hr⟩
theorem behindV_snoc (l : List S51) (r : S51) : behindV (l ++ [r]) = doV (behindV l) r.f4 r.f6 r.f7 := by simp [behindV, List.foldl_append]
theorem behindV_take {l : List S51} {j : Nat} (h : j < l.length) : behindV (l.take (j + 1)) = doV (behindV (l.take j)) (rd_T51 l (j : Int)).f4 (rd_T51 l (j : Int)).f6 (rd_T51 l (j : Int)).f7 := by
  rw [List.take_succ_eq_append_getElem h, behindV_snoc]
  have : rd_T51 l (j : Int) = l[j] := by unfold rd_T51; simp [h]
  rw [this]
theorem behindV_len : ∀ (n : Nat) (l : List S51), l.length = n → (behindV l).length ≤ n
  | 0, l, h => by
    have : l = [] := List.eq_nil_of_length_eq_zero h
    subst this; exact Nat.le_refl _
  | n + 1, l, h => by
    obtain ⟨t, x, rfl⟩ : ∃ t x, l = t ++ [x] := ⟨l.dropLast, l.getLast (by intro e; simp [e] at h), (List.dropLast_concat_getLast _).symm⟩
    rw [behindV_snoc]
    have := behindV_len n t (by simpa using h)
    have := do_length (behindV t) x.f4 x.f6 x.f7
    omega
theorem behindV_mem {p : KV} : ∀ (n : Nat) (l : List S51), l.length = n → p ∈ behindV l → ∃ r ∈ l, p = (r.f6, r.f7)
  | 0, l, h, hp => by
    have : l = [] := List.eq_nil_of_length_eq_zero h
    subst this; cases hp
  | n + 1, l, h, hp => by
    obtain ⟨t, x, rfl⟩ : ∃ t x, l = t ++ [x] := ⟨l.dropLast, l.getLast (by intro e; simp [e] at h), (List.dropLast_concat_getLast _).symm⟩
    rw [behindV_snoc] at hp
    rcases do_mem hp with hp | hp
    · exact ⟨x, by simp, hp⟩
    · obtain ⟨r, hr, e⟩ := behindV_mem n t (by simpa using h) hp
      exact ⟨r, by simp [hr], e⟩
def fold_Behind.f (l0 : List S51) (a1 : Int) : Option (List S48 × Int) := (fold_History.f l0).bind fun l => if smallR l = true then (if a1 < 0 then some ([], 1) else if a1 > (l.length : Int) then some ([], 1) else some ((behindV (l.take a1.toNat)).map mkE, 0)) else none
set_option maxHeartbeats 8000000 in
set_option maxRecDepth 100000 in
theorem fold_Behind.calls (A0 : Option Addr) (c0 : Nat) (l0 : List (S51)) (a1 : Int) (r1 : List (S48)) (r2 : Int) (w : World) (hr0 : Kd.C k51 w A0 l0.length l0) (hc0 : l0.length ≤ c0) (h : fold_Behind.f l0 a1 = some (r1, r2)) :
    Calls Tryz.prog 7 #[.slice A0 l0.length c0, .int .i64 a1] w fun e w' => ∃ v0_ : Value, e = .returned (.tuple #[v0_, .int .i64 r2]) ∧ Kd.R k48 48 w' w.heap.size (fun _ => True) v0_ r1 ∧ Below w.heap.size w w' := by
  unfold fold_Behind.f at h
  have h9 := Option.bind_eq_some_iff.1 h
  clear h
  obtain ⟨l, hH, h⟩ := h9
  by_cases hs : smallR l = true
  · rw [if_pos hs] at h
    obtain ⟨hlen, hsz⟩ := smallR_at hs
    have cH := fold_History.calls A0 c0 l0 l w hr0 hc0 hH
    have HLEN := Aside0.mk hlen
    have HSZ := Aside0.mk hsz
    clear hs hH hr0 hc0 hlen hsz
    by_cases h1 : a1 < 0
    · rw [if_pos h1] at h
      obtain ⟨rfl, rfl⟩ := Prod.mk.inj (Option.some.inj h)
      clear h
      go_enter Tryz.func7, Tryz.ntmps7
      go_wp2_with (go_at_call 10; refine cH.mono ?_; rintro e w1 ⟨v, rfl, hR, hB⟩)
      go_ret2
      exact ⟨_, rfl, Kd.R_nil _ _ _ _ _, hB⟩
    · rw [if_neg h1] at h
      obtain ⟨n, rfl⟩ : ∃ n : Nat, a1 = (n : Int) := ⟨a1.toNat, by omega⟩
      by_cases h2 : l.length < n
      · rw [if_pos (by omega)] at h
        obtain ⟨rfl, rfl⟩ := Prod.mk.inj (Option.some.inj h)
        clear h h1
        go_enter Tryz.func7, Tryz.ntmps7
        go_wp2_with (go_at_call 10; refine cH.mono ?_; rintro e w1 ⟨v, rfl, hR, hB⟩; obtain ⟨A, c, rfl, hlc, hC⟩ := Kd.R_reads hR; clear hR hC)
        go_ret2
        exact ⟨_, rfl, Kd.R_nil _ _ _ _ _, hB⟩
      · rw [if_neg (by omega)] at h
        obtain ⟨rfl, rfl⟩ := Prod.mk.inj (Option.some.inj h)
        rw [Int.toNat_natCast]
        have hn : n ≤ l.length := by omega
        have hn9 := HLEN.out
        have hd1 : decide ((n : Int) < 0) = false := decide_eq_false (by omega)
        have hd2 : decide (l.length < n) = false := decide_eq_false (by omega)
        have hmm := @run_makeMap Tryz.prog
        clear h h1 h2
        go_enter Tryz.func7, Tryz.ntmps7
        go_wp2_with (go_at_call 10; refine cH.mono ?_; rintro e w1 ⟨v, rfl, hR, hB⟩; obtain ⟨A, c, rfl, hlc, hC⟩ := Kd.R_reads hR; have HC := Aside0.mk hC; have HB := Aside0.mk hB; clear hR hC hB)
        go_loopw [25] (fun i wr => ∃ j : Nat, j ≤ n ∧ i = .int .i64 j ∧ Aside0 (Owns wr w1.heap.size j (behindV (l.take j))) ∧ Aside0 (Below w1.heap.size w1 wr) ∧ Aside0 (w1.heap.size + 1 ≤ wr.heap.size)) (fun i _ => n - (intOf i).toNat)
        case atStart => exact ⟨0, Nat.zero_le _, rfl, ⟨by rw [List.take_zero]; exact owns_made w1⟩, ⟨(Below.refl _ _).alloc (Nat.le_refl _) _⟩, ⟨by simp⟩⟩
        case round =>
          obtain ⟨j, hj, rfl, HO, HW, HG⟩ := hrel
          by_cases hlt : j < n
          · have hjl : j < l.length := by omega
            have HT := Aside0.mk (behindV_take hjl)
            have hq : rd_T51 l (j : Int) ∈ l := by
              rw [show rd_T51 l (j : Int) = l[j] from by unfold rd_T51; simp [hjl]]
              exact List.getElem_mem hjl
            have hz := HSZ.out _ hq
            clear hq
            obtain ⟨ad, hA, g0, g1, g2, g3, g4, g5, g6, g7⟩ := at_T51 (Kd.C_below HC.out HW.out) (j : Int) (by omega) (by omega)
            rw [Int.toNat_natCast] at g0 g1 g2 g3 g4 g5 g6 g7
            subst hA
            have HZ := Aside0.mk hz
            clear hz
            generalize rd_T51 l (j : Int) = q at HT HZ g0 g1 g2 g3 g4 g5 g6 g7
            obtain ⟨q0, q1, q2, q3, q4, q5, q6, q7⟩ := q
            simp only at g0 g1 g2 g3 g4 g5 g6 g7
            go_wp2_with fail
            refine (do_any w1.heap.size j (behindV (l.take j)) (wr.alloc (.cells #[.int .i64 q0, .int .i64 q1, .int .i64 q2, .int .i64 q3, .int .i64 q4, .int .i64 q5, .string q6, .string q7] 51)) q0 q1 q2 q3 q4 q5 q6 q7 (HO.out.alloc _) (by unfold maxLen; omega) HZ.out.1 HZ.out.2).mono ?_
            rintro e w2 ⟨rfl, hO2, hG2⟩
            have HO2 := Aside0.mk hO2
            have HB2 := Aside0.mk ((HW.out.alloc HW.out.size _).grown hG2 (by have := HW.out.size; simp; omega) (fun k_ hk_ => by cases hk_; exact Nat.le_refl _))
            have HG2 := Aside0.mk (Nat.le_trans HG.out (Nat.le_trans (by simp) hG2.size))
            clear hO2 hG2 g0 g1 g2 g3 g4 g5 g6 g7
            go_wp2
            go_roundw
            case rel => exact ⟨j + 1, by omega, by go_num, ⟨by rw [HT.out]; exact HO2.out⟩, HB2, HG2⟩
            case measure => simp [intOf]; omega
          · obtain rfl : j = n := by omega
            have cE := entries_any w1.heap.size j (behindV (l.take j)) wr HO.out (by have := behindV_len _ _ (show (l.take j).length = j by simp; omega); omega) (fun p hp => by
              obtain ⟨r, hr, rfl⟩ := behindV_mem _ _ rfl hp
              exact (HSZ.out r (List.mem_of_mem_take hr)).1)
            go_wp2_with fail
            refine cE.mono ?_
            rintro e w2 ⟨v, rfl, hR, hB2⟩
            go_wp2
            go_ret2
            exact ⟨_, rfl, R_iso (g := mkE) (fun _ => rfl) (Kd.R_lower hR (Nat.le_trans HB.out.size HW.out.size)), HB.out.trans ((HW.out.trans (hB2.mono HW.out.size)).mono HB.out.size)⟩
  · rw [if_neg hs] at h
    cases h


end Go.Proofs.YtjhbihhiceimcaaGreat.PFZ
