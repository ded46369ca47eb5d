/- TraceOnce: where no rule is broken each write that is acked is in the last history, once, and no call is both open and acked: for any trace. -/
import Derived.Test.YtegfnceepplooaaTMem
import Derived.Test.YtegfnceepplooaaTAns
import Derived.BigQuiet
import Derived.Test.YtegfnceepplooaaTChoice
import Derived.Test.YtegfnceepplooaaTStep
import Derived.Test.YtegfnceepplooaaWRepsOne
import Derived.Test.YtegfnceepplooaaTThere
import Derived.Test.YtegfnceepplooaaTOpenV
import Derived.Test.YtegfnceepplooaaOpens
import Derived.Test.YtegfnceepplooaaRows
import Derived.WalkKit
import Derived.ProofKit
import Derived.OpenShut
import Derived.ShutString
import Derived.ChangeOld
import Derived.Below
import Derived.SizedLaws
set_option linter.unusedVariables false
set_option linter.unusedSimpArgs false
namespace Go.Proofs.Ytegfnceepplooaa.TR
open Go.RowKit Go.Maps Go.Proofs.Ytegfnceepplooaa.FMap Go.Proofs.Ytegfnceepplooaa.PTR Go.Proofs.YtegfnceepplooaaW.PrintWords Go.Proofs.YtegfnceepplooaaW.PrintLast

/-- The memory behind a new watcher. -/
def begW (W : World) : World := (((W.alloc (.map #[] 0)).alloc (.map #[] 0)).alloc (.map #[] 0)).alloc (.cells #[.map (some W.heap.size), .map (some (W.heap.size + 1)), .slice none 0 0, .map (some (W.heap.size + 1 + 1)), .slice none 0 0, .slice none 0 0] 63)
theorem begW_below (W : World) : Below W.heap.size W (begW W) := by
  unfold begW
  exact ((((Below.refl _ W).alloc (Nat.le_refl _) _).alloc (by simp only [World.size_alloc]; omega) _).alloc (by simp only [World.size_alloc]; omega) _).alloc (by simp only [World.size_alloc]; omega) _
theorem MapI.allocd {α : Type} {R : Value → Option (DataW Unit × List MemPlace)} {en : α → DataW Unit} {W : World} {b n : Nat} {f : Int → Option α} (h : MapI R en W b n f) (o : Obj) : MapI R en (W.alloc o) b n f := h.same (Below.heap_alloc _ _ _ h.lt)
theorem begW_at (W : World) : WAt W (begW W) (W.heap.size + 1 + 1 + 1) 0 st0 [] W.heap.size (W.heap.size + 1) (W.heap.size + 1 + 1) (.slice none 0 0) none 0 none 0 := by
  have m1 := MapI.made (R := RC) (en := enC) W
  have m2 := MapI.made (R := RI) (en := enI) (W.alloc (.map #[] 0))
  have m3 := MapI.made (R := RI) (en := enI) ((W.alloc (.map #[] 0)).alloc (.map #[] 0))
  have hb := blk_new (((W.alloc (.map #[] 0)).alloc (.map #[] 0)).alloc (.map #[] 0)) (.cells #[.map (some W.heap.size), .map (some (W.heap.size + 1)), .slice none 0 0, .map (some (W.heap.size + 1 + 1)), .slice none 0 0, .slice none 0 0] 63)
  have e1 : (W.alloc (.map #[] 0)).heap.size = W.heap.size + 1 := by simp
  have e2 : ((W.alloc (.map #[] 0)).alloc (.map #[] 0)).heap.size = W.heap.size + 1 + 1 := by simp
  have e3 : (((W.alloc (.map #[] 0)).alloc (.map #[] 0)).alloc (.map #[] 0)).heap.size = W.heap.size + 1 + 1 + 1 := by simp
  rw [e1] at m2
  rw [e2] at m3
  rw [e3] at hb
  refine {
    below := begW_below W
    block := hb
    calls := ?_
    codes := ?_
    floors := ?_
    order := Kd.R_nil _ _ _ _ _
    before := ⟨Kd.C_nil _ _, Nat.le_refl _⟩
    at_h := ⟨Kd.C_nil _ _, Nat.le_refl _⟩
    hbw := by omega
    hbc := by omega
    hbd := by omega
    hbf := by omega
    cd := by omega
    cf := by omega
    df := by omega }
  · exact ((m1.allocd _).allocd _).allocd _
  · exact (m2.allocd _).allocd _
  · exact m3.allocd _
theorem begin_any (W : World) : Calls Try.prog 16 #[] W fun e W' => e = .returned (.pointer (some ⟨W.heap.size + 1 + 1 + 1, 0, none⟩)) ∧ W' = begW W := by
  have hmm := @run_makeMap Try.prog
  go_enter Try.func16, Try.ntmps16
  go_wp2
  go_ret
  exact ⟨rfl, rfl⟩
end Go.Proofs.Ytegfnceepplooaa.TR

set_option linter.unusedVariables false
set_option linter.unusedSimpArgs false
namespace Go.Proofs.Ytegfnceepplooaa.TR
open Go.RowKit Go.Maps Go.Proofs.Ytegfnceepplooaa.FMap Go.Proofs.Ytegfnceepplooaa.PTR Go.Proofs.YtegfnceepplooaaW.PrintWords Go.Proofs.YtegfnceepplooaaW.PrintLast

abbrev kS := k40
/-- The numbers of a step fit. -/
def okS (s : Seen) : Prop := (Lit.int .i64 s.f0.f1).wf = true ∧ (Lit.int .i64 s.f0.f4.f0).wf = true ∧ (∀ a ∈ s.f1, okA a) ∧ ∀ r ∈ s.f2, (Lit.int .i64 r.f5).wf = true
theorem rdS_at {l : List Seen} {j : Nat} (h : j < l.length) : rd_T40 l (j : Int) = l[j] := by
  unfold rd_T40
  simp [List.getD_eq_getElem?_getD, h]
theorem rdS_mem {l : List Seen} {j : Nat} (h : j < l.length) : rd_T40 l (j : Int) ∈ l := by
  rw [rdS_at h]
  exact List.getElem_mem h
theorem sum_mem {α : Type} (f : α → Nat) : ∀ {l : List α} {x : α}, x ∈ l → f x ≤ (l.map f).sum
  | y :: l, x, h => by
    rw [List.map_cons, List.sum_cons]
    rcases List.mem_cons.1 h with rfl | h
    · omega
    · have := sum_mem f h
      omega
theorem sum_take {α : Type} (f : α → Nat) : ∀ (l : List α) (n : Nat), ((l.take n).map f).sum ≤ (l.map f).sum
  | [], n => by simp
  | y :: l, 0 => by simp
  | y :: l, n + 1 => by
    have := sum_take f l n
    simp only [List.take_succ_cons, List.map_cons, List.sum_cons]
    omega
theorem small_mem {l : List Seen} (h : smallL l) {s : Seen} (hs : s ∈ l) : s.f1.length ≤ 2000 ∧ s.f2.length ≤ 2000 := by
  have h1 := h.2
  have : s.f1.length + s.f2.length ≤ _ := sum_mem (fun s : Seen => s.f1.length + s.f2.length) hs
  omega
theorem small_take {l : List Seen} (h : smallL l) (n : Nat) : smallL (l.take n) := by
  obtain ⟨h1, h2⟩ := h
  have := sum_take (fun s : Seen => s.f1.length + s.f2.length) l n
  exact ⟨by rw [List.length_take]; omega, Nat.le_trans this h2⟩

abbrev seenV (p0 p1 p2 p3 c0 c1 o0 : Int) (o1 o2 : ByteArray) (v9 v10 v11 : Value) : Value := .agg #[.int .i64 p0, .int .i64 p1, .int .i64 p2, .int .i64 p3, .int .i64 c0, .int .i64 c1, .int .i64 o0, .string o1, .string o2, v9, v10, v11]
set_option maxHeartbeats 4000000 in
theorem long_any (p0 p1 p2 p3 c0 c1 o0 : Int) (o1 o2 : ByteArray) (v9 : Value) (A10 A11 : Option Addr) (n10 n11 k10 k11 : Nat) (h1 : n10 ≤ 2000) (h2 : n11 ≤ 2000) (W : World) :
    Calls Try.prog 14 #[.agg #[.int .i64 p0, .int .i64 p1, .int .i64 p2, .int .i64 p3, .int .i64 c0, .int .i64 c1, .int .i64 o0, .string o1, .string o2, v9, .slice A10 n10 k10, .slice A11 n11 k11]] W fun e w' => e = .returned (.bool false) ∧ Below W.heap.size W w' := by
  have d1 : decide ((4096 : Int) < n10) = false := decide_eq_false (by omega)
  have d2 : decide ((4096 : Int) < n11) = false := decide_eq_false (by omega)
  have hb := blk_new W (.cells #[.int .i64 p0, .int .i64 p1, .int .i64 p2, .int .i64 p3, .int .i64 c0, .int .i64 c1, .int .i64 o0, .string o1, .string o2, v9, .slice A10 n10 k10, .slice A11 n11 k11] 40)
  have x10 : (W.alloc (.cells #[.int .i64 p0, .int .i64 p1, .int .i64 p2, .int .i64 p3, .int .i64 c0, .int .i64 c1, .int .i64 o0, .string o1, .string o2, v9, .slice A10 n10 k10, .slice A11 n11 k11] 40)).cell? ⟨W.heap.size, 10, none⟩ = some (.slice A10 n10 k10) := (blk_cell hb 10).trans rfl
  have x11 : (W.alloc (.cells #[.int .i64 p0, .int .i64 p1, .int .i64 p2, .int .i64 p3, .int .i64 c0, .int .i64 c1, .int .i64 o0, .string o1, .string o2, v9, .slice A10 n10 k10, .slice A11 n11 k11] 40)).cell? ⟨W.heap.size, 11, none⟩ = some (.slice A11 n11 k11) := (blk_cell hb 11).trans rfl
  clear hb
  go_enter Try.func14, Try.ntmps14
  go_wp2
  go_ret
  exact ⟨rfl, (Below.refl _ _).alloc (Nat.le_refl _) _⟩
set_option maxHeartbeats 4000000 in
theorem index_none (A : Option Addr) (c : Nat) (l : List Seen) (w : World) (hC : Kd.C kS w A l.length l) (hs : smallL l) :
    Calls Try.prog 21 #[.slice A l.length c, .func (.func 14) #[] #[]] w fun e w' => e = .returned (.int .i64 (-1)) ∧ Below w.heap.size w w' := by
  have eg : ∀ args w, (callFunc 14 args).run Try.prog w = .ok (.enter 14 args) w := enters_of Try.func14 (by kernel_rfl) rfl
  have HC := Aside0.mk hC
  have HS := Aside0.mk hs
  have hn := hs.1
  clear hC hs
  go_enter Try.func21, Try.ntmps21
  go_wp2
  go_loopw [8] (fun i wr => ∃ j : Nat, j ≤ l.length ∧ i = .int .i64 j ∧ Aside0 (Below w.heap.size w wr)) (fun i _ => l.length - (intOf i).toNat)
  case atStart => exact ⟨0, Nat.zero_le _, rfl, ⟨Below.refl _ _⟩⟩
  case round =>
    obtain ⟨j, hj, rfl, HW⟩ := hrel
    by_cases hlt : j < l.length
    · obtain ⟨ad, A9, k9, A10, k10, A11, k11, hA, g0, g1, g2, g3, g4, g5, g6, g7, g8, g9, g10, g11, _, _, _, _, _, _⟩ := at_T40 (Kd.C_below HC.out HW.out) (j : Int) (by omega) (by omega)
      rw [Int.toNat_natCast] at g0 g1 g2 g3 g4 g5 g6 g7 g8 g9 g10 g11
      subst hA
      have hsm := small_mem HS.out (rdS_mem hlt)
      generalize rd_T40 l (j : Int) = q at hsm g0 g1 g2 g3 g4 g5 g6 g7 g8 g9 g10 g11
      obtain ⟨⟨p0, p1, p2, p3, ⟨c0, c1, ⟨o0, o1, o2⟩⟩, l9⟩, la, hh⟩ := q
      simp only at hsm g0 g1 g2 g3 g4 g5 g6 g7 g8 g9 g10 g11
      have CL := Aside0.mk (fun W => long_any p0 p1 p2 p3 c0 c1 o0 o1 o2 (.slice A9 l9.length k9) A10 A11 la.length hh.length k10 k11 hsm.1 hsm.2 W)
      clear hsm
      go_wp2_with (go_at_fn 14; refine (CL.out _).mono ?_; rintro e w' ⟨rfl, hb'⟩)
      go_roundw
      case rel => exact ⟨j + 1, by omega, by go_num, ⟨HW.out.trans (hb'.mono HW.out.size)⟩⟩
      case measure => first | (simp [intOf]; done) | (simp [intOf]; omega)
    · obtain rfl : j = l.length := by omega
      go_wp2
      go_ret
      exact ⟨rfl, HW.out⟩
theorem contains_none (A : Option Addr) (c : Nat) (l : List Seen) (w : World) (hC : Kd.C kS w A l.length l) (hs : smallL l) :
    Calls Try.prog 15 #[.slice A l.length c, .func (.func 14) #[] #[]] w fun e w' => e = .returned (.bool false) ∧ Below w.heap.size w w' := by
  have cX := index_none A c l w hC hs
  clear hC hs
  go_enter Try.func15, Try.ntmps15
  go_wp2_with (go_at_call 21; refine cX.mono ?_; rintro e w2 ⟨rfl, hB2⟩; have HB2 := Aside0.mk hB2; clear hB2)
  go_ret
  exact ⟨rfl, HB2.out⟩
end Go.Proofs.Ytegfnceepplooaa.TR

set_option linter.unusedVariables false
set_option linter.unusedSimpArgs false
namespace Go.Proofs.Ytegfnceepplooaa.TR
open Go.RowKit Go.Maps Go.Proofs.Ytegfnceepplooaa.FMap Go.Proofs.Ytegfnceepplooaa.PTR Go.Proofs.YtegfnceepplooaaW.PrintWords Go.Proofs.YtegfnceepplooaaW.PrintLast

/-- How many answers and records the first steps have. -/
def cntV (l : List Seen) (j : Nat) : Nat := ((l.take j).map fun s => s.f1.length + s.f2.length).sum
theorem cnt_next {l : List Seen} {j : Nat} (h : j < l.length) : cntV l (j + 1) = cntV l j + ((rd_T40 l (j : Int)).f1.length + (rd_T40 l (j : Int)).f2.length) := by
  unfold cntV
  rw [rdS_at h, List.take_succ_eq_append_getElem h, List.map_append, List.sum_append]
  simp
theorem cnt_all (l : List Seen) : cntV l l.length = (l.map fun s => s.f1.length + s.f2.length).sum := by
  unfold cntV
  rw [List.take_length]
set_option maxHeartbeats 4000000 in
theorem large_any (A : Option Addr) (c : Nat) (l : List Seen) (W : World) (hC : Kd.C kS W A l.length l) (hb : ∀ s ∈ l, s.f1.length ≤ 140737488351232 ∧ s.f2.length ≤ 140737488351232) (hl : l.length ≤ 140737488351232) :
    Calls Try.prog 6 #[.slice A l.length c] W fun e W' => (∃ b : Bool, e = .returned (.bool b) ∧ (b = false → smallL l)) ∧ Below W.heap.size W W' := by
  have HC := Aside0.mk hC
  have HB := Aside0.mk hb
  clear hC hb
  by_cases h3 : l.length ≤ 300
  · have d3 : decide ((300 : Int) < l.length) = false := decide_eq_false (by omega)
    go_enter Try.func6, Try.ntmps6
    go_wp2
    go_loopw [3, 8] (fun nv i wr => ∃ (j m : Nat), j ≤ l.length ∧ m ≤ 281474976702464 * j ∧ nv = .int .i64 m ∧ i = .int .i64 j ∧ Aside0 (m = cntV l j) ∧ Aside0 (Below W.heap.size W wr)) (fun _ i _ => l.length - (intOf i).toNat)
    case atStart => exact ⟨0, 0, Nat.zero_le _, Nat.zero_le _, rfl, rfl, ⟨rfl⟩, ⟨Below.refl _ _⟩⟩
    case round =>
      obtain ⟨j, m, hj, hm, rfl, rfl, HM, HW⟩ := hrel
      by_cases hlt : j < l.length
      · obtain ⟨ad, A9, k9, A10, k10, A11, k11, hA, g0, g1, g2, g3, g4, g5, g6, g7, g8, g9, g10, g11, _, _, _, _, _, _⟩ := at_T40 (Kd.C_below HC.out HW.out) (j : Int) (by omega) (by omega)
        rw [Int.toNat_natCast] at g0 g1 g2 g3 g4 g5 g6 g7 g8 g9 g10 g11
        subst hA
        have hsm := HB.out _ (rdS_mem hlt)
        have HN := Aside0.mk (cnt_next hlt)
        generalize rd_T40 l (j : Int) = q at hsm HN g0 g1 g2 g3 g4 g5 g6 g7 g8 g9 g10 g11
        obtain ⟨⟨p0, p1, p2, p3, ⟨c0, c1, ⟨o0, o1, o2⟩⟩, l9⟩, la, hh⟩ := q
        simp only at hsm g0 g1 g2 g3 g4 g5 g6 g7 g8 g9 g10 g11
        obtain ⟨h1, h2⟩ := hsm
        have HN2 : Aside0 (cntV l (j + 1) = cntV l j + (la.length + hh.length)) := ⟨HN.out⟩
        clear HN
        have hb2 := blk_new wr (.cells #[.int .i64 p0, .int .i64 p1, .int .i64 p2, .int .i64 p3, .int .i64 c0, .int .i64 c1, .int .i64 o0, .string o1, .string o2, .slice A9 l9.length k9, .slice A10 la.length k10, .slice A11 hh.length k11] 40)
        obtain ⟨wb, hwb⟩ : ∃ wb, wb = wr.alloc (.cells #[.int .i64 p0, .int .i64 p1, .int .i64 p2, .int .i64 p3, .int .i64 c0, .int .i64 c1, .int .i64 o0, .string o1, .string o2, .slice A9 l9.length k9, .slice A10 la.length k10, .slice A11 hh.length k11] 40) := ⟨_, rfl⟩
        have x10 : (wr.alloc (.cells #[.int .i64 p0, .int .i64 p1, .int .i64 p2, .int .i64 p3, .int .i64 c0, .int .i64 c1, .int .i64 o0, .string o1, .string o2, .slice A9 l9.length k9, .slice A10 la.length k10, .slice A11 hh.length k11] 40)).cell? ⟨wr.heap.size, 10, none⟩ = some (.slice A10 la.length k10) := (blk_cell hb2 10).trans rfl
        have x11 : (wr.alloc (.cells #[.int .i64 p0, .int .i64 p1, .int .i64 p2, .int .i64 p3, .int .i64 c0, .int .i64 c1, .int .i64 o0, .string o1, .string o2, .slice A9 l9.length k9, .slice A10 la.length k10, .slice A11 hh.length k11] 40)).cell? ⟨wr.heap.size, 11, none⟩ = some (.slice A11 hh.length k11) := (blk_cell hb2 11).trans rfl
        have HW2 : Aside0 (Below W.heap.size W (wr.alloc (.cells #[.int .i64 p0, .int .i64 p1, .int .i64 p2, .int .i64 p3, .int .i64 c0, .int .i64 c1, .int .i64 o0, .string o1, .string o2, .slice A9 l9.length k9, .slice A10 la.length k10, .slice A11 hh.length k11] 40))) := ⟨HW.out.alloc HW.out.size _⟩
        clear hb2 hwb
        go_wp2
        go_roundw
        case rel => exact ⟨j + 1, m + (la.length + hh.length), by omega, by omega, by go_num, by go_num, ⟨by rw [HN2.out, ← HM.out]⟩, HW2⟩
        case measure => simp [intOf]; omega
      · obtain rfl : j = l.length := by omega
        have HS : Aside0 (decide ((2000 : Int) < m) = false → smallL l) := ⟨fun h => ⟨h3, by
          have h1 := of_decide_eq_false h
          rw [← cnt_all, ← HM.out]
          omega⟩⟩
        obtain ⟨b, hbv⟩ : ∃ b, decide ((2000 : Int) < m) = b := ⟨_, rfl⟩
        rw [hbv] at HS
        go_wp2
        go_ret
        exact ⟨⟨b, rfl, HS.out⟩, HW.out⟩
  · have d3 : decide ((300 : Int) < l.length) = true := decide_eq_true (by omega)
    go_enter Try.func6, Try.ntmps6
    go_wp2
    go_loopw [3, 8] (fun nv i wr => ∃ (j : Nat) (m : Int), j ≤ l.length ∧ nv = .int .i64 m ∧ i = .int .i64 j ∧ Aside0 (Below W.heap.size W wr)) (fun _ i _ => l.length - (intOf i).toNat)
    case atStart => exact ⟨0, 0, Nat.zero_le _, rfl, rfl, ⟨Below.refl _ _⟩⟩
    case round =>
      obtain ⟨j, m, hj, rfl, rfl, HW⟩ := hrel
      by_cases hlt : j < l.length
      · obtain ⟨ad, A9, k9, A10, k10, A11, k11, hA, g0, g1, g2, g3, g4, g5, g6, g7, g8, g9, g10, g11, _, _, _, _, _, _⟩ := at_T40 (Kd.C_below HC.out HW.out) (j : Int) (by omega) (by omega)
        rw [Int.toNat_natCast] at g0 g1 g2 g3 g4 g5 g6 g7 g8 g9 g10 g11
        subst hA
        generalize rd_T40 l (j : Int) = q at g0 g1 g2 g3 g4 g5 g6 g7 g8 g9 g10 g11
        obtain ⟨⟨p0, p1, p2, p3, ⟨c0, c1, ⟨o0, o1, o2⟩⟩, l9⟩, la, hh⟩ := q
        simp only at g0 g1 g2 g3 g4 g5 g6 g7 g8 g9 g10 g11
        have hb2 := blk_new wr (.cells #[.int .i64 p0, .int .i64 p1, .int .i64 p2, .int .i64 p3, .int .i64 c0, .int .i64 c1, .int .i64 o0, .string o1, .string o2, .slice A9 l9.length k9, .slice A10 la.length k10, .slice A11 hh.length k11] 40)
        have x10 : (wr.alloc (.cells #[.int .i64 p0, .int .i64 p1, .int .i64 p2, .int .i64 p3, .int .i64 c0, .int .i64 c1, .int .i64 o0, .string o1, .string o2, .slice A9 l9.length k9, .slice A10 la.length k10, .slice A11 hh.length k11] 40)).cell? ⟨wr.heap.size, 10, none⟩ = some (.slice A10 la.length k10) := (blk_cell hb2 10).trans rfl
        have x11 : (wr.alloc (.cells #[.int .i64 p0, .int .i64 p1, .int .i64 p2, .int .i64 p3, .int .i64 c0, .int .i64 c1, .int .i64 o0, .string o1, .string o2, .slice A9 l9.length k9, .slice A10 la.length k10, .slice A11 hh.length k11] 40)).cell? ⟨wr.heap.size, 11, none⟩ = some (.slice A11 hh.length k11) := (blk_cell hb2 11).trans rfl
        have HW2 : Aside0 (Below W.heap.size W (wr.alloc (.cells #[.int .i64 p0, .int .i64 p1, .int .i64 p2, .int .i64 p3, .int .i64 c0, .int .i64 c1, .int .i64 o0, .string o1, .string o2, .slice A9 l9.length k9, .slice A10 la.length k10, .slice A11 hh.length k11] 40))) := ⟨HW.out.alloc HW.out.size _⟩
        clear hb2
        go_wp2
        go_roundw
        case rel => exact ⟨j + 1, _, by omega, rfl, by go_num, HW2⟩
        case measure => simp [intOf]; omega
      · obtain rfl : j = l.length := by omega
        go_wp2
        go_ret
        exact ⟨⟨true, rfl, fun h => absurd h (by decide)⟩, HW.out⟩
end Go.Proofs.Ytegfnceepplooaa.TR

set_option linter.unusedVariables false
set_option linter.unusedSimpArgs false
namespace Go.Proofs.Ytegfnceepplooaa.TR
open Go.RowKit Go.Maps Go.Proofs.Ytegfnceepplooaa.FMap Go.Proofs.Ytegfnceepplooaa.PTR Go.Proofs.YtegfnceepplooaaW.PrintWords Go.Proofs.YtegfnceepplooaaW.PrintLast

set_option maxHeartbeats 1000000 in
theorem ints_any (A B : Option Addr) (c d : Nat) (l : List Int) (W : World) (hA : Kd.C kI W A l.length l) (hc : l.length ≤ c) (hB : Kd.C kI W B l.length l) (hd : l.length ≤ d) (hl : l.length ≤ 1000) :
    Calls Try.prog 9 #[.slice A l.length c, .slice B l.length d] W fun e w' => e = .returned (.bool true) ∧ Below W.heap.size W w' := by
  have HA := Aside0.mk hA
  have HB := Aside0.mk hB
  clear hA hB hc hd
  have e1 : ((l.length : Int) != (l.length : Int)) = false := by simp
  go_enter Try.func9, Try.ntmps9
  go_wp2
  go_loopw [13] (fun i wr => ∃ j : Nat, j ≤ l.length ∧ i = .int .i64 j ∧ Aside0 (Below W.heap.size W wr)) (fun i _ => l.length - (intOf i).toNat)
  case atStart => exact ⟨0, Nat.zero_le _, rfl, ⟨Below.refl _ _⟩⟩
  case round =>
    obtain ⟨j, hj, rfl, HW⟩ := hrel
    by_cases hlt : j < l.length
    · obtain ⟨ad, hAd, g0⟩ := Kd.at_int (Kd.C_below HA.out HW.out) (j : Int) (by omega) (by omega)
      obtain ⟨ae, hAe, g1⟩ := Kd.at_int (Kd.C_below HB.out HW.out) (j : Int) (by omega) (by omega)
      rw [Int.toNat_natCast] at g0 g1
      subst hAd hAe
      generalize rd l (j : Int) = x at g0 g1
      have ex : (x != x) = false := by simp
      go_wp2
      go_quiet (fail)
      go_wp2
      go_roundw
      case rel => exact ⟨j + 1, by omega, by go_num, ⟨pw_below_drewN HW.out nq⟩⟩
      case measure => simp [intOf]; omega
    · obtain rfl : j = l.length := by omega
      go_wp2
      go_ret
      exact ⟨rfl, HW.out⟩
set_option maxHeartbeats 1000000 in
theorem put_any (r : Int) (W : World) : Calls Try.prog 13 #[.int .i64 r] W fun e w' => e = .returned (.agg #[.int .i64 1, .int .i64 0, .int .i64 0, .int .i64 0, .int .i64 r, .int .i64 0, .int .i64 2, .string ⟨#[97]⟩, .string ⟨#[120]⟩, .slice none 0 0]) ∧ Below W.heap.size W w' := by
  go_enter Try.func13, Try.ntmps13
  go_wp2
  refine bodyPost_ret (results_cell_row rfl _ _ W.heap.size 36 #[.int .i64 1, .int .i64 0, .int .i64 0, .int .i64 0, .int .i64 r, .int .i64 0, .int .i64 2, .string ⟨#[97]⟩, .string ⟨#[120]⟩, .slice none 0 0] (0, 0) _ rfl (blk_new _ _) Try.underlying36 rfl (by kernel_rfl)) rfl ?_
  exact ⟨rfl, (Below.refl _ _).alloc (Nat.le_refl _) _⟩
end Go.Proofs.Ytegfnceepplooaa.TR

set_option linter.unusedVariables false
set_option linter.unusedSimpArgs false
namespace Go.Proofs.Ytegfnceepplooaa.TR
open Go.RowKit Go.Maps Go.Proofs.Ytegfnceepplooaa.FMap Go.Proofs.Ytegfnceepplooaa.PTR Go.Proofs.YtegfnceepplooaaW.PrintWords Go.Proofs.YtegfnceepplooaaW.PrintLast

def cPut (r : Int) : Cho := ⟨1, 0, 0, 0, ⟨r, 0, ⟨2, ⟨#[97]⟩, ⟨#[120]⟩⟩⟩, []⟩
def cNil : Cho := ⟨0, 0, 0, 0, ⟨0, 0, ⟨0, ⟨#[]⟩, ⟨#[]⟩⟩⟩, []⟩
def lH : List Rec := [⟨1, 0, 7, 0, 1, 1, ⟨#[97]⟩, ⟨#[120]⟩⟩]
def lOK : List Ans := [⟨1, 0, 1, ⟨false, ⟨#[]⟩, []⟩⟩]
def T1 : List Seen := [⟨cPut 1, [], []⟩, ⟨cNil, lOK, lH⟩]
def T2 : List Seen := [⟨cPut 1, [], []⟩, ⟨cNil, lOK, []⟩]
def T3 : List Seen := [⟨cPut 1, lOK, lH⟩, ⟨cNil, lOK, lH⟩]
def T4 : List Seen := [⟨cPut 4, [], []⟩]
theorem run_T1 : runV st0 T1 0 = (0, 0) := by decide +kernel
theorem run_T2 : runV st0 T2 0 = (3, 1) := by decide +kernel
theorem run_T3 : runV st0 T3 0 = (2, 1) := by decide +kernel
theorem open_T4 : openV T4 = [4] := by decide +kernel
end Go.Proofs.Ytegfnceepplooaa.TR

set_option linter.unusedVariables false
set_option linter.unusedSimpArgs false
namespace Go.Proofs.Ytegfnceepplooaa.TR
open Go.RowKit Go.Maps Go.Proofs.Ytegfnceepplooaa.FMap Go.Proofs.Ytegfnceepplooaa.PTR Go.Proofs.YtegfnceepplooaaW.PrintWords Go.Proofs.YtegfnceepplooaaW.PrintLast

def RB : Value → Option (DataW Unit × List MemPlace)
  | .bool x => some (.lit (.bool x), [])
  | _ => none
def enB (x : Bool) : DataW Unit := .lit (.bool x)
theorem RB_mk (x : Bool) : RB (.bool x) = some (enB x, []) := rfl
theorem RB_inv {v : Value} {n : Bool} {ps : List MemPlace} (h : RB v = some (enB n, ps)) : v = .bool n := by
  unfold RB at h
  split at h
  · simp only [Option.some.injEq, Prod.mk.injEq, enB, DataW.lit.injEq, Lit.bool.injEq] at h
    rw [h.1]
  · cases h
theorem zeroRunB (w : World) : (zeroValue 4).run Try.prog w = .ok (.bool false) w := by kernel_rfl
section
variable {W : World} {b n : Nat}
theorem lookB {f : Int → Option Bool} (h : MapI RB enB W b n f) {x : Int} (hx : (Lit.int .i64 x).wf = true) : (Instr.lookup 57 (.map (some b)) (.int .i64 x) false).run Try.prog W = .ok (.bool ((f x).getD false)) W := by
  obtain ⟨D, hown, hD⟩ := h
  obtain ⟨v, ps, hrun, hv⟩ := hown.lookup keyI Try.underlying57 (zeroRunB W) (RB_mk false) (key_of hx)
  obtain ⟨h1, h2⟩ := hD x hx
  rw [h2, getD_map] at hv
  rw [hrun, RB_inv hv]
theorem storeB {f : Int → Option Bool} (h : MapI RB enB W b n f) (hn : n < maxLen) {x : Int} (hx : (Lit.int .i64 x).wf = true) (y : Bool) : ∃ W', (Instr.mapUpdate 57 (.map (some b)) (.int .i64 x) (.bool y)).run Try.prog W = .ok () W' ∧ MapI RB enB W' b (n + 1) (upd f x y) ∧ W.grownBy W' (some b) := by
  obtain ⟨D, hown, hD⟩ := h
  obtain ⟨W', h1, h2, h3⟩ := hown.update keyI Try.underlying57 hn (key_of hx) (RB_mk y)
  exact ⟨W', h1, ⟨_, h2, put_reads hown.isMap hD x y⟩, h3⟩
end
section
variable {w0 W W' : World} {bw n : Nat} {st : St} {h : List Rec} {bc bd bf : Nat} {vo : Value} {Ab : Option Addr} {cb : Nat} {Ah : Option Addr} {ch : Nat}
/-- Another map has been written. -/
theorem WAt.other (H : WAt w0 W bw n st h bc bd bf vo Ab cb Ah ch) {bt : Nat} (hg : W.grownBy W' (some bt)) (hb : ∃ (es : Array MapEntry) (clock : Nat), W.heap[bt]? = some (Obj.map es clock)) (h0 : w0.heap.size ≤ bt) (h1 : bt ≠ bc) (h2 : bt ≠ bd) (h3 : bt ≠ bf) : WAt w0 W' bw n st h bc bd bf vo Ab cb Ah ch := by
  obtain ⟨es, clock, hb⟩ := hb
  exact {
    below := H.below.grown hg H.below.size (fun k hk => by cases hk; exact h0)
    block := block_map H.block hg hb
    calls := H.calls.same (hg.block bc H.calls.lt (fun e => h1 (Option.some.inj e).symm))
    codes := H.codes.same (hg.block bd H.codes.lt (fun e => h2 (Option.some.inj e).symm))
    floors := H.floors.same (hg.block bf H.floors.lt (fun e => h3 (Option.some.inj e).symm))
    order := order_map H.order hg hb
    before := H.before
    at_h := H.at_h
    hbw := H.hbw
    hbc := H.hbc
    hbd := H.hbd
    hbf := H.hbf
    cd := H.cd
    cf := H.cf
    df := H.df }
/-- A choice leaves another map as it is. -/
theorem FrN.map {α : Type} {R : Value → Option (DataW Unit × List MemPlace)} {en : α → DataW Unit} {bt m : Nat} {f : Int → Option α} (hf : FrN bw bc bf vo W W') (H : WAt w0 W bw n st h bc bd bf vo Ab cb Ah ch) (hm : MapI R en W bt m f) (h1 : bt ≠ bc) (h3 : bt ≠ bf) : MapI R en W' bt m f := by
  refine hm.same (hf.keep bt hm.lt ?_ h1 h3 (own_ne_map H.order hm.is_map))
  intro he
  subst he
  obtain ⟨es, cl, hb⟩ := hm.is_map
  rw [H.block] at hb
  injection hb with hb
  cases hb
end
theorem open_drop (st : St) (told : Int → Option Bool) {l : List Seen} {j : Nat} (h : j < l.length) : openS st told (l.drop j) = openS (choiceV st (rd_T40 l (j : Int)).f0) ((rd_T40 l (j : Int)).f1.foldl (toldA (choiceV st (rd_T40 l (j : Int)).f0)) told) (l.drop (j + 1)) := by
  rw [List.drop_eq_getElem_cons h, rdS_at h]
  rfl
theorem rdA_at {l : List Ans} {j : Nat} (h : j < l.length) : rd_T45 l (j : Int) = l[j] := by
  unfold rd_T45
  simp [List.getD_eq_getElem?_getD, h]
theorem told_drop {α : Type} (f : α → Ans → α) (told : α) {l : List Ans} {j : Nat} (h : j < l.length) : (l.drop j).foldl f told = (l.drop (j + 1)).foldl f (f told (rd_T45 l (j : Int))) := by
  rw [List.drop_eq_getElem_cons h, rdA_at h]
  rfl
end Go.Proofs.Ytegfnceepplooaa.TR

set_option linter.unusedVariables false
set_option linter.unusedSimpArgs false
namespace Go.Proofs.Ytegfnceepplooaa.TR
open Go.RowKit Go.Maps Go.Proofs.Ytegfnceepplooaa.FMap Go.Proofs.Ytegfnceepplooaa.PTR Go.Proofs.YtegfnceepplooaaW.PrintWords Go.Proofs.YtegfnceepplooaaW.PrintLast

theorem told_at (st : St) (told : Int → Option Bool) (a : Ans) : toldA st told a = if (st.calls a.f0).isSome = true then upd told a.f0 true else told := rfl
theorem choice_order2 (st : St) (c : Cho) : (choiceV st c).order.length ≤ st.order.length + 1 ∧ ∀ x ∈ (choiceV st c).order, x ∈ st.order ∨ x = c.f4.f0 := by
  refine ⟨choice_order st c, ?_⟩
  unfold choiceV
  split
  · split
    · exact fun x hx => Or.inl hx
    · intro x hx
      rcases List.mem_append.1 hx with h | h
      · exact Or.inl h
      · exact Or.inr (List.mem_singleton.1 h)
  · split <;> exact fun x hx => Or.inl hx
theorem filter_next {l : List Int} {j : Nat} (h : j < l.length) (p : Int → Bool) : (l.take (j + 1)).filter p = (l.take j).filter p ++ (if p (rd l (j : Int)) = true then [rd l (j : Int)] else []) := by
  have e : rd l (j : Int) = l[j] := by simp [rd, List.getD_eq_getElem?_getD, h]
  rw [e, List.take_succ_eq_append_getElem h, List.filter_append]
  congr 1
  simp only [List.filter_cons, List.filter_nil]
set_option maxHeartbeats 8000000 in
set_option maxRecDepth 100000 in
theorem open_any (A : Option Addr) (c : Nat) (l : List Seen) (W : World) (hC : Kd.C kS W A l.length l) (hs : smallL l) (hok : ∀ s ∈ l, okS s) :
    Calls Try.prog 10 #[.slice A l.length c] W fun e W' => (∃ A' c', e = .returned (.slice A' (openV l).length c') ∧ (openV l).length ≤ c' ∧ Kd.C kI W' A' (openV l).length (openV l)) ∧ (openV l).length ≤ 300 ∧ Below W.heap.size W W' := by
  have hn := hs.1
  have HC := Aside0.mk hC
  have HS := Aside0.mk hs
  have HO := Aside0.mk hok
  have HB := Aside0.mk (fun W => begin_any W)
  have hmm := @run_makeMap Try.prog
  clear hC hs hok
  go_enter Try.func10, Try.ntmps10
  go_wp2_with fail
  refine (HB.out W).mono ?_
  rintro e w3 ⟨rfl, rfl⟩
  have HW0 := Aside0.mk (begW_at W)
  have hz : (begW W).heap.size = W.heap.size + 1 + 1 + 1 + 1 := by unfold begW; simp
  have HT0 := Aside0.mk (MapI.made (R := RB) (en := enB) (begW W))
  have HL0 : Aside0 ((begW W).heap.size ≠ W.heap.size ∧ (begW W).heap.size ≠ W.heap.size + 1 ∧ (begW W).heap.size ≠ W.heap.size + 1 + 1 ∧ W.heap.size ≤ (begW W).heap.size) := ⟨by omega, by omega, by omega, by omega⟩
  have HX0 := Aside0.mk (HW0.out.stay ((Below.refl _ (begW W)).alloc (Nat.le_refl _) (.map #[] 0)))
  clear hz HW0
  obtain ⟨w4, hw4⟩ : ∃ w4, w4 = (begW W).alloc (.map #[] 0) := ⟨_, rfl⟩
  rw [← hw4] at HX0 HT0
  go_wp2
  rw [← hw4]
  clear hw4 hmm
  generalize (begW W).heap.size = bt at HT0 HL0 ⊢
  generalize W.heap.size + 1 + 1 + 1 = bw at HX0 ⊢
  generalize W.heap.size + 1 + 1 = bf at HX0 HL0 ⊢
  generalize W.heap.size + 1 = bd at HX0 HL0 ⊢
  have HLE := Aside0.mk HL0.out.2.2.2
  generalize W.heap.size = bc at HX0 HL0 ⊢
  go_loopw [18] (fun i wr => ∃ (j : Nat) (st : St) (told : Int → Option Bool) (n m : Nat) (vo : Value), j ≤ l.length ∧ i = .int .i64 j ∧ Aside0 (openS st0 (fun _ => none) l = openS st told (l.drop j)) ∧ Aside0 (n ≤ j ∧ m ≤ 2000 * j ∧ st.order.length ≤ j ∧ ∀ x ∈ st.order, (Lit.int .i64 x).wf = true) ∧ Aside0 (WAt W wr bw n st [] bc bd bf vo none 0 none 0) ∧ Aside0 (MapI RB enB wr bt m told)) (fun i _ => l.length - (intOf i).toNat)
  case atStart => exact ⟨0, st0, _, 0, 0, _, Nat.zero_le _, rfl, ⟨by rw [List.drop_zero]⟩, ⟨Nat.zero_le _, Nat.zero_le _, Nat.zero_le _, fun x hx => by cases hx⟩, HX0, HT0⟩
  case round =>
    obtain ⟨j, st, told, n, m, vo, hj, rfl, HE, HN, HW, HT⟩ := hrel
    obtain ⟨wo, hwo⟩ : ∃ wo, wo = wr := ⟨_, rfl⟩
    subst hwo
    by_cases hlt : j < l.length
    · obtain ⟨ad, A9, k9, A10, k10, A11, k11, hA, g0, g1, g2, g3, g4, g5, g6, g7, g8, g9, g10, g11, _, _, e10, E10, _, _⟩ := at_T40 HC.out (j : Int) (by omega) (by omega)
      rw [Int.toNat_natCast] at g0 g1 g2 g3 g4 g5 g6 g7 g8 g9 g10 g11
      subst hA
      have cv := fun p v (g : W.cell? p = some v) => (HW.out.below.cell (p := p) (World.block_lt_of_cell? W _ g)).trans g
      replace g0 := cv _ _ g0
      replace g1 := cv _ _ g1
      replace g2 := cv _ _ g2
      replace g3 := cv _ _ g3
      replace g4 := cv _ _ g4
      replace g5 := cv _ _ g5
      replace g6 := cv _ _ g6
      replace g7 := cv _ _ g7
      replace g8 := cv _ _ g8
      replace g9 := cv _ _ g9
      replace g10 := cv _ _ g10
      replace g11 := cv _ _ g11
      have hsm := small_mem HS.out (rdS_mem hlt)
      have hoS := HO.out _ (rdS_mem hlt)
      have HEN := Aside0.mk (HE.out.trans (open_drop st told hlt))
      have HCO := Aside0.mk (choice_order2 st (rd_T40 l (j : Int)).f0)
      clear cv HE
      generalize rd_T40 l (j : Int) = q at hsm hoS HEN HCO g0 g1 g2 g3 g4 g5 g6 g7 g8 g9 g10 g11 e10 E10
      obtain ⟨⟨p0, p1, p2, p3, ⟨c0, c1, ⟨o0, o1, o2⟩⟩, l9⟩, la, hh⟩ := q
      simp only at hsm g0 g1 g2 g3 g4 g5 g6 g7 g8 g9 g10 g11 e10 E10
      have hj3 : j < 300 := by omega
      obtain ⟨wa, hwa⟩ : ∃ wa, wa = wo.alloc (.cells #[.int .i64 p0, .int .i64 p1, .int .i64 p2, .int .i64 p3, .int .i64 c0, .int .i64 c1, .int .i64 o0, .string o1, .string o2, .slice A9 l9.length k9, .slice A10 la.length k10, .slice A11 hh.length k11] 40) := ⟨_, rfl⟩
      have hBa : Below wo.heap.size wo wa := by rw [hwa]; exact (Below.refl _ wo).alloc (Nat.le_refl _) _
      have bs : wa.heap[wo.heap.size]? = some (.cells #[.int .i64 p0, .int .i64 p1, .int .i64 p2, .int .i64 p3, .int .i64 c0, .int .i64 c1, .int .i64 o0, .string o1, .string o2, .slice A9 l9.length k9, .slice A10 la.length k10, .slice A11 hh.length k11] 40 (0, 0)) := by rw [hwa]; exact blk_new _ _
      have hWa := HW.out.stay hBa
      have hTa := HT.out.same (hBa.block bt HT.out.lt)
      have cC := choice_full hWa (by have := HN.out.1; unfold maxLen; omega) (by have := HN.out.2.2.1; omega) p0 p1 p2 p3 c0 c1 o0 o1 o2 (.slice A9 l9.length k9) l9 hoS.2.1 hoS.1
      have x0 := (blk_cell bs 0).trans rfl
      have x1 := (blk_cell bs 1).trans rfl
      have x2 := (blk_cell bs 2).trans rfl
      have x3 := (blk_cell bs 3).trans rfl
      have x4 := (blk_cell bs 4).trans rfl
      have x5 := (blk_cell bs 5).trans rfl
      have x6 := (blk_cell bs 6).trans rfl
      have x7 := (blk_cell bs 7).trans rfl
      have x8 := (blk_cell bs 8).trans rfl
      have x9 := (blk_cell bs 9).trans rfl
      have HWa := Aside0.mk hWa
      have HTa := Aside0.mk hTa
      have HBS := Aside0.mk bs
      have HOA := Aside0.mk hoS.2.2.1
      have HE10 := Aside0.mk (And.intro E10 e10)
      have HSM := Aside0.mk hsm.1
      have HC0 := Aside0.mk hoS.2.1
      clear hBa bs hWa hTa hoS E10 e10 hsm HW HT
      go_wp2_with fail
      rw [← hwa]
      clear hwa g0 g1 g2 g3 g4 g5 g6 g7 g8 g9 g10 g11
      refine cC.mono ?_
      rintro e w5 ⟨rfl, hF, vo5, _, H5⟩
      have y10 : w5.cell? ⟨wo.heap.size, 10, none⟩ = some (.slice A10 la.length k10) := (blk_cell ((hF.fr HWa.out).blk HBS.out (by decide) (by decide)) 10).trans rfl
      have HT5 := Aside0.mk (hF.map HWa.out HTa.out HL0.out.1 HL0.out.2.2.1)
      have HW5 := Aside0.mk H5
      clear hF H5 cC x0 x1 x2 x3 x4 x5 x6 x7 x8 x9 HWa HTa HBS
      generalize choiceV st ⟨p0, p1, p2, p3, ⟨c0, c1, ⟨o0, o1, o2⟩⟩, l9⟩ = st1 at HEN HCO HW5
      go_wp2
      go_loopw [29] (fun i wi => ∃ (q : Nat) (told' : Int → Option Bool) (m' : Nat), q ≤ la.length ∧ i = .int .i64 q ∧ Aside0 (la.foldl (toldA st1) told = (la.drop q).foldl (toldA st1) told') ∧ Aside0 (m' ≤ m + q) ∧ Aside0 (WAt W wi bw (n + 1) st1 [] bc bd bf vo5 none 0 none 0) ∧ Aside0 (MapI RB enB wi bt m' told')) (fun i _ => la.length - (intOf i).toNat)
      case atStart => exact ⟨0, told, m, Nat.zero_le _, rfl, ⟨by rw [List.drop_zero]⟩, ⟨Nat.le_refl _⟩, HW5, HT5⟩
      case round =>
        obtain ⟨q, told', m', hq, rfl, HF, HM, HWi, HTi⟩ := hrel
        by_cases hql : q < la.length
        · obtain ⟨ae, A5, k5, hAe, f0, f1, f2, f3, f4, f5, _, _⟩ := at_T45 HE10.out.1 (q : Int) (by omega) (by omega)
          rw [Int.toNat_natCast] at f0 f1 f2 f3 f4 f5
          subst hAe
          have cv := fun p v (g : W.cell? p = some v) => (HWi.out.below.cell (p := p) (World.block_lt_of_cell? W _ g)).trans g
          replace f0 := cv _ _ f0
          replace f1 := cv _ _ f1
          replace f2 := cv _ _ f2
          replace f3 := cv _ _ f3
          replace f4 := cv _ _ f4
          replace f5 := cv _ _ f5
          have hxA := (HOA.out _ (rdA_mem hql)).1
          have HQL := Aside0.mk hql
          have hq3 : la.length ≤ 2000 := HSM.out
          have HFN := Aside0.mk (HF.out.trans (told_drop (toldA st1) told' hql))
          clear cv HF
          generalize rd_T45 la (q : Int) = a at HFN f0 f1 f2 f3 f4 f5 hxA
          obtain ⟨a0, a1, a2, ⟨a3, a4, a5⟩⟩ := a
          simp only at f0 f1 f2 f3 f4 f5 hxA
          obtain ⟨wb, hwb⟩ : ∃ wb, wb = wr.alloc (.cells #[.int .i64 a0, .int .i64 a1, .int .i64 a2, .bool a3, .string a4, .slice A5 a5.length k5] 45) := ⟨_, rfl⟩
          have hBb : Below wr.heap.size wr wb := by rw [hwb]; exact (Below.refl _ wr).alloc (Nat.le_refl _) _
          have ba : wb.heap[wr.heap.size]? = some (.cells #[.int .i64 a0, .int .i64 a1, .int .i64 a2, .bool a3, .string a4, .slice A5 a5.length k5] 45 (0, 0)) := by rw [hwb]; exact blk_new _ _
          have hWb := HWi.out.stay hBb
          have hTb := HTi.out.same (hBb.block bt HTi.out.lt)
          have d0 : wb.cell? ⟨wr.heap.size, 0, none⟩ = some (.int .i64 a0) := (blk_cell ba 0).trans rfl
          have c0' : wb.cell? ⟨bw, 0, none⟩ = some (.map (some bc)) := (blk_cell hWb.block 0).trans rfl
          have z0 : (wb.alloc (.cells #[.int .i64 0, .int .i64 0, .int .i64 0, .string ⟨#[]⟩, .string ⟨#[]⟩] 33)).cell? ⟨bw, 0, none⟩ = some (.map (some bc)) := (blk_cell (blk_alloc hWb.block _) 0).trans rfl
          have z1 : (wb.alloc (.cells #[.int .i64 0, .int .i64 0, .int .i64 0, .string ⟨#[]⟩, .string ⟨#[]⟩] 33)).cell? ⟨wr.heap.size, 0, none⟩ = some (.int .i64 a0) := (blk_cell (blk_alloc ba _) 0).trans rfl
          have hL := fun w (hw : w.heap[bc]? = wb.heap[bc]?) => lookC_ok (W := w) (hWb.calls.same hw) hxA
          have HTA : Aside0 (toldA st1 told' ⟨a0, a1, a2, ⟨a3, a4, a5⟩⟩ = if (st1.calls a0).isSome = true then upd told' a0 true else told') := ⟨rfl⟩
          rw [HTA.out] at HFN
          clear HTA
          generalize (st1.calls a0).getD zeroC = y at hL
          generalize (st1.calls a0).isSome = ok at hL HFN
          obtain ⟨y0, y1, ⟨y2, y3, y4⟩⟩ := y
          simp only [valC] at hL
          have hl0 := hL wb.drew rfl
          have hl1 := hL (wb.alloc (.cells #[.int .i64 0, .int .i64 0, .int .i64 0, .string ⟨#[]⟩, .string ⟨#[]⟩] 33)).drew (Below.heap_alloc _ _ _ hWb.calls.lt)
          have hbw : bw < wb.heap.size := blk_lt hWb.block
          have hbr : wr.heap.size < wb.heap.size := blk_lt ba
          have HWb := Aside0.mk hWb
          have HTb := Aside0.mk hTb
          have HXA := Aside0.mk hxA
          have HBA := Aside0.mk ba
          clear hBb ba hWb hTb hxA hL HWi HTi
          go_wp2
          rw [← hwb]
          clear hwb f0 f1 f2 f3 f4 f5
          go_region
          all_goals
            obtain ⟨w6, hw6⟩ : ∃ w6, w6 = (wb.alloc (.cells #[.int .i64 y0, .int .i64 y1, .int .i64 y2, .string y3, .string y4] 33)).drew := ⟨_, rfl⟩
            rw [← hw6]
            have hB6 : Below wb.heap.size wb w6 := by rw [hw6]; exact ((Below.refl _ wb).alloc (Nat.le_refl _) _).drew
            have hT6 := HTb.out.same (hB6.block bt HTb.out.lt)
            have hW6 := HWb.out.stay hB6
            have d6 : w6.cell? ⟨wr.heap.size, 0, none⟩ = some (.int .i64 a0) := (blk_cell (blk_below HBA.out hB6) 0).trans rfl
            clear hw6 hB6 d0 c0' z0 z1 hl0 hl1 hbw hbr
            cases ok
            · have HF2 : Aside0 (la.foldl (toldA st1) told = (la.drop (q + 1)).foldl (toldA st1) told') := ⟨HFN.out⟩
              have HT6 := Aside0.mk hT6
              have HW6 := Aside0.mk hW6
              clear HFN hT6 hW6 d6
              go_wp2
              go_roundw
              case rel => exact ⟨q + 1, told', m', by have := HQL.out; omega, by go_num, HF2, ⟨by have := HM.out; omega⟩, HW6, HT6⟩
              case measure => have := HQL.out; simp [intOf]; omega
            · have HF2 : Aside0 (la.foldl (toldA st1) told = (la.drop (q + 1)).foldl (toldA st1) (upd told' a0 true)) := ⟨HFN.out⟩
              obtain ⟨w7, hup, hm7, hg7⟩ := storeB hT6 (by have := HM.out; have := HN.out.2.1; have := HSM.out; unfold maxLen; omega) HXA.out true
              have HW7 := Aside0.mk (hW6.other hg7 hT6.is_map HLE.out HL0.out.1 HL0.out.2.1 HL0.out.2.2.1)
              have HT7 := Aside0.mk hm7
              clear HFN hT6 hW6 hm7 hg7
              go_wp2
              go_roundw
              case rel => exact ⟨q + 1, upd told' a0 true, m' + 1, by have := HQL.out; omega, by go_num, HF2, ⟨by have := HM.out; omega⟩, HW7, HT7⟩
              case measure => have := HQL.out; simp [intOf]; omega
        · obtain rfl : q = la.length := by omega
          have HE2 : Aside0 (openS st0 (fun _ => none) l = openS st1 told' (l.drop (j + 1))) := ⟨by rw [HEN.out, HF.out, List.drop_length]; rfl⟩
          have HN2 : Aside0 (n + 1 ≤ j + 1 ∧ m' ≤ 2000 * (j + 1) ∧ st1.order.length ≤ j + 1 ∧ ∀ x ∈ st1.order, (Lit.int .i64 x).wf = true) := ⟨by have := HN.out.1; omega, by have := HN.out.2.1; have := HM.out; have := HSM.out; omega, by have := HN.out.2.2.1; have := HCO.out.1; omega, fun x hx => by
            rcases HCO.out.2 x hx with h | h
            · exact HN.out.2.2.2 x h
            · rw [h]; exact HC0.out⟩
          clear HEN HF
          go_wp2
          go_roundw
          case rel => exact ⟨j + 1, st1, told', n + 1, m', vo5, by omega, by go_num, HE2, HN2, HWi, HTi⟩
          case measure => simp [intOf]; omega
    · obtain rfl : j = l.length := by omega
      have HV : Aside0 (openV l = st.order.filter fun q => !(told q).getD false) := ⟨by unfold openV; rw [HE.out, List.drop_length]; rfl⟩
      have HOL : Aside0 (st.order.length ≤ 300) := ⟨by have := HN.out.2.2.1; omega⟩
      have hol := HOL.out
      obtain ⟨Ao, ko, hvo, hko, hCo⟩ := Kd.R_reads HW.out.order
      have c2 : wo.cell? ⟨bw, 2, none⟩ = some (.slice Ao st.order.length ko) := by rw [← hvo]; exact (blk_cell HW.out.block 2).trans rfl
      have HCo := Aside0.mk hCo
      have HXO := Aside0.mk HN.out.2.2.2
      have HBW := Aside0.mk HW.out.below
      clear hvo hko hCo HE HN HW
      go_wp2
      go_loopw [11, 54] (fun o i wi => ∃ k : Nat, k ≤ st.order.length ∧ i = .int .i64 k ∧ Aside0 (Kd.R kI 3 wi wo.heap.size (fun _ => True) o ((st.order.take k).filter fun q => !(told q).getD false)) ∧ Aside0 (Below wo.heap.size wo wi)) (fun _ i _ => st.order.length - (intOf i).toNat)
      case atStart => exact ⟨0, Nat.zero_le _, rfl, ⟨by rw [List.take_zero]; exact Kd.R_nil _ _ _ _ _⟩, ⟨Below.refl _ _⟩⟩
      case round =>
        obtain ⟨k, hk, rfl, HR, HB3⟩ := hrel
        by_cases hkl : k < st.order.length
        · obtain ⟨ad, hAd, g0⟩ := Kd.at_int (Kd.C_below HCo.out HB3.out) (k : Int) (by omega) (by omega)
          rw [Int.toNat_natCast] at g0
          subst hAd
          have HFN := Aside0.mk (filter_next hkl fun q => !(told q).getD false)
          have hxw : (Lit.int .i64 (rd st.order (k : Int))).wf = true := HXO.out _ (by simp [rd, List.getD_eq_getElem?_getD, hkl])
          have HLEN : Aside0 (((st.order.take k).filter fun q => !(told q).getD false).length ≤ 300) := ⟨by have := List.length_filter_le (fun q => !(told q).getD false) (st.order.take k); rw [List.length_take] at this; omega⟩
          generalize rd st.order (k : Int) = x at g0 HFN hxw
          have hlk := lookB (HT.out.same (HB3.out.block bt HT.out.lt)) hxw
          clear hxw
          generalize (told x).getD false = b at hlk HFN
          cases b
          · have HF2 : Aside0 ((st.order.take (k + 1)).filter (fun q => !(told q).getD false) = (st.order.take k).filter (fun q => !(told q).getD false) ++ [x]) := ⟨HFN.out⟩
            clear HFN
            go_wp2_with ((with_reducible refine gate_builtin (b := .append) (xs := #[.tmp 62, .tmp 64]) rfl ?_); at_builtin; refine Kd.R_append kI (w0 := wo) wo.heap.size rfl (.tmp 62) (.tmp 64) 29 3 (.int .i64 0) 8 rfl Try.underlying29 infoI rfl (by decide) (by omega) _ ((st.order.take k).filter fun q => !(told q).getD false) x [.int .i64 x] (fun _ => True) (fun _ => False) rfl rfl rfl (fun _ hk => hk.elim) (fun _ _ => trivial) HR.out HB3.out HB3.out.size (by have := HLEN.out; omega) ?_; intro v1 w3 hR1 hB1 hg1 hv1; rw [← HF2.out] at hR1; have HR1 := Aside0.mk hR1; have HB1 := Aside0.mk hB1; clear hR1 hB1 hg1 hv1)
            go_roundw
            case rel => exact ⟨k + 1, by omega, by go_num, HR1, HB1⟩
            case measure => simp [intOf]; omega
          · have HF2 : Aside0 ((st.order.take (k + 1)).filter (fun q => !(told q).getD false) = (st.order.take k).filter (fun q => !(told q).getD false)) := ⟨by rw [HFN.out]; simp⟩
            clear HFN
            go_wp2
            go_roundw
            case rel => exact ⟨k + 1, by omega, by go_num, ⟨by rw [HF2.out]; exact HR.out⟩, HB3⟩
            case measure => simp [intOf]; omega
        · obtain rfl : k = st.order.length := by omega
          have HR2 := HR.out
          rw [List.take_length, ← HV.out] at HR2
          obtain ⟨A', c', rfl, hc', hC'⟩ := Kd.R_reads HR2
          have HRES := Aside0.mk (And.intro hc' hC')
          have HLL : Aside0 ((openV l).length ≤ 300) := ⟨by rw [HV.out]; exact Nat.le_trans (List.length_filter_le _ _) HOL.out⟩
          clear HR2 hc' hC' HR
          go_wp2
          go_ret
          exact ⟨⟨A', c', rfl, HRES.out.1, HRES.out.2⟩, HLL.out, HBW.out.trans (HB3.out.mono HBW.out.size)⟩
end Go.Proofs.Ytegfnceepplooaa.TR

set_option linter.unusedVariables false
set_option linter.unusedSimpArgs false
namespace Go.Proofs.Ytegfnceepplooaa.TR
open Go.RowKit Go.Maps Go.Proofs.Ytegfnceepplooaa.FMap Go.Proofs.Ytegfnceepplooaa.PTR Go.Proofs.YtegfnceepplooaaW.PrintWords Go.Proofs.YtegfnceepplooaaW.PrintLast

theorem run_drop (st : St) {l : List Seen} {j : Nat} (h : j < l.length) : runV st (l.drop j) j = if (stepV st (rd_T40 l (j : Int))).1 = 0 then runV (stepV st (rd_T40 l (j : Int))).2 (l.drop (j + 1)) (j + 1) else ((stepV st (rd_T40 l (j : Int))).1, j) := by
  rw [List.drop_eq_getElem_cons h, rdS_at h]
  rfl
theorem answer_order (st : St) (h : List Rec) (a : Ans) : (answerV st h a).2.order = st.order := by
  unfold answerV
  cases st.calls a.f0 with
  | none => rfl
  | some c =>
    show (if knownV st a = true then _ else _ : Int × St).2.order = _
    by_cases h1 : knownV st a = true
    · rw [if_pos h1]
      by_cases h2 : thereV h a c.f2 = true
      · rw [if_pos h2]
        by_cases h3 : asksV a c.f2 = true
        · rw [if_pos h3]
          by_cases h4 : (agR h c.f2 a.f3 ((st.floors a.f1).getD 0)).2 = true
          · rw [if_pos h4]
          · rw [if_neg h4]
        · rw [if_neg h3]
          by_cases h4 : emptyV a c.f2 = true
          · rw [if_pos h4]
          · rw [if_neg h4]
      · rw [if_neg h2]
    · rw [if_neg h1]
theorem answers_order (h : List Rec) : ∀ (l : List Ans) (st : St), (answersV h st l).1 = 0 → (answersV h st l).2.order = st.order
  | [], st, _ => rfl
  | a :: r, st, e => by
    unfold answersV at e ⊢
    by_cases h0 : (answerV st h a).1 = 0
    · rw [if_pos h0] at e ⊢
      rw [answers_order h r _ e]
      exact answer_order st h a
    · rw [if_neg h0] at e
      exact absurd e h0
theorem step_order {st : St} {s : Seen} (h : (stepV st s).1 = 0) : (stepV st s).2.order.length ≤ st.order.length + 1 ∧ (stepV st s).2.before = s.f2 := by
  have hc := choice_order st s.f0
  unfold stepV at h ⊢
  by_cases h1 : (answersV s.f2 (choiceV st s.f0) s.f1).1 = 0
  · have ha := answers_order s.f2 s.f1 (choiceV st s.f0) h1
    rw [if_pos h1] at h ⊢
    split at h
    · rename_i hx
      rw [if_pos hx]
      split at h
      · rename_i hy
        rw [if_pos hy]
        exact ⟨by show (answersV s.f2 (choiceV st s.f0) s.f1).2.order.length ≤ _; rw [ha]; exact hc, rfl⟩
      · exact absurd h (by simp)
    · exact absurd h (by simp)
  · rw [if_neg h1] at h
    exact absurd h h1

set_option maxHeartbeats 8000000 in
set_option maxRecDepth 100000 in
theorem check_any (A : Option Addr) (c : Nat) (l : List Seen) (W : World) (hC : Kd.C kS W A l.length l) (hs : smallL l) (hok : ∀ s ∈ l, okS s) :
    Calls Try.prog 8 #[.slice A l.length c] W fun e W' => e = .returned (.tuple #[.int .i64 (runV st0 l 0).1, .int .i64 ((runV st0 l 0).2 : Nat), .int .i64 0]) ∧ Below W.heap.size W W' := by
  have cX := contains_none A c l W hC hs
  have hn := hs.1
  have d1 : decide ((4096 : Int) < l.length) = false := decide_eq_false (by omega)
  have HC := Aside0.mk hC
  have HS := Aside0.mk hs
  have HO := Aside0.mk hok
  have HB := Aside0.mk (fun W => begin_any W)
  clear hC hs hok
  go_enter Try.func8, Try.ntmps8
  go_wp2_with fail
  refine cX.mono ?_
  rintro e w2 ⟨rfl, hB2⟩
  have HB2 := Aside0.mk hB2
  clear hB2 cX
  go_wp2_with fail
  refine (HB.out w2).mono ?_
  rintro e w3 ⟨rfl, rfl⟩
  have HW0 := Aside0.mk (begW_at w2)
  have HC2 := Aside0.mk (Kd.C_below HC.out HB2.out)
  generalize w2.heap.size + 1 + 1 + 1 = bw at HW0
  generalize w2.heap.size + 1 + 1 = bf at HW0
  generalize w2.heap.size + 1 = bd at HW0
  generalize w2.heap.size = bc at HW0
  obtain ⟨w3, hw3⟩ : ∃ w3, w3 = begW w2 := ⟨_, rfl⟩
  rw [← hw3] at HW0 ⊢
  clear hw3
  go_wp2
  go_loopw [21] (fun i wr => ∃ (j : Nat) (st : St) (n : Nat) (h : List Rec) (vo : Value) (Ab : Option Addr) (cb : Nat) (Ah : Option Addr) (ch : Nat), j ≤ l.length ∧ i = .int .i64 j ∧ Aside0 (runV st0 l 0 = runV st (l.drop j) j) ∧ Aside0 (n ≤ 5000 * j ∧ st.order.length ≤ j ∧ st.before.length ≤ 2000) ∧ Aside0 (WAt w2 wr bw n st h bc bd bf vo Ab cb Ah ch)) (fun i _ => l.length - (intOf i).toNat)
  case atStart => exact ⟨0, st0, 0, [], _, _, _, _, _, Nat.zero_le _, rfl, ⟨by rw [List.drop_zero]⟩, ⟨Nat.zero_le _, Nat.zero_le _, Nat.zero_le _⟩, HW0⟩
  case round =>
    obtain ⟨j, st, n, h, vo, Ab, cb, Ah, ch, hj, rfl, HR, HN, HW⟩ := hrel
    by_cases hlt : j < l.length
    · obtain ⟨ad, A9, k9, A10, k10, A11, k11, hA, g0, g1, g2, g3, g4, g5, g6, g7, g8, g9, g10, g11, _, _, e10, E10, e11, E11⟩ := at_T40 HC2.out (j : Int) (by omega) (by omega)
      rw [Int.toNat_natCast] at g0 g1 g2 g3 g4 g5 g6 g7 g8 g9 g10 g11
      subst hA
      have cv := fun p v (g : w2.cell? p = some v) => (HW.out.below.cell (p := p) (World.block_lt_of_cell? w2 _ g)).trans g
      replace g0 := cv _ _ g0
      replace g1 := cv _ _ g1
      replace g2 := cv _ _ g2
      replace g3 := cv _ _ g3
      replace g4 := cv _ _ g4
      replace g5 := cv _ _ g5
      replace g6 := cv _ _ g6
      replace g7 := cv _ _ g7
      replace g8 := cv _ _ g8
      replace g9 := cv _ _ g9
      replace g10 := cv _ _ g10
      replace g11 := cv _ _ g11
      have hsm := small_mem HS.out (rdS_mem hlt)
      have hoS := HO.out _ (rdS_mem hlt)
      have HRN := Aside0.mk (HR.out.trans (run_drop st hlt))
      have HSO := Aside0.mk (step_order (st := st) (s := rd_T40 l (j : Int)))
      clear cv HR
      generalize rd_T40 l (j : Int) = q at hsm hoS HRN HSO g0 g1 g2 g3 g4 g5 g6 g7 g8 g9 g10 g11 e10 E10 e11 E11
      obtain ⟨⟨p0, p1, p2, p3, ⟨c0, c1, ⟨o0, o1, o2⟩⟩, l9⟩, la, hh⟩ := q
      simp only at hsm g0 g1 g2 g3 g4 g5 g6 g7 g8 g9 g10 g11 e10 E10 e11 E11
      have hj3 : j < 300 := by omega
      have CS := Aside0.mk (fun W (HX : WAt w2 W bw n st h bc bd bf vo Ab cb Ah ch) => step_any HX p0 p1 p2 p3 c0 c1 o0 o1 o2 l9 la hh (.slice A9 l9.length k9) A10 k10 A11 k11 hoS.2.1 hoS.1 hoS.2.2.1 hoS.2.2.2 ⟨E10, e10⟩ ⟨E11, e11⟩ (by have := HN.out; unfold maxLen; omega) (by have := HN.out; omega) (by omega) (by omega) (by have := HN.out; omega))
      have HLA := Aside0.mk hsm
      clear hsm hoS hj3
      go_wp2_with fail
      refine (CS.out _ (HW.out.stay ((Below.refl _ _).alloc (Nat.le_refl _) _))).mono ?_
      rintro e w5 ⟨rfl, hF, hB, hW5⟩
      have HB5 := Aside0.mk hB
      clear hF hB
      generalize stepV st ⟨⟨p0, p1, p2, p3, ⟨c0, c1, ⟨o0, o1, o2⟩⟩, l9⟩, la, hh⟩ = r at HRN HSO hW5 ⊢
      obtain ⟨r1, st2⟩ := r
      by_cases h0 : r1 = 0
      · subst h0
        obtain ⟨vo5, H5⟩ := hW5 rfl
        have HW5 := Aside0.mk H5
        have HR2 : Aside0 (runV st0 l 0 = runV st2 (l.drop (j + 1)) (j + 1)) := ⟨HRN.out⟩
        have HO2 := Aside0.mk (HSO.out rfl)
        clear hW5 H5 HRN HSO
        go_wp2
        go_roundw
        case rel => exact ⟨j + 1, st2, n + 1 + 2 * la.length, hh, vo5, A11, k11, A11, k11, by omega, by go_num, HR2, ⟨by have := HN.out; have := HLA.out; omega, by have := HN.out; have : st2.order.length ≤ st.order.length + 1 := HO2.out.1; omega, by have : st2.before = hh := HO2.out.2; rw [this]; exact HLA.out.2⟩, HW5⟩
        case measure => simp [intOf]; omega
      · have hb1 : (r1 != 0) = true := by simpa using h0
        have hb2 : (r1 == 0) = false := by simpa using h0
        have HRES : Aside0 (runV st0 l 0 = (r1, j)) := ⟨by rw [HRN.out, if_neg h0]⟩
        clear hW5 HRN HSO h0
        go_wp2
        go_ret3
        exact ⟨by rw [HRES.out]; rfl, HB2.out.trans (HB5.out.mono HB2.out.size)⟩
    · obtain rfl : j = l.length := by omega
      have HRES : Aside0 (runV st0 l 0 = (0, 0)) := ⟨by rw [HR.out, List.drop_length]; rfl⟩
      go_wp2
      go_ret3
      exact ⟨by rw [HRES.out]; rfl, HB2.out.trans (HW.out.below.mono HB2.out.size)⟩
end Go.Proofs.Ytegfnceepplooaa.TR

set_option linter.unusedVariables false
set_option linter.unusedSimpArgs false
namespace Go.Proofs.Ytegfnceepplooaa.TR
open Go.RowKit Go.Maps Go.Proofs.Ytegfnceepplooaa.FMap Go.Proofs.Ytegfnceepplooaa.PTR Go.Proofs.YtegfnceepplooaaW.PrintWords Go.Proofs.YtegfnceepplooaaW.PrintLast

theorem C_lit {α : Type} (d : Kd α) {w : World} {b : Nat} {cs : Array Value} {t : TypeId} (hb : w.heap[b]? = some (.cells cs t (0, 0))) (xs : List α) (h : Reps (d.K w) d.sz xs cs.toList) (hl : xs.length ≤ 9223372036854775807) : Kd.C d w (some ⟨b, 0, none⟩) xs.length xs := by
  refine ⟨rfl, hl, fun _ => ⟨⟨b, 0, none⟩, rfl, fun j p hj => ⟨(cs.toList.drop (j * d.sz)).take d.sz, ?_, h.2 j p hj, fun i u hi => ?_⟩⟩⟩
  · have hjl := (List.getElem?_eq_some_iff.1 hj).1
    have : (j + 1) * d.sz ≤ xs.length * d.sz := Nat.mul_le_mul_right _ (by omega)
    rw [List.length_take, List.length_drop, h.1]
    rw [Nat.add_mul, Nat.one_mul] at this
    omega
  · have hi2 : i < d.sz := by
      have := (List.getElem?_eq_some_iff.1 hi).1
      rw [List.length_take] at this
      omega
    rw [List.getElem?_take, if_pos hi2, List.getElem?_drop] at hi
    have e : (⟨b, 0, none⟩ : Addr).add (j * d.sz + i) = ⟨b, j * d.sz + i, none⟩ := by simp [Addr.add]; intros; omega
    rw [e, blk_cell hb]
    simpa using hi
theorem wfz : (Lit.int .i64 0).wf = true := by decide
theorem okS_put {r : Int} (hr : (Lit.int .i64 r).wf = true) {la : List Ans} {hh : List Rec} (ha : ∀ a ∈ la, okA a) (hh' : ∀ x ∈ hh, (Lit.int .i64 x.f5).wf = true) : okS ⟨cPut r, la, hh⟩ := ⟨wfz, hr, ha, hh'⟩
theorem okS_nil {la : List Ans} {hh : List Rec} (ha : ∀ a ∈ la, okA a) (hh' : ∀ x ∈ hh, (Lit.int .i64 x.f5).wf = true) : okS ⟨cNil, la, hh⟩ := ⟨wfz, wfz, ha, hh'⟩
theorem ok_lOK : ∀ a ∈ lOK, okA a := fun a h => by
  obtain rfl := List.mem_singleton.1 h
  exact ⟨by decide, by decide, by decide⟩
theorem ok_lH : ∀ r ∈ lH, (Lit.int .i64 r.f5).wf = true := fun a h => by
  obtain rfl := List.mem_singleton.1 h
  decide
theorem ok_two {x y : Seen} (h1 : okS x) (h2 : okS y) : ∀ s ∈ [x, y], okS s := fun s h => by
  rcases List.mem_cons.1 h with rfl | h
  · exact h1
  · obtain rfl := List.mem_singleton.1 h
    exact h2
theorem ok_T1 : ∀ s ∈ T1, okS s := ok_two (okS_put (by decide) (fun _ h => by cases h) (fun _ h => by cases h)) (okS_nil ok_lOK ok_lH)
theorem ok_T2 : ∀ s ∈ T2, okS s := ok_two (okS_put (by decide) (fun _ h => by cases h) (fun _ h => by cases h)) (okS_nil ok_lOK (fun _ h => by cases h))
theorem ok_T3 : ∀ s ∈ T3, okS s := ok_two (okS_put (by decide) ok_lOK ok_lH) (okS_nil ok_lOK ok_lH)
theorem ok_T4 : ∀ s ∈ T4, okS s := fun s h => by
  obtain rfl := List.mem_singleton.1 h
  exact okS_put (by decide) (fun _ h => by cases h) (fun _ h => by cases h)
theorem sm_T1 : smallL T1 := by unfold smallL; decide
theorem sm_T2 : smallL T2 := by unfold smallL; decide
theorem sm_T3 : smallL T3 := by unfold smallL; decide
theorem sm_T4 : smallL T4 := by unfold smallL; decide

abbrev putC (r : Int) (v9 v10 v11 : Value) : List Value := [.int .i64 1, .int .i64 0, .int .i64 0, .int .i64 0, .int .i64 r, .int .i64 0, .int .i64 2, .string ⟨#[97]⟩, .string ⟨#[120]⟩, v9, v10, v11]
abbrev nilC (v10 v11 : Value) : List Value := [.int .i64 0, .int .i64 0, .int .i64 0, .int .i64 0, .int .i64 0, .int .i64 0, .int .i64 0, .string ⟨#[]⟩, .string ⟨#[]⟩, .slice none 0 0, v10, v11]
section
variable {w : World} {A9 A10 A11 : Option Addr} {c9 c10 c11 : Nat} {la : List Ans} {hh : List Rec}
theorem K_put (r : Int) (g10 : k45.C w A10 la.length la) (l10 : la.length ≤ c10) (g11 : kR.C w A11 hh.length hh) (l11 : hh.length ≤ c11) :
    kS.K w ⟨cPut r, la, hh⟩ (putC r (.slice none 0 0) (.slice A10 la.length c10) (.slice A11 hh.length c11)) := k40_mk w ⟨cPut r, la, hh⟩ (Nat.zero_le _) (Kd.C_nil _ _) l10 g10 l11 g11
theorem K_nil (g10 : k45.C w A10 la.length la) (l10 : la.length ≤ c10) (g11 : kR.C w A11 hh.length hh) (l11 : hh.length ≤ c11) :
    kS.K w ⟨cNil, la, hh⟩ (nilC (.slice A10 la.length c10) (.slice A11 hh.length c11)) := k40_mk w ⟨cNil, la, hh⟩ (Nat.zero_le _) (Kd.C_nil _ _) l10 g10 l11 g11
theorem lit2 {b : Nat} {x1 x2 : Seen} {d1 d2 : List Value} (hb : w.heap[b]? = some (.cells (d1 ++ d2).toArray 40 (0, 0))) (h1 : kS.K w x1 d1) (h2 : kS.K w x2 d2) (e1 : d1.length = 12) (e2 : d2.length = 12) : Kd.C kS w (some ⟨b, 0, none⟩) [x1, x2].length [x1, x2] :=
  C_lit kS hb [x1, x2] (Reps.front h1 e1 (Reps.front h2 e2 (Reps.none _ _) (List.append_nil _)) rfl) (by simp)
theorem lit1 {b : Nat} {x1 : Seen} {d1 : List Value} (hb : w.heap[b]? = some (.cells d1.toArray 40 (0, 0))) (h1 : kS.K w x1 d1) (e1 : d1.length = 12) : Kd.C kS w (some ⟨b, 0, none⟩) [x1].length [x1] :=
  C_lit kS hb [x1] (Reps.front h1 e1 (Reps.none _ _) (List.append_nil _)) (by simp)
end
set_option maxHeartbeats 8000000 in
set_option maxRecDepth 100000 in
theorem speaks_any (W : World) : Calls Try.prog 7 #[] W fun e W' => e = .returned (.bool true) ∧ Below W.heap.size W W' := by
  obtain ⟨W2, hW2⟩ : ∃ W2, W2 = (W.alloc (.cells #[.int .i64 1, .int .i64 0, .int .i64 7, .int .i64 0, .int .i64 1, .int .i64 1, .string ⟨#[97]⟩, .string ⟨#[120]⟩] 50)).alloc (.cells #[.int .i64 1, .int .i64 0, .int .i64 1, .bool false, .string ⟨#[]⟩, .slice none 0 0] 45) := ⟨_, rfl⟩
  have HB2 : Aside0 (Below W.heap.size W W2) := ⟨by rw [hW2]; exact ((Below.refl _ W).alloc (Nat.le_refl _) _).alloc (by simp) _⟩
  have HG11 : Aside0 (Kd.C kR W2 (some ⟨W.heap.size, 0, none⟩) lH.length lH) := ⟨by
    rw [hW2]
    exact C_lit kR (blk_alloc (blk_new W _) _) lH (Reps.front (k50_mk _ ⟨1, 0, 7, 0, 1, 1, ⟨#[97]⟩, ⟨#[120]⟩⟩) rfl (Reps.none _ _) rfl) (by decide)⟩
  have HG10 : Aside0 (Kd.C k45 W2 (some ⟨W.heap.size + 1, 0, none⟩) lOK.length lOK) := ⟨by
    rw [hW2]
    have := blk_new (W.alloc (.cells #[.int .i64 1, .int .i64 0, .int .i64 7, .int .i64 0, .int .i64 1, .int .i64 1, .string ⟨#[97]⟩, .string ⟨#[120]⟩] 50)) (.cells #[.int .i64 1, .int .i64 0, .int .i64 1, .bool false, .string ⟨#[]⟩, .slice none 0 0] 45)
    rw [World.size_alloc] at this
    exact C_lit k45 this lOK (Reps.front (k45_mk _ ⟨1, 0, 1, ⟨false, ⟨#[]⟩, []⟩⟩ (A5 := none) (c5 := 0) (Nat.le_refl _) (Kd.C_nil _ _)) rfl (Reps.none _ _) rfl) (by decide)⟩
  go_enter Try.func7, Try.ntmps7
  go_wp2_with fail
  rw [← hW2]
  clear hW2
  refine (put_any 1 W2).mono ?_
  rintro e w3 ⟨rfl, hB⟩
  have HP1 : Aside0 (Below W2.heap.size W2 w3) := ⟨hB⟩
  clear hB
  go_wp2_with fail
  have cK1 : Calls Try.prog 8 #[.slice (some ⟨w3.heap.size, 0, none⟩) 2 2] (w3.alloc (.cells (putC 1 (.slice none 0 0) (.slice none 0 0) (.slice none 0 0) ++ nilC (.slice (some ⟨W.heap.size + 1, 0, none⟩) 1 1) (.slice (some ⟨W.heap.size, 0, none⟩) 1 1)).toArray 40)) fun e W' => e = .returned (.tuple #[.int .i64 0, .int .i64 0, .int .i64 0]) ∧ Below (w3.alloc (.cells (putC 1 (.slice none 0 0) (.slice none 0 0) (.slice none 0 0) ++ nilC (.slice (some ⟨W.heap.size + 1, 0, none⟩) 1 1) (.slice (some ⟨W.heap.size, 0, none⟩) 1 1)).toArray 40)).heap.size (w3.alloc (.cells (putC 1 (.slice none 0 0) (.slice none 0 0) (.slice none 0 0) ++ nilC (.slice (some ⟨W.heap.size + 1, 0, none⟩) 1 1) (.slice (some ⟨W.heap.size, 0, none⟩) 1 1)).toArray 40)) W' := by
    have hB : Below W2.heap.size W2 (w3.alloc (.cells (putC 1 (.slice none 0 0) (.slice none 0 0) (.slice none 0 0) ++ nilC (.slice (some ⟨W.heap.size + 1, 0, none⟩) 1 1) (.slice (some ⟨W.heap.size, 0, none⟩) 1 1)).toArray 40)) := HP1.out.alloc HP1.out.size _
    have h10 := Kd.C_below HG10.out hB
    have h11 := Kd.C_below HG11.out hB
    have := check_any (some ⟨w3.heap.size, 0, none⟩) 2 T1 _ (lit2 (blk_new w3 (.cells (putC 1 (.slice none 0 0) (.slice none 0 0) (.slice none 0 0) ++ nilC (.slice (some ⟨W.heap.size + 1, 0, none⟩) 1 1) (.slice (some ⟨W.heap.size, 0, none⟩) 1 1)).toArray 40)) (K_put 1 (A10 := none) (c10 := 0) (la := []) (A11 := none) (c11 := 0) (hh := []) (Kd.C_nil _ _) (Nat.le_refl _) (Kd.C_nil _ _) (Nat.le_refl _)) (K_nil (la := lOK) (hh := lH) h10 (Nat.le_refl _) h11 (Nat.le_refl _)) rfl rfl) sm_T1 ok_T1
    rw [run_T1] at this
    exact this
  refine cK1.mono ?_
  rintro e w4 ⟨rfl, hB⟩
  have HQ1 : Aside0 (Below W2.heap.size W2 w4) := ⟨(HP1.out.alloc HP1.out.size _).trans (hB.mono (HP1.out.alloc HP1.out.size _).size)⟩
  clear hB cK1
  go_wp2_with fail
  refine (put_any 1 w4).mono ?_
  rintro e w5 ⟨rfl, hB⟩
  have HP2 : Aside0 (Below W2.heap.size W2 w5) := ⟨HQ1.out.trans (hB.mono HQ1.out.size)⟩
  clear hB
  go_wp2_with fail
  have cK2 : Calls Try.prog 8 #[.slice (some ⟨w5.heap.size, 0, none⟩) 2 2] (w5.alloc (.cells (putC 1 (.slice none 0 0) (.slice none 0 0) (.slice none 0 0) ++ nilC (.slice (some ⟨W.heap.size + 1, 0, none⟩) 1 1) (.slice none 0 0)).toArray 40)) fun e W' => e = .returned (.tuple #[.int .i64 3, .int .i64 1, .int .i64 0]) ∧ Below (w5.alloc (.cells (putC 1 (.slice none 0 0) (.slice none 0 0) (.slice none 0 0) ++ nilC (.slice (some ⟨W.heap.size + 1, 0, none⟩) 1 1) (.slice none 0 0)).toArray 40)).heap.size (w5.alloc (.cells (putC 1 (.slice none 0 0) (.slice none 0 0) (.slice none 0 0) ++ nilC (.slice (some ⟨W.heap.size + 1, 0, none⟩) 1 1) (.slice none 0 0)).toArray 40)) W' := by
    have hB : Below W2.heap.size W2 (w5.alloc (.cells (putC 1 (.slice none 0 0) (.slice none 0 0) (.slice none 0 0) ++ nilC (.slice (some ⟨W.heap.size + 1, 0, none⟩) 1 1) (.slice none 0 0)).toArray 40)) := HP2.out.alloc HP2.out.size _
    have h10 := Kd.C_below HG10.out hB
    have h11 := Kd.C_below HG11.out hB
    have := check_any (some ⟨w5.heap.size, 0, none⟩) 2 T2 _ (lit2 (blk_new w5 (.cells (putC 1 (.slice none 0 0) (.slice none 0 0) (.slice none 0 0) ++ nilC (.slice (some ⟨W.heap.size + 1, 0, none⟩) 1 1) (.slice none 0 0)).toArray 40)) (K_put 1 (A10 := none) (c10 := 0) (la := []) (A11 := none) (c11 := 0) (hh := []) (Kd.C_nil _ _) (Nat.le_refl _) (Kd.C_nil _ _) (Nat.le_refl _)) (K_nil (la := lOK) (hh := []) (A11 := none) (c11 := 0) h10 (Nat.le_refl _) (Kd.C_nil _ _) (Nat.le_refl _)) rfl rfl) sm_T2 ok_T2
    rw [run_T2] at this
    exact this
  refine cK2.mono ?_
  rintro e w6 ⟨rfl, hB⟩
  have HQ2 : Aside0 (Below W2.heap.size W2 w6) := ⟨(HP2.out.alloc HP2.out.size _).trans (hB.mono (HP2.out.alloc HP2.out.size _).size)⟩
  clear hB cK2
  go_wp2_with fail
  refine (put_any 1 w6).mono ?_
  rintro e w7 ⟨rfl, hB⟩
  have HP3 : Aside0 (Below W2.heap.size W2 w7) := ⟨HQ2.out.trans (hB.mono HQ2.out.size)⟩
  clear hB
  go_wp2_with fail
  have cK3 : Calls Try.prog 8 #[.slice (some ⟨w7.heap.size, 0, none⟩) 2 2] (w7.alloc (.cells (putC 1 (.slice none 0 0) (.slice (some ⟨W.heap.size + 1, 0, none⟩) 1 1) (.slice (some ⟨W.heap.size, 0, none⟩) 1 1) ++ nilC (.slice (some ⟨W.heap.size + 1, 0, none⟩) 1 1) (.slice (some ⟨W.heap.size, 0, none⟩) 1 1)).toArray 40)) fun e W' => e = .returned (.tuple #[.int .i64 2, .int .i64 1, .int .i64 0]) ∧ Below (w7.alloc (.cells (putC 1 (.slice none 0 0) (.slice (some ⟨W.heap.size + 1, 0, none⟩) 1 1) (.slice (some ⟨W.heap.size, 0, none⟩) 1 1) ++ nilC (.slice (some ⟨W.heap.size + 1, 0, none⟩) 1 1) (.slice (some ⟨W.heap.size, 0, none⟩) 1 1)).toArray 40)).heap.size (w7.alloc (.cells (putC 1 (.slice none 0 0) (.slice (some ⟨W.heap.size + 1, 0, none⟩) 1 1) (.slice (some ⟨W.heap.size, 0, none⟩) 1 1) ++ nilC (.slice (some ⟨W.heap.size + 1, 0, none⟩) 1 1) (.slice (some ⟨W.heap.size, 0, none⟩) 1 1)).toArray 40)) W' := by
    have hB : Below W2.heap.size W2 (w7.alloc (.cells (putC 1 (.slice none 0 0) (.slice (some ⟨W.heap.size + 1, 0, none⟩) 1 1) (.slice (some ⟨W.heap.size, 0, none⟩) 1 1) ++ nilC (.slice (some ⟨W.heap.size + 1, 0, none⟩) 1 1) (.slice (some ⟨W.heap.size, 0, none⟩) 1 1)).toArray 40)) := HP3.out.alloc HP3.out.size _
    have h10 := Kd.C_below HG10.out hB
    have h11 := Kd.C_below HG11.out hB
    have := check_any (some ⟨w7.heap.size, 0, none⟩) 2 T3 _ (lit2 (blk_new w7 (.cells (putC 1 (.slice none 0 0) (.slice (some ⟨W.heap.size + 1, 0, none⟩) 1 1) (.slice (some ⟨W.heap.size, 0, none⟩) 1 1) ++ nilC (.slice (some ⟨W.heap.size + 1, 0, none⟩) 1 1) (.slice (some ⟨W.heap.size, 0, none⟩) 1 1)).toArray 40)) (K_put 1 (la := lOK) (hh := lH) h10 (Nat.le_refl _) h11 (Nat.le_refl _)) (K_nil (la := lOK) (hh := lH) h10 (Nat.le_refl _) h11 (Nat.le_refl _)) rfl rfl) sm_T3 ok_T3
    rw [run_T3] at this
    exact this
  refine cK3.mono ?_
  rintro e w8 ⟨rfl, hB⟩
  have HQ3 : Aside0 (Below W2.heap.size W2 w8) := ⟨(HP3.out.alloc HP3.out.size _).trans (hB.mono (HP3.out.alloc HP3.out.size _).size)⟩
  clear hB cK3
  go_wp2_with fail
  refine (put_any 4 w8).mono ?_
  rintro e w9 ⟨rfl, hB⟩
  have HP4 : Aside0 (Below W2.heap.size W2 w9) := ⟨HQ3.out.trans (hB.mono HQ3.out.size)⟩
  clear hB
  go_wp2_with fail
  have cO : Calls Try.prog 10 #[.slice (some ⟨w9.heap.size, 0, none⟩) 1 1] (w9.alloc (.cells (putC 4 (.slice none 0 0) (.slice none 0 0) (.slice none 0 0)).toArray 40)) fun e W' => (∃ A' c', e = .returned (.slice A' 1 c') ∧ 1 ≤ c' ∧ Kd.C kI W' A' 1 [4]) ∧ Below (w9.alloc (.cells (putC 4 (.slice none 0 0) (.slice none 0 0) (.slice none 0 0)).toArray 40)).heap.size (w9.alloc (.cells (putC 4 (.slice none 0 0) (.slice none 0 0) (.slice none 0 0)).toArray 40)) W' := by
    have := open_any (some ⟨w9.heap.size, 0, none⟩) 1 T4 _ (lit1 (blk_new w9 (.cells (putC 4 (.slice none 0 0) (.slice none 0 0) (.slice none 0 0)).toArray 40)) (K_put 4 (A10 := none) (c10 := 0) (la := []) (A11 := none) (c11 := 0) (hh := []) (Kd.C_nil _ _) (Nat.le_refl _) (Kd.C_nil _ _) (Nat.le_refl _)) rfl) sm_T4 ok_T4
    rw [open_T4] at this
    exact this.mono fun e W' h => ⟨h.1, h.2.2⟩
  refine cO.mono ?_
  rintro e w10 ⟨⟨A', c', rfl, hc', hC'⟩, hB⟩
  have HQ4 : Aside0 (Below W2.heap.size W2 w10) := ⟨(HP4.out.alloc HP4.out.size _).trans (hB.mono (HP4.out.alloc HP4.out.size _).size)⟩
  have HC' := Aside0.mk (And.intro hC' hc')
  clear hB cO hC' hc'
  go_wp2_with fail
  have cI := ints_any A' (some ⟨w10.heap.size, 0, none⟩) c' 1 [4] (w10.alloc (.cells #[.int .i64 4] 3)) (Kd.C_alloc HC'.out.1 _) HC'.out.2 (C_lit kI (blk_new w10 (.cells #[.int .i64 4] 3)) [4] (Reps.one rfl (Reps.none _ _)) (by decide)) (Nat.le_refl _) (by decide)
  refine cI.mono ?_
  rintro e w11 ⟨rfl, hB⟩
  have HB11 : Aside0 (Below W.heap.size W w11) := ⟨HB2.out.trans (((HQ4.out.alloc HQ4.out.size _).trans (hB.mono (HQ4.out.alloc HQ4.out.size _).size)).mono HB2.out.size)⟩
  clear hB cI
  go_wp2
  go_ret
  exact ⟨rfl, HB11.out⟩
end Go.Proofs.Ytegfnceepplooaa.TR

set_option linter.unusedVariables false
set_option linter.unusedSimpArgs false
namespace Go.Proofs.Ytegfnceepplooaa.TR
open Go.RowKit Go.Maps Go.Proofs.Ytegfnceepplooaa.FMap Go.Proofs.Ytegfnceepplooaa.PTR Go.Proofs.YtegfnceepplooaaW.PrintWords Go.Proofs.YtegfnceepplooaaW.PrintLast

theorem ack_drop (st : St) (out : List Int) {l : List Seen} {j : Nat} (h : j < l.length) : ackS st out (l.drop j) = ackS (choiceV st (rd_T40 l (j : Int)).f0) ((rd_T40 l (j : Int)).f1.foldl (ackA (choiceV st (rd_T40 l (j : Int)).f0)) out) (l.drop (j + 1)) := by
  rw [List.drop_eq_getElem_cons h, rdS_at h]
  rfl
theorem R_keep {W W' : World} {base : Nat} {ok : Nat → Prop} {v : Value} {xs : List Int} (h : Kd.R kI 3 W base ok v xs) (hk : ∀ k, v.ownBlock = some k → W'.heap[k]? = W.heap[k]?) : Kd.R kI 3 W' base ok v xs := by
  obtain ⟨h0, inner, ho, hr⟩ := h
  exact ⟨h0, inner, own_move ho hk, hr⟩
theorem R_lt {W : World} {base : Nat} {ok : Nat → Prop} {v : Value} {xs : List Int} (h : Kd.R kI 3 W base ok v xs) {k : Nat} (hk : v.ownBlock = some k) : k < W.heap.size := by
  obtain ⟨h0, inner, ho, hr⟩ := h
  exact own_lt ho k hk
/-- Two rows of numbers share nothing. -/
def ApartV (v w : Value) : Prop := ∀ k, v.ownBlock = some k → w.ownBlock ≠ some k
section
variable {w0 W W' : World} {bw n : Nat} {st : St} {h : List Rec} {bc bd bf : Nat} {vo : Value} {Ab : Option Addr} {cb : Nat} {Ah : Option Addr} {ch : Nat}
/-- A choice leaves another row of numbers as it is. -/
theorem FrN.row {ov : Value} {xs : List Int} {base : Nat} {ok : Nat → Prop} (hf : FrN bw bc bf vo W W') (H : WAt w0 W bw n st h bc bd bf vo Ab cb Ah ch) (hR : Kd.R kI 3 W base ok ov xs) (hD : ApartV ov vo) : Kd.R kI 3 W' base ok ov xs :=
  R_keep hR (fun k hk => hf.keep k (R_lt hR hk)
    (fun he => own_ne hR H.block (by decide) (by rw [hk, he]))
    (fun he => own_ne_map hR H.calls.is_map (by rw [hk, he]))
    (fun he => own_ne_map hR H.floors.is_map (by rw [hk, he]))
    (fun he => hD k hk he.symm))
theorem OwnT.apart {v1 ov : Value} {xs : List Int} {base : Nat} {ok : Nat → Prop} (hT : OwnT vo v1 W) (hR : Kd.R kI 3 W base ok ov xs) (hD : ApartV ov vo) : ApartV ov v1 := by
  intro k hk he
  rcases hT with h | ⟨b, h1, h2⟩
  · exact hD k hk (h ▸ he)
  · have := R_lt hR hk
    rw [h1] at he
    have := Option.some.inj he
    omega
/-- Another row of numbers has grown. -/
theorem WAt.apart (H : WAt w0 W bw n st h bc bd bf vo Ab cb Ah ch) {ov : Value} {xs : List Int} {base : Nat} {ok : Nat → Prop} (hR : Kd.R kI 3 W base ok ov xs) (hB : Below w0.heap.size w0 W') (hg : W.grownBy W' ov.ownBlock) (hD : ApartV ov vo) : WAt w0 W' bw n st h bc bd bf vo Ab cb Ah ch := {
    below := hB
    block := blk_grown H.block hg (own_ne hR H.block (by decide))
    calls := H.calls.same (hg.block bc H.calls.lt (own_ne_map hR H.calls.is_map))
    codes := H.codes.same (hg.block bd H.codes.lt (own_ne_map hR H.codes.is_map))
    floors := H.floors.same (hg.block bf H.floors.lt (own_ne_map hR H.floors.is_map))
    order := R_keep H.order (fun k hk => hg.block k (R_lt H.order hk) (fun he => hD k he.symm hk))
    before := H.before
    at_h := H.at_h
    hbw := H.hbw
    hbc := H.hbc
    hbd := H.hbd
    hbf := H.hbf
    cd := H.cd
    cf := H.cf
    df := H.df }
theorem apart_grown {ov v1 : Value} (H : WAt w0 W bw n st h bc bd bf vo Ab cb Ah ch) (hv : v1.ownBlock = ov.ownBlock ∨ ∃ b, v1.ownBlock = some b ∧ W.heap.size ≤ b) (hD : ApartV ov vo) : ApartV v1 vo := by
  intro k hk he
  rcases hv with h | ⟨b, h1, h2⟩
  · exact hD k (h ▸ hk) he
  · have := R_lt H.order he
    rw [h1] at hk
    have := Option.some.inj hk
    omega
end
theorem ack_at (st : St) (out : List Int) (a : Ans) : ackA st out a = if ((st.calls a.f0).isSome && ((a.f2 == 1) && writeV ((st.calls a.f0).getD zeroC).f2)) = true then out ++ [a.f0] else out := by
  unfold ackA
  cases st.calls a.f0 with
  | none => rfl
  | some c => rfl
theorem apart_nil (v : Value) : ApartV (.slice none 0 0) v := fun k hk => by simp [Value.ownBlock] at hk
end Go.Proofs.Ytegfnceepplooaa.TR

set_option linter.unusedVariables false
set_option linter.unusedSimpArgs false
namespace Go.Proofs.Ytegfnceepplooaa.TR
open Go.RowKit Go.Maps Go.Proofs.Ytegfnceepplooaa.FMap Go.Proofs.Ytegfnceepplooaa.PTR Go.Proofs.YtegfnceepplooaaW.PrintWords Go.Proofs.YtegfnceepplooaaW.PrintLast

set_option maxHeartbeats 8000000 in
set_option maxRecDepth 100000 in
theorem acked_any (A : Option Addr) (c : Nat) (l : List Seen) (W : World) (hC : Kd.C kS W A l.length l) (hs : smallL l) (hok : ∀ s ∈ l, okS s) :
    Calls Try.prog 11 #[.slice A l.length c] W fun e W' => (∃ A' c', e = .returned (.slice A' (ackV l).length c') ∧ (ackV l).length ≤ c' ∧ Kd.C kI W' A' (ackV l).length (ackV l)) ∧ (ackV l).length ≤ 600000 ∧ Below W.heap.size W W' := by
  have hn := hs.1
  have HC := Aside0.mk hC
  have HS := Aside0.mk hs
  have HO := Aside0.mk hok
  have HB := Aside0.mk (fun W => begin_any W)
  clear hC hs hok
  go_enter Try.func11, Try.ntmps11
  go_wp2_with fail
  refine (HB.out W).mono ?_
  rintro e w3 ⟨rfl, rfl⟩
  have HX0 := Aside0.mk (begW_at W)
  obtain ⟨w4, hw4⟩ : ∃ w4, w4 = begW W := ⟨_, rfl⟩
  rw [← hw4] at HX0
  go_wp2
  rw [← hw4]
  clear hw4
  generalize W.heap.size + 1 + 1 + 1 = bw at HX0 ⊢
  generalize W.heap.size + 1 + 1 = bf at HX0 ⊢
  generalize W.heap.size + 1 = bd at HX0 ⊢
  generalize W.heap.size = bc at HX0
  go_loopw [4, 14] (fun uv i wr => ∃ (j : Nat) (st : St) (out : List Int) (n : Nat) (vo ov : Value), ov = uv ∧ j ≤ l.length ∧ i = .int .i64 j ∧ Aside0 (ackV l = ackS st out (l.drop j)) ∧ Aside0 (n ≤ j ∧ out.length ≤ 2000 * j ∧ st.order.length ≤ j) ∧ Aside0 (WAt W wr bw n st [] bc bd bf vo none 0 none 0) ∧ Aside0 (Kd.R kI 3 wr W.heap.size (fun _ => True) ov out) ∧ Aside0 (ApartV ov vo)) (fun _ i _ => l.length - (intOf i).toNat)
  case atStart => exact ⟨0, st0, [], 0, _, _, rfl, Nat.zero_le _, rfl, ⟨by rw [List.drop_zero]; rfl⟩, ⟨Nat.zero_le _, Nat.zero_le _, Nat.zero_le _⟩, HX0, ⟨Kd.R_nil _ _ _ _ _⟩, ⟨apart_nil _⟩⟩
  case round =>
    obtain ⟨j, st, out, n, vo, ov, huv, hj, rfl, HE, HN, HW, HT, HD⟩ := hrel
    subst huv
    obtain ⟨wo, hwo⟩ : ∃ wo, wo = wr := ⟨_, rfl⟩
    subst hwo
    by_cases hlt : j < l.length
    · obtain ⟨ad, A9, k9, A10, k10, A11, k11, hA, g0, g1, g2, g3, g4, g5, g6, g7, g8, g9, g10, g11, _, _, e10, E10, _, _⟩ := at_T40 HC.out (j : Int) (by omega) (by omega)
      rw [Int.toNat_natCast] at g0 g1 g2 g3 g4 g5 g6 g7 g8 g9 g10 g11
      subst hA
      have cv := fun p v (g : W.cell? p = some v) => (HW.out.below.cell (p := p) (World.block_lt_of_cell? W _ g)).trans g
      replace g0 := cv _ _ g0
      replace g1 := cv _ _ g1
      replace g2 := cv _ _ g2
      replace g3 := cv _ _ g3
      replace g4 := cv _ _ g4
      replace g5 := cv _ _ g5
      replace g6 := cv _ _ g6
      replace g7 := cv _ _ g7
      replace g8 := cv _ _ g8
      replace g9 := cv _ _ g9
      replace g10 := cv _ _ g10
      replace g11 := cv _ _ g11
      have hsm := small_mem HS.out (rdS_mem hlt)
      have hoS := HO.out _ (rdS_mem hlt)
      have HEN := Aside0.mk (HE.out.trans (ack_drop st out hlt))
      have HCO := Aside0.mk (choice_order2 st (rd_T40 l (j : Int)).f0)
      clear cv HE
      generalize rd_T40 l (j : Int) = q at hsm hoS HEN HCO g0 g1 g2 g3 g4 g5 g6 g7 g8 g9 g10 g11 e10 E10
      obtain ⟨⟨p0, p1, p2, p3, ⟨c0, c1, ⟨o0, o1, o2⟩⟩, l9⟩, la, hh⟩ := q
      simp only at hsm g0 g1 g2 g3 g4 g5 g6 g7 g8 g9 g10 g11 e10 E10
      have hj3 : j < 300 := by omega
      obtain ⟨wa, hwa⟩ : ∃ wa, wa = wo.alloc (.cells #[.int .i64 p0, .int .i64 p1, .int .i64 p2, .int .i64 p3, .int .i64 c0, .int .i64 c1, .int .i64 o0, .string o1, .string o2, .slice A9 l9.length k9, .slice A10 la.length k10, .slice A11 hh.length k11] 40) := ⟨_, rfl⟩
      have hBa : Below wo.heap.size wo wa := by rw [hwa]; exact (Below.refl _ wo).alloc (Nat.le_refl _) _
      have bs : wa.heap[wo.heap.size]? = some (.cells #[.int .i64 p0, .int .i64 p1, .int .i64 p2, .int .i64 p3, .int .i64 c0, .int .i64 c1, .int .i64 o0, .string o1, .string o2, .slice A9 l9.length k9, .slice A10 la.length k10, .slice A11 hh.length k11] 40 (0, 0)) := by rw [hwa]; exact blk_new _ _
      have hWa := HW.out.stay hBa
      have hTa := Kd.R_below HT.out hBa
      have cC := choice_full hWa (by have := HN.out.1; unfold maxLen; omega) (by have := HN.out.2.2; omega) p0 p1 p2 p3 c0 c1 o0 o1 o2 (.slice A9 l9.length k9) l9 hoS.2.1 hoS.1
      have x0 := (blk_cell bs 0).trans rfl
      have x1 := (blk_cell bs 1).trans rfl
      have x2 := (blk_cell bs 2).trans rfl
      have x3 := (blk_cell bs 3).trans rfl
      have x4 := (blk_cell bs 4).trans rfl
      have x5 := (blk_cell bs 5).trans rfl
      have x6 := (blk_cell bs 6).trans rfl
      have x7 := (blk_cell bs 7).trans rfl
      have x8 := (blk_cell bs 8).trans rfl
      have x9 := (blk_cell bs 9).trans rfl
      have HWa := Aside0.mk hWa
      have HTa := Aside0.mk hTa
      have HBS := Aside0.mk bs
      have HOA := Aside0.mk hoS.2.2.1
      have HE10 := Aside0.mk (And.intro E10 e10)
      have HSM := Aside0.mk hsm.1
      clear hBa bs hWa hTa hoS E10 e10 hsm HW HT
      go_wp2_with fail
      rw [← hwa]
      clear hwa g0 g1 g2 g3 g4 g5 g6 g7 g8 g9 g10 g11
      refine cC.mono ?_
      rintro e w5 ⟨rfl, hF, vo5, hOT, H5⟩
      have y10 : w5.cell? ⟨wo.heap.size, 10, none⟩ = some (.slice A10 la.length k10) := (blk_cell ((hF.fr HWa.out).blk HBS.out (by decide) (by decide)) 10).trans rfl
      have HT5 := Aside0.mk (hF.row HWa.out HTa.out HD.out)
      have HD5 := Aside0.mk (hOT.apart HTa.out HD.out)
      have HW5 := Aside0.mk H5
      clear hF hOT H5 cC x0 x1 x2 x3 x4 x5 x6 x7 x8 x9 HWa HTa HBS
      generalize choiceV st ⟨p0, p1, p2, p3, ⟨c0, c1, ⟨o0, o1, o2⟩⟩, l9⟩ = st1 at HEN HCO HW5
      go_wp2
      go_loopw [4, 25] (fun uv i wi => ∃ (q : Nat) (out' : List Int) (ov' : Value), ov' = uv ∧ q ≤ la.length ∧ i = .int .i64 q ∧ Aside0 (la.foldl (ackA st1) out = (la.drop q).foldl (ackA st1) out') ∧ Aside0 (out'.length ≤ out.length + q) ∧ Aside0 (WAt W wi bw (n + 1) st1 [] bc bd bf vo5 none 0 none 0) ∧ Aside0 (Kd.R kI 3 wi W.heap.size (fun _ => True) ov' out') ∧ Aside0 (ApartV ov' vo5)) (fun _ i _ => la.length - (intOf i).toNat)
      case atStart => exact ⟨0, out, ov, rfl, Nat.zero_le _, rfl, ⟨by rw [List.drop_zero]⟩, ⟨Nat.le_refl _⟩, HW5, HT5, HD5⟩
      case round =>
        obtain ⟨q, out', ov', huv, hq, rfl, HF, HM, HWi, HTi, HDi⟩ := hrel
        subst huv
        by_cases hql : q < la.length
        · obtain ⟨ae, A5, k5, hAe, f0, f1, f2, f3, f4, f5, _, _⟩ := at_T45 HE10.out.1 (q : Int) (by omega) (by omega)
          rw [Int.toNat_natCast] at f0 f1 f2 f3 f4 f5
          subst hAe
          have cv := fun p v (g : W.cell? p = some v) => (HWi.out.below.cell (p := p) (World.block_lt_of_cell? W _ g)).trans g
          replace f0 := cv _ _ f0
          replace f1 := cv _ _ f1
          replace f2 := cv _ _ f2
          replace f3 := cv _ _ f3
          replace f4 := cv _ _ f4
          replace f5 := cv _ _ f5
          have hxA := (HOA.out _ (rdA_mem hql)).1
          have HQL := Aside0.mk hql
          have hq3 : la.length ≤ 2000 := HSM.out
          have HFN := Aside0.mk (HF.out.trans (told_drop (ackA st1) out' hql))
          clear cv HF
          generalize rd_T45 la (q : Int) = a at HFN f0 f1 f2 f3 f4 f5 hxA
          obtain ⟨a0, a1, a2, ⟨a3, a4, a5⟩⟩ := a
          simp only at f0 f1 f2 f3 f4 f5 hxA
          obtain ⟨wb, hwb⟩ : ∃ wb, wb = wr.alloc (.cells #[.int .i64 a0, .int .i64 a1, .int .i64 a2, .bool a3, .string a4, .slice A5 a5.length k5] 45) := ⟨_, rfl⟩
          have hBb : Below wr.heap.size wr wb := by rw [hwb]; exact (Below.refl _ wr).alloc (Nat.le_refl _) _
          have ba : wb.heap[wr.heap.size]? = some (.cells #[.int .i64 a0, .int .i64 a1, .int .i64 a2, .bool a3, .string a4, .slice A5 a5.length k5] 45 (0, 0)) := by rw [hwb]; exact blk_new _ _
          have hWb := HWi.out.stay hBb
          have hTb := Kd.R_below HTi.out hBb
          have d0 : wb.cell? ⟨wr.heap.size, 0, none⟩ = some (.int .i64 a0) := (blk_cell ba 0).trans rfl
          have c0' : wb.cell? ⟨bw, 0, none⟩ = some (.map (some bc)) := (blk_cell hWb.block 0).trans rfl
          have z0 : (wb.alloc (.cells #[.int .i64 0, .int .i64 0, .int .i64 0, .string ⟨#[]⟩, .string ⟨#[]⟩] 33)).cell? ⟨bw, 0, none⟩ = some (.map (some bc)) := (blk_cell (blk_alloc hWb.block _) 0).trans rfl
          have z1 : (wb.alloc (.cells #[.int .i64 0, .int .i64 0, .int .i64 0, .string ⟨#[]⟩, .string ⟨#[]⟩] 33)).cell? ⟨wr.heap.size, 0, none⟩ = some (.int .i64 a0) := (blk_cell (blk_alloc ba _) 0).trans rfl
          have hL := fun w (hw : w.heap[bc]? = wb.heap[bc]?) => lookC_ok (W := w) (hWb.calls.same hw) hxA
          have HTA : Aside0 (ackA st1 out' ⟨a0, a1, a2, ⟨a3, a4, a5⟩⟩ = if ((st1.calls a0).isSome && ((a2 == 1) && writeV ((st1.calls a0).getD zeroC).f2)) = true then out' ++ [a0] else out') := ⟨ack_at st1 out' ⟨a0, a1, a2, ⟨a3, a4, a5⟩⟩⟩
          rw [HTA.out] at HFN
          clear HTA
          generalize (st1.calls a0).getD zeroC = y at hL HFN
          generalize (st1.calls a0).isSome = ok at hL HFN
          obtain ⟨y0, y1, ⟨y2, y3, y4⟩⟩ := y
          simp only [valC] at hL
          have hl0 := hL wb.drew rfl
          have hl1 := hL (wb.alloc (.cells #[.int .i64 0, .int .i64 0, .int .i64 0, .string ⟨#[]⟩, .string ⟨#[]⟩] 33)).drew (Below.heap_alloc _ _ _ hWb.calls.lt)
          have hbw : bw < wb.heap.size := blk_lt hWb.block
          have hbr : wr.heap.size < wb.heap.size := blk_lt ba
          have HWb := Aside0.mk hWb
          have HTb := Aside0.mk hTb
          have HXA := Aside0.mk hxA
          have HBA := Aside0.mk ba
          clear hBb ba hWb hTb hxA hL HWi HTi
          go_wp2
          rw [← hwb]
          clear hwb f0 f1 f2 f3 f4 f5
          go_region
          all_goals
            obtain ⟨w6, hw6⟩ : ∃ w6, w6 = (wb.alloc (.cells #[.int .i64 y0, .int .i64 y1, .int .i64 y2, .string y3, .string y4] 33)).drew := ⟨_, rfl⟩
            rw [← hw6]
            have hB6 : Below wb.heap.size wb w6 := by rw [hw6]; exact ((Below.refl _ wb).alloc (Nat.le_refl _) _).drew
            have n6 : w6.heap[wb.heap.size]? = some (.cells #[.int .i64 y0, .int .i64 y1, .int .i64 y2, .string y3, .string y4] 33 (0, 0)) := by rw [hw6]; exact blk_drew (blk_new _ _)
            have b6 := blk_below HBA.out hB6
            have HT6 := Aside0.mk (Kd.R_below HTb.out hB6)
            have HW6 := Aside0.mk (HWb.out.stay hB6)
            have d2 : w6.cell? ⟨wr.heap.size, 2, none⟩ = some (.int .i64 a2) := (blk_cell b6 2).trans rfl
            have e2 : w6.cell? ⟨wb.heap.size, 2, none⟩ = some (.int .i64 y2) := (blk_cell n6 2).trans rfl
            have e3 : w6.cell? ⟨wb.heap.size, 3, none⟩ = some (.string y3) := (blk_cell n6 3).trans rfl
            have e4 : w6.cell? ⟨wb.heap.size, 4, none⟩ = some (.string y4) := (blk_cell n6 4).trans rfl
            have HB6 := Aside0.mk b6
            have HFN2 : Aside0 (la.foldl (ackA st1) out = (la.drop (q + 1)).foldl (ackA st1) (if (ok && ((a2 == 1) && writeV ⟨y2, y3, y4⟩)) = true then out' ++ [a0] else out')) := ⟨HFN.out⟩
            have cW := write_any y2 y3 y4 w6
            clear hw6 hB6 b6 n6 d0 c0' z0 z1 hl0 hl1 hbw hbr HFN
            generalize writeV ⟨y2, y3, y4⟩ = wv at cW HFN2
            cases ok
            · have HF2 : Aside0 (la.foldl (ackA st1) out = (la.drop (q + 1)).foldl (ackA st1) out') := ⟨HFN2.out⟩
              clear HFN2 d2 e2 e3 e4 cW
              go_wp2
              go_roundw
              case rel => exact ⟨q + 1, out', _, rfl, by have := HQL.out; omega, by go_num, HF2, ⟨by have := HM.out; omega⟩, HW6, HT6, HDi⟩
              case measure => have := HQL.out; simp [intOf]; omega
            · cases ha2 : (a2 == 1)
              · have HF2 : Aside0 (la.foldl (ackA st1) out = (la.drop (q + 1)).foldl (ackA st1) out') := ⟨by rw [HFN2.out, ha2]; rfl⟩
                clear HFN2 e2 e3 e4 cW
                go_wp2
                go_roundw
                case rel => exact ⟨q + 1, out', _, rfl, by have := HQL.out; omega, by go_num, HF2, ⟨by have := HM.out; omega⟩, HW6, HT6, HDi⟩
                case measure => have := HQL.out; simp [intOf]; omega
              · have HFN3 : Aside0 (la.foldl (ackA st1) out = (la.drop (q + 1)).foldl (ackA st1) (if wv = true then out' ++ [a0] else out')) := ⟨by rw [HFN2.out, ha2]; rfl⟩
                clear HFN2
                go_wp2_with fail
                refine cW.mono ?_
                rintro e w7 ⟨rfl, hb⟩
                have HT7 := Aside0.mk (Kd.R_below HT6.out hb)
                have HW7 := Aside0.mk (HW6.out.stay hb)
                have d7 : w7.cell? ⟨wr.heap.size, 0, none⟩ = some (.int .i64 a0) := (blk_cell (blk_below HB6.out hb) 0).trans rfl
                clear hb cW d2 e2 e3 e4
                cases wv
                · have HF2 : Aside0 (la.foldl (ackA st1) out = (la.drop (q + 1)).foldl (ackA st1) out') := ⟨HFN3.out⟩
                  clear HFN3
                  go_wp2
                  go_roundw
                  case rel => exact ⟨q + 1, out', _, rfl, by have := HQL.out; omega, by go_num, HF2, ⟨by have := HM.out; omega⟩, HW7, HT7, HDi⟩
                  case measure => have := HQL.out; simp [intOf]; omega
                · have HF2 : Aside0 (la.foldl (ackA st1) out = (la.drop (q + 1)).foldl (ackA st1) (out' ++ [a0])) := ⟨HFN3.out⟩
                  have HLEN : Aside0 (out'.length ≤ 700000) := ⟨by have := HM.out; have := HN.out.2.1; omega⟩
                  clear HFN3
                  go_wp2_with ((with_reducible refine gate_builtin (b := .append) (xs := #[.tmp 50, .tmp 53]) rfl ?_); at_builtin; refine Kd.R_append kI (w0 := W) W.heap.size rfl (.tmp 50) (.tmp 53) 29 3 (.int .i64 0) 8 rfl Try.underlying29 infoI rfl (by decide) (by omega) _ out' a0 [.int .i64 a0] (fun _ => True) (fun _ => False) rfl rfl rfl (fun _ hk => hk.elim) (fun _ _ => trivial) HT7.out HW7.out.below HW7.out.below.size (by have := HLEN.out; omega) ?_; intro v1 w8 hR1 hB1 hg1 hv1; have HR1 := Aside0.mk hR1; have HW8 := Aside0.mk (HW7.out.apart HT7.out hB1 hg1 HDi.out); have HD8 := Aside0.mk (apart_grown HW7.out hv1 HDi.out); clear hR1 hB1 hg1 hv1)
                  go_roundw
                  case rel => exact ⟨q + 1, _, _, rfl, by have := HQL.out; omega, by go_num, HF2, ⟨by have := HM.out; rw [List.length_append, List.length_singleton]; omega⟩, HW8, HR1, HD8⟩
                  case measure => have := HQL.out; simp [intOf]; omega
        · obtain rfl : q = la.length := by omega
          have HE2 : Aside0 (ackV l = ackS st1 out' (l.drop (j + 1))) := ⟨by rw [HEN.out, HF.out, List.drop_length]; rfl⟩
          have HN2 : Aside0 (n + 1 ≤ j + 1 ∧ out'.length ≤ 2000 * (j + 1) ∧ st1.order.length ≤ j + 1) := ⟨by have := HN.out.1; omega, by have := HN.out.2.1; have := HM.out; have := HSM.out; omega, by have := HN.out.2.2; have := HCO.out.1; omega⟩
          clear HEN HF
          go_wp2
          go_roundw
          case rel => exact ⟨j + 1, st1, out', n + 1, vo5, _, rfl, by omega, by go_num, HE2, HN2, HWi, HTi, HDi⟩
          case measure => simp [intOf]; omega
    · obtain rfl : j = l.length := by omega
      have hV : ackV l = out := by rw [HE.out, List.drop_length]; rfl
      have HR2 := HT.out
      rw [← hV] at HR2
      obtain ⟨A', c', rfl, hc', hC'⟩ := Kd.R_reads HR2
      have HRES := Aside0.mk (And.intro hc' hC')
      have HLL : Aside0 ((ackV l).length ≤ 600000) := ⟨by rw [hV]; have := HN.out.2.1; omega⟩
      have HBW := Aside0.mk HW.out.below
      clear HR2 hc' hC' hV
      go_wp2
      go_ret
      exact ⟨⟨A', c', rfl, HRES.out.1, HRES.out.2⟩, HLL.out, HBW.out⟩
end Go.Proofs.Ytegfnceepplooaa.TR

set_option linter.unusedVariables false
set_option linter.unusedSimpArgs false
namespace Go.Proofs.Ytegfnceepplooaa.TR
open Go.RowKit Go.Maps Go.Proofs.Ytegfnceepplooaa.FMap Go.Proofs.Ytegfnceepplooaa.PTR Go.Proofs.YtegfnceepplooaaW.PrintWords Go.Proofs.YtegfnceepplooaaW.PrintLast

def hasReq (l : List Rec) (q : Int) : Prop := ∃ r ∈ l, r.f5 = q
theorem place_has {l : List Rec} {q : Int} (h : (placeV l q).2 = true) : hasReq l q := by
  unfold placeV at h
  by_cases h1 : reqIdx q l < l.length
  · unfold reqIdx at h1
    obtain ⟨r, hr, hp⟩ := List.findIdx_lt_length.1 h1
    exact ⟨r, hr, by simpa using hp⟩
  · rw [if_neg h1] at h
    cases h
theorem ext_has {a b : List Rec} {q : Int} (h : extB a b = true) (hb : hasReq b q) : hasReq a q := by
  unfold extB at h
  rw [Bool.and_eq_true] at h
  obtain ⟨h1, h2⟩ := h
  have h1 := of_decide_eq_true h1
  obtain ⟨r, hr, e⟩ := hb
  obtain ⟨i, hi, rfl⟩ := List.getElem_of_mem hr
  rw [List.all_eq_true] at h2
  have h3 := h2 i (List.mem_range.2 hi)
  have ha : i < a.length := by omega
  have ea : rd_T50 a (i : Int) = a[i] := by unfold rd_T50; simp [List.getD_eq_getElem?_getD, ha]
  have eb : rd_T50 b (i : Int) = b[i] := by unfold rd_T50; simp [List.getD_eq_getElem?_getD, hi]
  rw [ea, eb] at h3
  refine ⟨a[i], List.getElem_mem ha, ?_⟩
  rw [← e]
  simp [neqR] at h3
  omega
theorem count_zero {l : List Rec} {q : Int} (h : q ∉ l.map (·.f5)) : (l.countP fun r => r.f5 == q) = 0 := by
  rw [List.countP_eq_zero]
  intro r hr e
  exact h (List.mem_map.2 ⟨r, hr, by simpa using e⟩)
theorem nodup_count {q : Int} : ∀ {l : List Rec}, (l.map (·.f5)).Nodup → hasReq l q → (l.countP fun r => r.f5 == q) = 1
  | [], _, h => by obtain ⟨r, hr, _⟩ := h; cases hr
  | y :: l, hn, h => by
    rw [List.map_cons, List.nodup_cons] at hn
    rw [List.countP_cons]
    by_cases e : y.f5 = q
    · rw [if_pos (by simpa using e), count_zero (by rw [← e]; exact hn.1)]
    · rw [if_neg (by simpa using e)]
      obtain ⟨r, hr, er⟩ := h
      rcases List.mem_cons.1 hr with rfl | hr
      · exact absurd er e
      · rw [nodup_count hn.2 ⟨r, hr, er⟩]
theorem once_count {l : List Rec} {q : Int} (h : onceV l = true) (hq : hasReq l q) : (l.countP fun r => r.f5 == q) = 1 := nodup_count (of_decide_eq_true h) hq
/-! ### what a step that breaks no rule tells -/
theorem answer_before (st : St) (h : List Rec) (a : Ans) : (answerV st h a).2.before = st.before := by
  unfold answerV
  cases st.calls a.f0 with
  | none => rfl
  | some c =>
    show (if knownV st a = true then _ else _ : Int × St).2.before = _
    by_cases h1 : knownV st a = true
    · rw [if_pos h1]
      by_cases h2 : thereV h a c.f2 = true
      · rw [if_pos h2]
        by_cases h3 : asksV a c.f2 = true
        · rw [if_pos h3]
          by_cases h4 : (agR h c.f2 a.f3 ((st.floors a.f1).getD 0)).2 = true
          · rw [if_pos h4]
          · rw [if_neg h4]
        · rw [if_neg h3]
          by_cases h4 : emptyV a c.f2 = true
          · rw [if_pos h4]
          · rw [if_neg h4]
      · rw [if_neg h2]
    · rw [if_neg h1]
theorem answers_before (h : List Rec) : ∀ (l : List Ans) (st : St), (answersV h st l).2.before = st.before
  | [], st => rfl
  | a :: r, st => by
    unfold answersV
    by_cases h0 : (answerV st h a).1 = 0
    · rw [if_pos h0, answers_before h r, answer_before]
    · rw [if_neg h0, answer_before]
theorem answer_there {st : St} {h : List Rec} {a : Ans} {c : Call} (e : (answerV st h a).1 = 0) (hc : st.calls a.f0 = some c) : thereV h a c.f2 = true := by
  have hk := (answer_known e).2
  unfold answerV at e
  rw [hc] at e
  simp only at e
  rw [if_pos hk] at e
  by_cases h2 : thereV h a c.f2 = true
  · exact h2
  · rw [if_neg h2] at e
    exact absurd e (by simp)
theorem answers_there (h : List Rec) : ∀ (l : List Ans) (st : St), (answersV h st l).1 = 0 → ∀ a ∈ l, ∀ c, st.calls a.f0 = some c → thereV h a c.f2 = true
  | [], st, e, a, ha, c, hc => by cases ha
  | b :: r, st, e, a, ha, c, hc => by
    unfold answersV at e
    by_cases h0 : (answerV st h b).1 = 0
    · rw [if_pos h0] at e
      rcases List.mem_cons.1 ha with rfl | ha
      · exact answer_there h0 hc
      · exact answers_there h r _ e a ha c (by rw [answer_calls]; exact hc)
    · rw [if_neg h0] at e
      exact absurd e h0
theorem step_tells {st : St} {s : Seen} (h : (stepV st s).1 = 0) : onceV (histV s.f2) = true ∧ extB (histV s.f2) (histV st.before) = true ∧ (stepV st s).2.before = s.f2 := by
  have h1 := (step_calls h).1
  have hb : (answersV s.f2 (choiceV st s.f0) s.f1).2.before = st.before := (answers_before _ _ _).trans (choice_before _ _)
  refine ⟨?_, ?_, (step_order h).2⟩
  · unfold stepV at h
    rw [if_pos h1] at h
    split at h
    · rename_i hx
      exact hx.1
    · exact absurd h (by simp)
  · unfold stepV at h
    rw [if_pos h1] at h
    split at h
    · rename_i hx
      rw [hb] at hx
      exact hx.2
    · exact absurd h (by simp)
/-- The last history. -/
def lastH : List Rec → List Seen → List Rec
  | b, [] => b
  | _, s :: r => lastH s.f2 r
theorem lastH_at : ∀ (l : List Seen) (b : List Rec) (h : 0 < l.length), lastH b l = (rd_T40 l ((l.length - 1 : Nat) : Int)).f2
  | [s], b, h => rfl
  | s :: t :: r, b, h => by
    show lastH s.f2 (t :: r) = _
    rw [lastH_at (t :: r) s.f2 (by simp), rdS_at (by simp), rdS_at (by simp)]
    simp
theorem run_last : ∀ (l : List Seen) (st : St) (i : Nat) (q : Int), (runV st l i).1 = 0 → hasReq (histV st.before) q → hasReq (histV (lastH st.before l)) q
  | [], st, i, q, hr, h => h
  | s :: r, st, i, q, hr, h => by
    unfold runV at hr
    by_cases h0 : (stepV st s).1 = 0
    · rw [if_pos h0] at hr
      obtain ⟨h1, h2, h3⟩ := step_tells h0
      have := run_last r (stepV st s).2 (i + 1) q hr
      rw [h3] at this
      exact this (ext_has h2 h)
    · rw [if_neg h0] at hr
      exact absurd hr h0
theorem run_once : ∀ (l : List Seen) (st : St) (i : Nat), (runV st l i).1 = 0 → 0 < l.length → onceV (histV (lastH st.before l)) = true
  | [s], st, i, hr, h => by
    unfold runV at hr
    by_cases h0 : (stepV st s).1 = 0
    · exact (step_tells h0).1
    · rw [if_neg h0] at hr
      exact absurd hr h0
  | s :: t :: r, st, i, hr, h => by
    unfold runV at hr
    by_cases h0 : (stepV st s).1 = 0
    · rw [if_pos h0] at hr
      have := run_once (t :: r) (stepV st s).2 (i + 1) hr (by simp)
      rwa [(step_tells h0).2.2] at this
    · rw [if_neg h0] at hr
      exact absurd hr h0
theorem ack_in (st : St) (q : Int) : ∀ (l : List Ans) (out : List Int), q ∈ l.foldl (ackA st) out → q ∈ out ∨ ∃ a ∈ l, a.f0 = q ∧ ∃ c, st.calls a.f0 = some c ∧ a.f2 = 1 ∧ writeV c.f2 = true
  | [], out, h => .inl h
  | b :: r, out, h => by
    rw [List.foldl_cons] at h
    rcases ack_in st q r _ h with h1 | ⟨a, ha, h2⟩
    · unfold ackA at h1
      cases hc : st.calls b.f0 with
      | none => rw [hc] at h1; exact .inl h1
      | some c =>
        rw [hc] at h1
        simp only at h1
        by_cases hx : ((b.f2 == 1) && writeV c.f2) = true
        · rw [if_pos hx] at h1
          rcases List.mem_append.1 h1 with h1 | h1
          · exact .inl h1
          · rw [Bool.and_eq_true] at hx
            exact .inr ⟨b, List.mem_cons_self .., (List.mem_singleton.1 h1).symm, c, hc, by simpa using hx.1, hx.2⟩
        · rw [if_neg hx] at h1
          exact .inl h1
    · exact .inr ⟨a, List.mem_cons_of_mem _ ha, h2⟩
theorem run_acked (q : Int) : ∀ (l : List Seen) (st so : St) (i : Nat) (out : List Int), st.calls = so.calls → (runV st l i).1 = 0 → q ∈ ackS so out l → q ∈ out ∨ (hasReq (histV (lastH st.before l)) q ∧ answd l q = true)
  | [], st, so, i, out, hc, hr, h => .inl h
  | s :: r, st, so, i, out, hc, hr, h => by
    unfold runV at hr
    by_cases h0 : (stepV st s).1 = 0
    · rw [if_pos h0] at hr
      obtain ⟨h1, h2⟩ := step_calls h0
      have h3 := choice_calls st so s.f0 hc
      have hb := (step_tells h0).2.2
      rcases run_acked q r (stepV st s).2 (choiceV so s.f0) (i + 1) _ (h2.trans h3) hr h with h4 | ⟨h4, h5⟩
      · rcases ack_in _ q _ _ h4 with h5 | ⟨a, ha, e, c, hcc, h6, h7⟩
        · exact .inl h5
        · right
          have ht := answers_there s.f2 s.f1 (choiceV st s.f0) h1 a ha c (by rw [h3]; exact hcc)
          unfold thereV at ht
          rw [show (a.f2 == 1) = true by simpa using h6, h7] at ht
          have hp := place_has (show (placeV (histV s.f2) a.f0).2 = true from ht)
          rw [e] at hp
          have := run_last r (stepV st s).2 (i + 1) q hr
          rw [hb] at this
          refine ⟨this hp, ?_⟩
          unfold answd
          rw [List.any_cons, show (s.f1.any fun a => a.f0 == q) = true from List.any_eq_true.2 ⟨a, ha, by simpa using e⟩]
          rfl
      · right
        rw [hb] at h4
        refine ⟨h4, ?_⟩
        unfold answd at h5 ⊢
        rw [List.any_cons, h5, Bool.or_true]
    · rw [if_neg h0] at hr
      exact absurd hr h0
/-- What TraceOnce asks of each acked write. -/
theorem once_all {l : List Seen} (hr : (runV st0 l 0).1 = 0) (hl : 0 < l.length) {q : Int} (hq : q ∈ ackV l) : ((histV (rd_T40 l ((l.length - 1 : Nat) : Int)).f2).countP fun r => r.f5 == q) = 1 ∧ q ∉ openV l := by
  rcases run_acked q l st0 st0 0 [] rfl hr hq with h | ⟨h1, h2⟩
  · cases h
  · have ho := run_once l st0 0 hr hl
    rw [lastH_at l _ hl] at h1 ho
    refine ⟨once_count ho h1, fun h => ?_⟩
    unfold openV at h
    have := (List.mem_filter.1 h).2
    rw [open_told q l st0 st0 _ 0 rfl hr, h2] at this
    simp at this
end Go.Proofs.Ytegfnceepplooaa.TR

set_option linter.unusedVariables false
set_option linter.unusedSimpArgs false
namespace Go.Proofs.Ytegfnceepplooaa.TR
open Go.RowKit Go.Maps Go.Proofs.Ytegfnceepplooaa.FMap Go.Proofs.Ytegfnceepplooaa.PTR Go.Proofs.YtegfnceepplooaaW.PrintWords Go.Proofs.YtegfnceepplooaaW.PrintLast

theorem rd_in {l : List Int} {j : Nat} (h : j < l.length) : rd l (j : Int) ∈ l := by
  simp [rd, List.getD_eq_getElem?_getD, h]
theorem count_next {l : List Rec} {j : Nat} (p : Rec → Bool) (h : j < l.length) : (l.take (j + 1)).countP p = (l.take j).countP p + (if p (rd_T50 l (j : Int)) = true then 1 else 0) := by
  have e : rd_T50 l (j : Int) = l[j] := by unfold rd_T50; simp [List.getD_eq_getElem?_getD, h]
  rw [e, List.take_succ_eq_append_getElem h, List.countP_append, List.countP_cons, List.countP_nil, Nat.zero_add]
set_option maxHeartbeats 16000000 in
set_option maxRecDepth 100000 in
theorem once_law (A : Option Addr) (c : Nat) (l : List Seen) (W : World) (hC : Kd.C kS W A l.length l) (hc : l.length ≤ c) (hl : l.length ≤ 140737488351232) (hb : ∀ s ∈ l, s.f1.length ≤ 140737488351232 ∧ s.f2.length ≤ 140737488351232) (hok : ∀ s ∈ l, okS s) :
    Calls Try.prog 5 #[.slice A l.length c] W fun e W' => e = .returned (.bool true) ∧ Below W.heap.size W W' := by
  have cL := large_any A c l W hC hb hl
  have cS := Aside0.mk (fun W => speaks_any W)
  have HC := Aside0.mk hC
  have HO := Aside0.mk hok
  clear hC hb hok
  go_enter Try.func5, Try.ntmps5
  go_wp2_with fail
  refine cL.mono ?_
  rintro e w2 ⟨⟨lb, rfl, hlb⟩, hB⟩
  have HB2 := Aside0.mk hB
  clear hB cL
  cases lb
  · have HS := Aside0.mk (hlb rfl)
    have h300 := HS.out.1
    clear hlb
    by_cases hz : l.length = 0
    · have z1 : ((l.length : Int) == 0) = true := by simp [hz]
      have z2 : (l.length == 0) = true := by simp [hz]
      go_wp2_with fail
      refine (cS.out _).mono ?_
      rintro e w3 ⟨rfl, hB⟩
      have HB3 := Aside0.mk (HB2.out.trans (hB.mono HB2.out.size))
      clear hB
      go_wp2
      go_ret
      exact ⟨rfl, HB3.out⟩
    · have z1 : ((l.length : Int) == 0) = false := beq_eq_false_iff_ne.mpr (by omega)
      have z2 : (l.length == 0) = false := by simpa using hz
      have hpos : 0 < l.length := by omega
      have HPOS := Aside0.mk hpos
      have cK := check_any A c l w2 (Kd.C_below HC.out HB2.out) HS.out HO.out
      obtain ⟨ra, hra⟩ : ∃ x, (runV st0 l 0).1 = x := ⟨_, rfl⟩
      obtain ⟨ri, hri⟩ : ∃ x, (runV st0 l 0).2 = x := ⟨_, rfl⟩
      rw [hra, hri] at cK
      have HRA := Aside0.mk hra
      clear hra hri hz
      go_wp2_with fail
      refine cK.mono ?_
      rintro e w3 ⟨rfl, hB⟩
      have HB3 := Aside0.mk (HB2.out.trans (hB.mono HB2.out.size))
      clear hB cK
      by_cases ha : ra = 0
      · subst ha
        have HALL := Aside0.mk (fun (q : Int) (hq : q ∈ ackV l) => once_all HRA.out HPOS.out hq)
        obtain ⟨ad, A9, k9, A10, k10, A11, k11, hA, _, _, _, _, _, _, _, _, _, _, _, g11, _, _, _, _, e11, E11⟩ := at_T40 (Kd.C_below HC.out HB3.out) ((l.length - 1 : Nat) : Int) (by omega) (by omega)
        rw [Int.toNat_natCast] at g11
        subst hA
        have hsm := (small_mem HS.out (rdS_mem (show l.length - 1 < l.length by omega))).2
        generalize rd_T40 l ((l.length - 1 : Nat) : Int) = q at HALL hsm g11 e11 E11
        obtain ⟨q0, q1, hh⟩ := q
        simp only at HALL hsm g11 e11 E11
        have hl1 : (l.length : Int) - 1 = ((l.length - 1 : Nat) : Int) := by omega
        have HSM := Aside0.mk hsm
        have HE11 := Aside0.mk (And.intro E11 e11)
        have cO := open_any (some ad) c l w3 (Kd.C_below HC.out HB3.out) HS.out HO.out
        clear hsm e11 E11
        have CH := Aside0.mk (fun W' (hW : Below w3.heap.size w3 W') => fold_History.calls A11 k11 hh (histV hh) W' (Kd.C_below HE11.out.1 hW) HE11.out.2 (by unfold fold_History.f; rw [if_pos (by have := HSM.out; omega)]))
        have hvl : (histV hh).length ≤ 2000 := Nat.le_trans (histV_len hh) HSM.out
        go_wp2_with fail
        refine cO.mono ?_
        rintro e w4 ⟨⟨Ao, ko, rfl, hko, hCo⟩, ho3, hB⟩
        have HB4 := Aside0.mk hB
        have HCo := Aside0.mk hCo
        have cA := acked_any (some ad) c l w4 (Kd.C_below HC.out (HB3.out.trans (hB.mono HB3.out.size))) HS.out HO.out
        clear hB hCo hko cO g11
        go_wp2_with fail
        refine cA.mono ?_
        rintro e w5 ⟨⟨Aa, ka, rfl, hka, hCa⟩, ha6, hB⟩
        have HB5 : Aside0 (Below w3.heap.size w3 w5) := ⟨HB4.out.trans (hB.mono HB4.out.size)⟩
        have HCO := Aside0.mk (Kd.C_below HCo.out hB)
        have HCA := Aside0.mk hCa
        clear hB hCa hka cA HCo HB4
        generalize ackV l = la at HALL HCA ha6 ⊢
        generalize openV l = lo at HALL HCO ho3 ⊢
        generalize histV hh = hv at HALL CH hvl
        go_wp2
        go_loopw [48] (fun i wi => ∃ j : Nat, j ≤ la.length ∧ i = .int .i64 j ∧ Aside0 (Below w5.heap.size w5 wi)) (fun i _ => la.length - (intOf i).toNat)
        case atStart => exact ⟨0, Nat.zero_le _, rfl, ⟨Below.refl _ _⟩⟩
        case round =>
          obtain ⟨j, hj, rfl, HW⟩ := hrel
          by_cases hjt : j < la.length
          · obtain ⟨ae, hAe, g0⟩ := Kd.at_int (Kd.C_below HCA.out HW.out) (j : Int) (by omega) (by omega)
            rw [Int.toNat_natCast] at g0
            subst hAe
            have HQ := Aside0.mk (HALL.out _ (rd_in hjt))
            have HJT := Aside0.mk hjt
            generalize rd la (j : Int) = q at g0 HQ
            have cH := CH.out wr (HB5.out.trans (HW.out.mono HB5.out.size))
            go_wp2_with fail
            refine cH.mono ?_
            rintro e w6 ⟨va, rfl, hRa, hB⟩
            obtain ⟨A6, k6, rfl, hk6, hC6⟩ := Kd.R_reads hRa
            have HC6 := Aside0.mk hC6
            have HB6 : Aside0 (Below w5.heap.size w5 w6) := ⟨HW.out.trans (hB.mono HW.out.size)⟩
            clear hRa hB hk6 hC6 cH g0
            go_wp2
            go_loopw [10, 55] (fun nv i wi => ∃ x : Nat, x ≤ hv.length ∧ i = .int .i64 x ∧ nv = .int .i64 (((hv.take x).countP fun r => r.f5 == q : Nat) : Int) ∧ Aside0 (Below w6.heap.size w6 wi)) (fun _ i _ => hv.length - (intOf i).toNat)
            case atStart => exact ⟨0, Nat.zero_le _, rfl, by simp, ⟨Below.refl _ _⟩⟩
            case round =>
              obtain ⟨x, hx, rfl, rfl, HX⟩ := hrel
              by_cases hxt : x < hv.length
              · obtain ⟨af, hAf, f0, f1, f2, f3, f4, f5, f6, f7⟩ := at_T50 (Kd.C_below HC6.out HX.out) (x : Int) (by omega) (by omega)
                rw [Int.toNat_natCast] at f0 f1 f2 f3 f4 f5 f6 f7
                subst hAf
                have HCN := Aside0.mk (count_next (fun r : Rec => r.f5 == q) hxt)
                have hcx : ((hv.take x).countP fun r => r.f5 == q) ≤ 2000 := Nat.le_trans List.countP_le_length (by rw [List.length_take]; omega)
                generalize rd_T50 hv (x : Int) = r at HCN f0 f1 f2 f3 f4 f5 f6 f7
                obtain ⟨r0, r1, r2, r3, r4, r5, r6, r7⟩ := r
                simp only at f0 f1 f2 f3 f4 f5 f6 f7
                have HCN2 : Aside0 (((hv.take (x + 1)).countP fun r => r.f5 == q) = ((hv.take x).countP fun r => r.f5 == q) + (if (r5 == q) = true then 1 else 0)) := ⟨HCN.out⟩
                have HXA : Aside0 (Below w6.heap.size w6 (wr.alloc (.cells #[.int .i64 r0, .int .i64 r1, .int .i64 r2, .int .i64 r3, .int .i64 r4, .int .i64 r5, .string r6, .string r7] 50))) := ⟨HX.out.alloc HX.out.size _⟩
                clear HCN
                generalize ((hv.take x).countP fun r => r.f5 == q) = n at hcx HCN2 ⊢
                cases hrq : (r5 == q)
                · have HCN3 : Aside0 (((hv.take (x + 1)).countP fun r => r.f5 == q) = n) := ⟨by rw [HCN2.out, hrq]; rfl⟩
                  clear HCN2
                  go_wp2
                  go_roundw
                  case rel => exact ⟨x + 1, by omega, by go_num, by rw [HCN3.out], HXA⟩
                  case measure => simp [intOf]; omega
                · have HCN3 : Aside0 (((hv.take (x + 1)).countP fun r => r.f5 == q) = n + 1) := ⟨by rw [HCN2.out, hrq]; rfl⟩
                  clear HCN2
                  go_wp2
                  go_roundw
                  case rel => exact ⟨x + 1, by omega, by go_num, by rw [HCN3.out]; go_num, HXA⟩
                  case measure => simp [intOf]; omega
              · obtain rfl : x = hv.length := by omega
                rw [show (((hv.take hv.length).countP fun r => r.f5 == q : Nat) : Int) = 1 by rw [List.take_length, HQ.out.1]; rfl]
                obtain ⟨w7, hw7⟩ : ∃ w7, w7 = wr := ⟨_, rfl⟩
                subst hw7
                have HB7 : Aside0 (Below w5.heap.size w5 w7) := ⟨HB6.out.trans (HX.out.mono HB6.out.size)⟩
                go_wp2
                go_loopw [68] (fun i wi => ∃ y : Nat, y ≤ lo.length ∧ i = .int .i64 y ∧ Aside0 (Below w7.heap.size w7 wi)) (fun i _ => lo.length - (intOf i).toNat)
                case atStart => exact ⟨0, Nat.zero_le _, rfl, ⟨Below.refl _ _⟩⟩
                case round =>
                  obtain ⟨y, hy, rfl, HY⟩ := hrel
                  by_cases hyt : y < lo.length
                  · obtain ⟨ag, hAg, k0⟩ := Kd.at_int (Kd.C_below (Kd.C_below HCO.out HB7.out) HY.out) (y : Int) (by omega) (by omega)
                    rw [Int.toNat_natCast] at k0
                    subst hAg
                    have hne : (rd lo (y : Int) == q) = false := by
                      refine beq_eq_false_iff_ne.mpr (fun h => HQ.out.2 ?_)
                      rw [← h]
                      exact rd_in hyt
                    generalize rd lo (y : Int) = z at k0 hne
                    go_wp2
                    go_roundw
                    case rel => exact ⟨y + 1, by omega, by go_num, HY⟩
                    case measure => simp [intOf]; omega
                  · obtain rfl : y = lo.length := by omega
                    have HBK : Aside0 (Below w5.heap.size w5 wr) := ⟨HB7.out.trans (HY.out.mono HB7.out.size)⟩
                    go_wp2
                    go_roundw
                    case rel => exact ⟨j + 1, by have := HJT.out; omega, by go_num, HBK⟩
                    case measure => have := HJT.out; simp [intOf]; omega
          · obtain rfl : j = la.length := by omega
            go_wp2_with fail
            refine (cS.out _).mono ?_
            rintro e w9 ⟨rfl, hB⟩
            have HB9 : Aside0 (Below W.heap.size W w9) := ⟨HB3.out.trans ((HB5.out.trans (HW.out.mono HB5.out.size)).trans (hB.mono (HB5.out.trans (HW.out.mono HB5.out.size)).size) |>.mono HB3.out.size)⟩
            clear hB
            go_wp2
            go_ret
            exact ⟨rfl, HB9.out⟩
      · have ha1 : (ra == 0) = false := by simpa using ha
        have ha2 : (ra != 0) = true := by simpa using ha
        clear ha
        go_wp2_with fail
        refine (cS.out _).mono ?_
        rintro e w4 ⟨rfl, hB⟩
        have HB4 := Aside0.mk (HB3.out.trans (hB.mono HB3.out.size))
        clear hB
        go_wp2
        go_ret
        exact ⟨rfl, HB4.out⟩
  · clear hlb
    go_wp2_with fail
    refine (cS.out _).mono ?_
    rintro e w3 ⟨rfl, hB⟩
    have HB3 := Aside0.mk (HB2.out.trans (hB.mono HB2.out.size))
    clear hB
    go_wp2
    go_ret
    exact ⟨rfl, HB3.out⟩
end Go.Proofs.Ytegfnceepplooaa.TR

set_option linter.unusedVariables false
set_option linter.unusedSimpArgs false
namespace Go.Proofs.Ytegfnceepplooaa.TR
open Go.RowKit Go.Proofs.Ytegfnceepplooaa.FMap Go.Proofs.Ytegfnceepplooaa.PTR Go.Proofs.YtegfnceepplooaaW.PrintWords Go.Proofs.YtegfnceepplooaaW.PrintLast

abbrev UI := Try.underlying3
theorem opE (W : World) : Opens.OpensAt Try.prog W 103 k103 (fun _ => True) :=
  Opens.opens_mono (Opens.opens_struct (ts := [9, 9]) Try.underlying103 rfl (by kernel_rfl) (by kernel_rfl) (Opens.opens_cons (Opens.opens_string Try.underlying9) (Opens.opens_one (Opens.opens_string Try.underlying9))) (fun x : Ent => (x.f0, x.f1)) (fun p => ⟨p.1, p.2⟩) (fun _ => rfl)) (fun a h => trivial)
theorem opO (W : World) : Opens.OpensAt Try.prog W 31 k31 (fun _ => True) :=
  Opens.opens_mono (Opens.opens_struct (ts := [3, 9, 9]) Try.underlying31 rfl (by kernel_rfl) (by kernel_rfl) (Opens.opens_cons (Opens.opens_int Try.underlying3) (Opens.opens_cons (Opens.opens_string Try.underlying9) (Opens.opens_one (Opens.opens_string Try.underlying9)))) (fun x : Opn => (x.f0, x.f1, x.f2)) (fun p => ⟨p.1, p.2.1, p.2.2⟩) (fun _ => rfl)) (fun a h => trivial)
theorem opC (W : World) : Opens.OpensAt Try.prog W 33 k33 (fun x => (Lit.int .i64 x.f0).wf = true) :=
  Opens.opens_mono (Opens.opens_struct (ts := [3, 3, 31]) Try.underlying33 rfl (by kernel_rfl) (by kernel_rfl) (Opens.opens_cons (Opens.opens_int Try.underlying3) (Opens.opens_cons (Opens.opens_int Try.underlying3) (Opens.opens_one (opO W)))) (fun x : Call => (x.f0, x.f1, x.f2)) (fun p => ⟨p.1, p.2.1, p.2.2⟩) (fun _ => rfl)) (fun a h => h.1)
theorem opCh (W : World) : Opens.OpensAt Try.prog W 36 k36 (fun x => (Lit.int .i64 x.f1).wf = true ∧ (Lit.int .i64 x.f4.f0).wf = true) :=
  Opens.opens_mono (Opens.opens_struct (ts := [3, 3, 3, 3, 33, 34]) Try.underlying36 rfl (by kernel_rfl) (by kernel_rfl) (Opens.opens_cons (Opens.opens_int Try.underlying3) (Opens.opens_cons (Opens.opens_int Try.underlying3) (Opens.opens_cons (Opens.opens_int Try.underlying3) (Opens.opens_cons (Opens.opens_int Try.underlying3) (Opens.opens_cons (opC W) (Opens.opens_one (Opens.opens_slice (b := 1) Try.underlying34 (by kernel_rfl) (by kernel_rfl) (Opens.opens_int Try.underlying5)))))))) (fun x : Cho => (x.f0, x.f1, x.f2, x.f3, x.f4, x.f5)) (fun p => ⟨p.1, p.2.1, p.2.2.1, p.2.2.2.1, p.2.2.2.2.1, p.2.2.2.2.2⟩) (fun _ => rfl)) (fun a h => ⟨h.2.1, h.2.2.2.2.1⟩)
theorem opRes (W : World) : Opens.OpensAt Try.prog W 43 k43 (fun _ => True) :=
  Opens.opens_mono (Opens.opens_struct (ts := [4, 9, 41]) Try.underlying43 rfl (by kernel_rfl) (by kernel_rfl) (Opens.opens_cons (Opens.opens_bool Try.underlying4) (Opens.opens_cons (Opens.opens_string Try.underlying9) (Opens.opens_one (Opens.opens_slice (b := 32) Try.underlying41 (by kernel_rfl) (by kernel_rfl) (opE W))))) (fun x : Res => (x.f0, x.f1, x.f2)) (fun p => ⟨p.1, p.2.1, p.2.2⟩) (fun _ => rfl)) (fun a h => trivial)
theorem opA (W : World) : Opens.OpensAt Try.prog W 45 k45 okA :=
  Opens.opens_mono (Opens.opens_struct (ts := [3, 3, 3, 43]) Try.underlying45 rfl (by kernel_rfl) (by kernel_rfl) (Opens.opens_cons (Opens.opens_int Try.underlying3) (Opens.opens_cons (Opens.opens_int Try.underlying3) (Opens.opens_cons (Opens.opens_int Try.underlying3) (Opens.opens_one (opRes W))))) (fun x : Ans => (x.f0, x.f1, x.f2, x.f3)) (fun p => ⟨p.1, p.2.1, p.2.2.1, p.2.2.2⟩) (fun _ => rfl)) (fun a h => ⟨h.1, h.2.1, h.2.2.1⟩)
theorem opR (W : World) : Opens.OpensAt Try.prog W 50 k50 (fun x => (Lit.int .i64 x.f5).wf = true) :=
  Opens.opens_mono (Opens.opens_struct (ts := [3, 3, 3, 3, 3, 3, 9, 9]) Try.underlying50 rfl (by kernel_rfl) (by kernel_rfl) (Opens.opens_cons (Opens.opens_int Try.underlying3) (Opens.opens_cons (Opens.opens_int Try.underlying3) (Opens.opens_cons (Opens.opens_int Try.underlying3) (Opens.opens_cons (Opens.opens_int Try.underlying3) (Opens.opens_cons (Opens.opens_int Try.underlying3) (Opens.opens_cons (Opens.opens_int Try.underlying3) (Opens.opens_cons (Opens.opens_string Try.underlying9) (Opens.opens_one (Opens.opens_string Try.underlying9))))))))) (fun x : Rec => (x.f0, x.f1, x.f2, x.f3, x.f4, x.f5, x.f6, x.f7)) (fun p => ⟨p.1, p.2.1, p.2.2.1, p.2.2.2.1, p.2.2.2.2.1, p.2.2.2.2.2.1, p.2.2.2.2.2.2.1, p.2.2.2.2.2.2.2⟩) (fun _ => rfl)) (fun a h => h.2.2.2.2.2.1)
/-- What is known of a step that came in. -/
def bS (x : Seen) : Prop := okS x ∧ x.f1.length ≤ 140737488351232 ∧ x.f2.length ≤ 140737488351232
theorem opS (W : World) : Opens.OpensAt Try.prog W 40 kS bS :=
  Opens.opens_mono (Opens.opens_struct (ts := [36, 37, 38]) Try.underlying40 rfl (by kernel_rfl) (by kernel_rfl) (Opens.opens_cons (opCh W) (Opens.opens_cons (Opens.opens_slice (b := 72) Try.underlying37 (by kernel_rfl) (by kernel_rfl) (opA W)) (Opens.opens_one (Opens.opens_slice (b := 80) Try.underlying38 (by kernel_rfl) (by kernel_rfl) (opR W))))) (fun x : Seen => (x.f0, x.f1, x.f2)) (fun p => ⟨p.1, p.2.1, p.2.2⟩) (fun _ => rfl)) (fun a h => by
    obtain ⟨h1, ⟨h2, h3⟩, h4, h5⟩ := h
    exact ⟨⟨h1.1, h1.2, h3, h5⟩, by have : a.f1.length * 72 ≤ 140737488351232 := h2; omega, by have : a.f2.length * 80 ≤ 140737488351232 := h4; omega⟩)
theorem opL (W : World) : Opens.OpensAt Try.prog W 22 (Kd.slice 40 kS) (fun l => l.length ≤ 140737488351232 ∧ ∀ s ∈ l, bS s) :=
  Opens.opens_mono (Opens.opens_slice (b := 160) Try.underlying22 (by kernel_rfl) (by kernel_rfl) (opS W)) (fun l h => ⟨by have : l.length * 160 ≤ 140737488351232 := h.1; omega, h.2⟩)
end Go.Proofs.Ytegfnceepplooaa.TR

set_option linter.unusedVariables false
namespace Go.Proofs.Ytegfnceepplooaa.traceOnce
open Go.ChangeShapes Go.WideShapes Go.ChangeAt Go.RowKit
open Go.Proofs.YtegfnceepplooaaW.PrintWords Go.Proofs.Ytegfnceepplooaa.PTR

theorem own : ownKnob Try.prog.godebug = none := by kernel_rfl
theorem laidOut : laidOutB Try.prog = true := by kernel_rfl
set_option maxRecDepth 100000 in
theorem lifted (os : Os) (started : os.Started) (H : Type) (enc : TypeId × Value → H) :
    ReturnsInHanded {} Try.checked os 5 .any (Rows.traceOnceSpec.pre6 enc Try.prog Try.f5 Rows.traceOnceRow.domain false) (Rows.traceOnceSpec.post enc Try.prog Try.f5 false true false false) := by
  refine returnsInHanded_of_change_sized (C := Try.checked) own started (by kernel_rfl) Try.func5
    (ChangeSpec.witness6 (enc := enc) (C := Try.checked) false ⟨#[], #[.slice none 0 0], []⟩ 8 (by kernel_rfl) (by kernel_rfl) (by kernel_rfl) (by kernel_rfl)) ?_
  intro W base args ds gs before hval0 hW hcnd hsz0 _
  have hsz : (DataW.weightsEach Try.prog (Try.f5.params.toList ++ Rows.traceOnceSpec.plain.varTypes Try.prog) (ds ++ gs)).all (· ≤ reachBytes) = true := hsz0
  have hval : ∀ (j : Nat) t v, Try.f5.params[j]? = some t → args[j]? = some v → Value.okWide Try.prog W .any base t v := hval0
  have hW' := hW
  obtain ⟨p, q, hA0, hV, rfl, hfz, hnd⟩ := hW
  have hA : DataW.TrodAll enc Try.prog W 0 (fun _ => true) true Try.f5.params.toList args.toList ds p := hA0
  rw [Try.params5] at hA hval hsz
  obtain ⟨v0, vs0, d0, ds0, p0, q0, hargs, rfl, rfl, h0, r0⟩ := trodAll_cons hA
  obtain ⟨rfl, rfl, rfl⟩ := trodAll_nil r0
  obtain rfl : args = #[v0] := by cases args; simp_all
  obtain ⟨rfl, rfl⟩ := trodVars_none hV
  have k0 := h0
  have lt0 : ∀ x ∈ p0, x.block < W.heap.size := by obtain ⟨m, hm⟩ := k0; exact DataW.trod_lt m _ _ _ hm
  obtain ⟨a0, len0, cap0, rfl⟩ := okWide_slice Try.underlying22 (hval 0 22 v0 rfl rfl)
  obtain ⟨x0, ⟨A0, c0, hcs0, hc0, hr0⟩, hb0⟩ := TR.opL W enc _ _ _ _ _ _ h0.choose_spec (Opens.weights_le hsz (j := 0) (t := 22) rfl rfl)
  simp only [Value.cells, List.cons.injEq, and_true, Value.slice.injEq] at hcs0
  obtain ⟨rfl, rfl, rfl⟩ := hcs0
  obtain ⟨hl0, hs0⟩ := hb0
  clear hA0 hval0 hsz0 hsz
  refine (TR.once_law _ _ x0 W hr0 hc0 hl0 (fun s h => (hs0 s h).2) (fun s h => (hs0 s h).1)).mono fun e W' ⟨he, bel⟩ => ?_
  subst he
  exact ⟨_, rfl, _, _, _, [], _, [], hW', trodAll_mk1 (shut_bool Try.underlying4 _), (trodAll_cons_mk (Below.trod laidOut (by kernel_rfl) (of_decide_eq_true (by kernel_rfl)) k0 bel lt0) trodAll_mk0), rfl, bel.frame _, fun h => by cases h⟩
theorem over : Rows.traceOnceRow.holds Try.pinned (OpenSpec.ofChange Rows.traceOnceSpec) :=
  OpenClaim.holds_of_wide 5 Try.f5 rfl rfl rfl rfl rfl rfl rfl ⟨rfl, rfl, rfl, rfl, rfl⟩ rfl rfl rfl rfl rfl (by kernel_rfl) Try.func5 (by kernel_rfl)
    (of_decide_eq_true (by kernel_rfl)) (by unfold Func.isWrapper; first | (rw [if_pos (by decide +kernel)]; kernel_rfl) | (rw [if_neg (by decide +kernel)]; exact ⟨rfl, rfl⟩))
    (fun os started H enc _ => lifted os started H enc)
theorem proved : Rows.TraceOnceSaid := over
#print axioms proved
end Go.Proofs.Ytegfnceepplooaa.traceOnce
namespace Go.Proofs.Ytegfnceepplooaa
/-- The row, under a short name, for the claim. -/
theorem traceOnce_holds : Rows.TraceOnceSaid := traceOnce.proved
end Go.Proofs.Ytegfnceepplooaa
