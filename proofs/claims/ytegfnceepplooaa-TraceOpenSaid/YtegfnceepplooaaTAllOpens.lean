/- TraceOpen: behind any beginning of a trace that keeps the rules the calls that are open are those that were made and have no answer in it: for any trace and any number. -/
import Derived.Test.YtegfnceepplooaaTMem
import Derived.Test.YtegfnceepplooaaTAns
import Derived.BigQuiet
import Derived.Test.YtegfnceepplooaaTChoice
import Derived.Test.YtegfnceepplooaaTStep
import Derived.Test.YtegfnceepplooaaWRepsOne
import Derived.Test.YtegfnceepplooaaOpens
import Derived.Test.YtegfnceepplooaaRows
import Derived.WalkKit
import Derived.ProofKit
import Derived.OpenShut
import Derived.ShutString
import Derived.ChangeOld
import Derived.Below
import Derived.SizedLaws
set_option linter.unusedVariables false
set_option linter.unusedSimpArgs false
namespace Go.Proofs.Ytegfnceepplooaa.TR
open Go.RowKit Go.Maps Go.Proofs.Ytegfnceepplooaa.FMap Go.Proofs.Ytegfnceepplooaa.PTR Go.Proofs.YtegfnceepplooaaW.PrintWords Go.Proofs.YtegfnceepplooaaW.PrintLast

/-- The memory behind a new watcher. -/
def begW (W : World) : World := (((W.alloc (.map #[] 0)).alloc (.map #[] 0)).alloc (.map #[] 0)).alloc (.cells #[.map (some W.heap.size), .map (some (W.heap.size + 1)), .slice none 0 0, .map (some (W.heap.size + 1 + 1)), .slice none 0 0, .slice none 0 0] 63)
theorem begW_below (W : World) : Below W.heap.size W (begW W) := by
  unfold begW
  exact ((((Below.refl _ W).alloc (Nat.le_refl _) _).alloc (by simp only [World.size_alloc]; omega) _).alloc (by simp only [World.size_alloc]; omega) _).alloc (by simp only [World.size_alloc]; omega) _
theorem MapI.allocd {α : Type} {R : Value → Option (DataW Unit × List MemPlace)} {en : α → DataW Unit} {W : World} {b n : Nat} {f : Int → Option α} (h : MapI R en W b n f) (o : Obj) : MapI R en (W.alloc o) b n f := h.same (Below.heap_alloc _ _ _ h.lt)
theorem begW_at (W : World) : WAt W (begW W) (W.heap.size + 1 + 1 + 1) 0 st0 [] W.heap.size (W.heap.size + 1) (W.heap.size + 1 + 1) (.slice none 0 0) none 0 none 0 := by
  have m1 := MapI.made (R := RC) (en := enC) W
  have m2 := MapI.made (R := RI) (en := enI) (W.alloc (.map #[] 0))
  have m3 := MapI.made (R := RI) (en := enI) ((W.alloc (.map #[] 0)).alloc (.map #[] 0))
  have hb := blk_new (((W.alloc (.map #[] 0)).alloc (.map #[] 0)).alloc (.map #[] 0)) (.cells #[.map (some W.heap.size), .map (some (W.heap.size + 1)), .slice none 0 0, .map (some (W.heap.size + 1 + 1)), .slice none 0 0, .slice none 0 0] 63)
  have e1 : (W.alloc (.map #[] 0)).heap.size = W.heap.size + 1 := by simp
  have e2 : ((W.alloc (.map #[] 0)).alloc (.map #[] 0)).heap.size = W.heap.size + 1 + 1 := by simp
  have e3 : (((W.alloc (.map #[] 0)).alloc (.map #[] 0)).alloc (.map #[] 0)).heap.size = W.heap.size + 1 + 1 + 1 := by simp
  rw [e1] at m2
  rw [e2] at m3
  rw [e3] at hb
  refine {
    below := begW_below W
    block := hb
    calls := ?_
    codes := ?_
    floors := ?_
    order := Kd.R_nil _ _ _ _ _
    before := ⟨Kd.C_nil _ _, Nat.le_refl _⟩
    at_h := ⟨Kd.C_nil _ _, Nat.le_refl _⟩
    hbw := by omega
    hbc := by omega
    hbd := by omega
    hbf := by omega
    cd := by omega
    cf := by omega
    df := by omega }
  · exact ((m1.allocd _).allocd _).allocd _
  · exact (m2.allocd _).allocd _
  · exact m3.allocd _
theorem begin_any (W : World) : Calls Try.prog 16 #[] W fun e W' => e = .returned (.pointer (some ⟨W.heap.size + 1 + 1 + 1, 0, none⟩)) ∧ W' = begW W := by
  have hmm := @run_makeMap Try.prog
  go_enter Try.func16, Try.ntmps16
  go_wp2
  go_ret
  exact ⟨rfl, rfl⟩
end Go.Proofs.Ytegfnceepplooaa.TR

set_option linter.unusedVariables false
set_option linter.unusedSimpArgs false
namespace Go.Proofs.Ytegfnceepplooaa.TR
open Go.RowKit Go.Maps Go.Proofs.Ytegfnceepplooaa.FMap Go.Proofs.Ytegfnceepplooaa.PTR Go.Proofs.YtegfnceepplooaaW.PrintWords Go.Proofs.YtegfnceepplooaaW.PrintLast

abbrev kS := k40
/-- The numbers of a step fit. -/
def okS (s : Seen) : Prop := (Lit.int .i64 s.f0.f1).wf = true ∧ (Lit.int .i64 s.f0.f4.f0).wf = true ∧ (∀ a ∈ s.f1, okA a) ∧ ∀ r ∈ s.f2, (Lit.int .i64 r.f5).wf = true
theorem rdS_at {l : List Seen} {j : Nat} (h : j < l.length) : rd_T40 l (j : Int) = l[j] := by
  unfold rd_T40
  simp [List.getD_eq_getElem?_getD, h]
theorem rdS_mem {l : List Seen} {j : Nat} (h : j < l.length) : rd_T40 l (j : Int) ∈ l := by
  rw [rdS_at h]
  exact List.getElem_mem h
theorem sum_mem {α : Type} (f : α → Nat) : ∀ {l : List α} {x : α}, x ∈ l → f x ≤ (l.map f).sum
  | y :: l, x, h => by
    rw [List.map_cons, List.sum_cons]
    rcases List.mem_cons.1 h with rfl | h
    · omega
    · have := sum_mem f h
      omega
theorem sum_take {α : Type} (f : α → Nat) : ∀ (l : List α) (n : Nat), ((l.take n).map f).sum ≤ (l.map f).sum
  | [], n => by simp
  | y :: l, 0 => by simp
  | y :: l, n + 1 => by
    have := sum_take f l n
    simp only [List.take_succ_cons, List.map_cons, List.sum_cons]
    omega
theorem small_mem {l : List Seen} (h : smallL l) {s : Seen} (hs : s ∈ l) : s.f1.length ≤ 2000 ∧ s.f2.length ≤ 2000 := by
  have h1 := h.2
  have : s.f1.length + s.f2.length ≤ _ := sum_mem (fun s : Seen => s.f1.length + s.f2.length) hs
  omega
theorem small_take {l : List Seen} (h : smallL l) (n : Nat) : smallL (l.take n) := by
  obtain ⟨h1, h2⟩ := h
  have := sum_take (fun s : Seen => s.f1.length + s.f2.length) l n
  exact ⟨by rw [List.length_take]; omega, Nat.le_trans this h2⟩

abbrev seenV (p0 p1 p2 p3 c0 c1 o0 : Int) (o1 o2 : ByteArray) (v9 v10 v11 : Value) : Value := .agg #[.int .i64 p0, .int .i64 p1, .int .i64 p2, .int .i64 p3, .int .i64 c0, .int .i64 c1, .int .i64 o0, .string o1, .string o2, v9, v10, v11]
set_option maxHeartbeats 4000000 in
theorem long_any (p0 p1 p2 p3 c0 c1 o0 : Int) (o1 o2 : ByteArray) (v9 : Value) (A10 A11 : Option Addr) (n10 n11 k10 k11 : Nat) (h1 : n10 ≤ 2000) (h2 : n11 ≤ 2000) (W : World) :
    Calls Try.prog 14 #[.agg #[.int .i64 p0, .int .i64 p1, .int .i64 p2, .int .i64 p3, .int .i64 c0, .int .i64 c1, .int .i64 o0, .string o1, .string o2, v9, .slice A10 n10 k10, .slice A11 n11 k11]] W fun e w' => e = .returned (.bool false) ∧ Below W.heap.size W w' := by
  have d1 : decide ((4096 : Int) < n10) = false := decide_eq_false (by omega)
  have d2 : decide ((4096 : Int) < n11) = false := decide_eq_false (by omega)
  have hb := blk_new W (.cells #[.int .i64 p0, .int .i64 p1, .int .i64 p2, .int .i64 p3, .int .i64 c0, .int .i64 c1, .int .i64 o0, .string o1, .string o2, v9, .slice A10 n10 k10, .slice A11 n11 k11] 40)
  have x10 : (W.alloc (.cells #[.int .i64 p0, .int .i64 p1, .int .i64 p2, .int .i64 p3, .int .i64 c0, .int .i64 c1, .int .i64 o0, .string o1, .string o2, v9, .slice A10 n10 k10, .slice A11 n11 k11] 40)).cell? ⟨W.heap.size, 10, none⟩ = some (.slice A10 n10 k10) := (blk_cell hb 10).trans rfl
  have x11 : (W.alloc (.cells #[.int .i64 p0, .int .i64 p1, .int .i64 p2, .int .i64 p3, .int .i64 c0, .int .i64 c1, .int .i64 o0, .string o1, .string o2, v9, .slice A10 n10 k10, .slice A11 n11 k11] 40)).cell? ⟨W.heap.size, 11, none⟩ = some (.slice A11 n11 k11) := (blk_cell hb 11).trans rfl
  clear hb
  go_enter Try.func14, Try.ntmps14
  go_wp2
  go_ret
  exact ⟨rfl, (Below.refl _ _).alloc (Nat.le_refl _) _⟩
set_option maxHeartbeats 4000000 in
theorem index_none (A : Option Addr) (c : Nat) (l : List Seen) (w : World) (hC : Kd.C kS w A l.length l) (hs : smallL l) :
    Calls Try.prog 21 #[.slice A l.length c, .func (.func 14) #[] #[]] w fun e w' => e = .returned (.int .i64 (-1)) ∧ Below w.heap.size w w' := by
  have eg : ∀ args w, (callFunc 14 args).run Try.prog w = .ok (.enter 14 args) w := enters_of Try.func14 (by kernel_rfl) rfl
  have HC := Aside0.mk hC
  have HS := Aside0.mk hs
  have hn := hs.1
  clear hC hs
  go_enter Try.func21, Try.ntmps21
  go_wp2
  go_loopw [8] (fun i wr => ∃ j : Nat, j ≤ l.length ∧ i = .int .i64 j ∧ Aside0 (Below w.heap.size w wr)) (fun i _ => l.length - (intOf i).toNat)
  case atStart => exact ⟨0, Nat.zero_le _, rfl, ⟨Below.refl _ _⟩⟩
  case round =>
    obtain ⟨j, hj, rfl, HW⟩ := hrel
    by_cases hlt : j < l.length
    · obtain ⟨ad, A9, k9, A10, k10, A11, k11, hA, g0, g1, g2, g3, g4, g5, g6, g7, g8, g9, g10, g11, _, _, _, _, _, _⟩ := at_T40 (Kd.C_below HC.out HW.out) (j : Int) (by omega) (by omega)
      rw [Int.toNat_natCast] at g0 g1 g2 g3 g4 g5 g6 g7 g8 g9 g10 g11
      subst hA
      have hsm := small_mem HS.out (rdS_mem hlt)
      generalize rd_T40 l (j : Int) = q at hsm g0 g1 g2 g3 g4 g5 g6 g7 g8 g9 g10 g11
      obtain ⟨⟨p0, p1, p2, p3, ⟨c0, c1, ⟨o0, o1, o2⟩⟩, l9⟩, la, hh⟩ := q
      simp only at hsm g0 g1 g2 g3 g4 g5 g6 g7 g8 g9 g10 g11
      have CL := Aside0.mk (fun W => long_any p0 p1 p2 p3 c0 c1 o0 o1 o2 (.slice A9 l9.length k9) A10 A11 la.length hh.length k10 k11 hsm.1 hsm.2 W)
      clear hsm
      go_wp2_with (go_at_fn 14; refine (CL.out _).mono ?_; rintro e w' ⟨rfl, hb'⟩)
      go_roundw
      case rel => exact ⟨j + 1, by omega, by go_num, ⟨HW.out.trans (hb'.mono HW.out.size)⟩⟩
      case measure => first | (simp [intOf]; done) | (simp [intOf]; omega)
    · obtain rfl : j = l.length := by omega
      go_wp2
      go_ret
      exact ⟨rfl, HW.out⟩
theorem contains_none (A : Option Addr) (c : Nat) (l : List Seen) (w : World) (hC : Kd.C kS w A l.length l) (hs : smallL l) :
    Calls Try.prog 15 #[.slice A l.length c, .func (.func 14) #[] #[]] w fun e w' => e = .returned (.bool false) ∧ Below w.heap.size w w' := by
  have cX := index_none A c l w hC hs
  clear hC hs
  go_enter Try.func15, Try.ntmps15
  go_wp2_with (go_at_call 21; refine cX.mono ?_; rintro e w2 ⟨rfl, hB2⟩; have HB2 := Aside0.mk hB2; clear hB2)
  go_ret
  exact ⟨rfl, HB2.out⟩
end Go.Proofs.Ytegfnceepplooaa.TR

set_option linter.unusedVariables false
set_option linter.unusedSimpArgs false
namespace Go.Proofs.Ytegfnceepplooaa.TR
open Go.RowKit Go.Maps Go.Proofs.Ytegfnceepplooaa.FMap Go.Proofs.Ytegfnceepplooaa.PTR Go.Proofs.YtegfnceepplooaaW.PrintWords Go.Proofs.YtegfnceepplooaaW.PrintLast

/-- How many answers and records the first steps have. -/
def cntV (l : List Seen) (j : Nat) : Nat := ((l.take j).map fun s => s.f1.length + s.f2.length).sum
theorem cnt_next {l : List Seen} {j : Nat} (h : j < l.length) : cntV l (j + 1) = cntV l j + ((rd_T40 l (j : Int)).f1.length + (rd_T40 l (j : Int)).f2.length) := by
  unfold cntV
  rw [rdS_at h, List.take_succ_eq_append_getElem h, List.map_append, List.sum_append]
  simp
theorem cnt_all (l : List Seen) : cntV l l.length = (l.map fun s => s.f1.length + s.f2.length).sum := by
  unfold cntV
  rw [List.take_length]
set_option maxHeartbeats 4000000 in
theorem large_any (A : Option Addr) (c : Nat) (l : List Seen) (W : World) (hC : Kd.C kS W A l.length l) (hb : ∀ s ∈ l, s.f1.length ≤ 140737488351232 ∧ s.f2.length ≤ 140737488351232) (hl : l.length ≤ 140737488351232) :
    Calls Try.prog 6 #[.slice A l.length c] W fun e W' => (∃ b : Bool, e = .returned (.bool b) ∧ (b = false → smallL l)) ∧ Below W.heap.size W W' := by
  have HC := Aside0.mk hC
  have HB := Aside0.mk hb
  clear hC hb
  by_cases h3 : l.length ≤ 300
  · have d3 : decide ((300 : Int) < l.length) = false := decide_eq_false (by omega)
    go_enter Try.func6, Try.ntmps6
    go_wp2
    go_loopw [3, 8] (fun nv i wr => ∃ (j m : Nat), j ≤ l.length ∧ m ≤ 281474976702464 * j ∧ nv = .int .i64 m ∧ i = .int .i64 j ∧ Aside0 (m = cntV l j) ∧ Aside0 (Below W.heap.size W wr)) (fun _ i _ => l.length - (intOf i).toNat)
    case atStart => exact ⟨0, 0, Nat.zero_le _, Nat.zero_le _, rfl, rfl, ⟨rfl⟩, ⟨Below.refl _ _⟩⟩
    case round =>
      obtain ⟨j, m, hj, hm, rfl, rfl, HM, HW⟩ := hrel
      by_cases hlt : j < l.length
      · obtain ⟨ad, A9, k9, A10, k10, A11, k11, hA, g0, g1, g2, g3, g4, g5, g6, g7, g8, g9, g10, g11, _, _, _, _, _, _⟩ := at_T40 (Kd.C_below HC.out HW.out) (j : Int) (by omega) (by omega)
        rw [Int.toNat_natCast] at g0 g1 g2 g3 g4 g5 g6 g7 g8 g9 g10 g11
        subst hA
        have hsm := HB.out _ (rdS_mem hlt)
        have HN := Aside0.mk (cnt_next hlt)
        generalize rd_T40 l (j : Int) = q at hsm HN g0 g1 g2 g3 g4 g5 g6 g7 g8 g9 g10 g11
        obtain ⟨⟨p0, p1, p2, p3, ⟨c0, c1, ⟨o0, o1, o2⟩⟩, l9⟩, la, hh⟩ := q
        simp only at hsm g0 g1 g2 g3 g4 g5 g6 g7 g8 g9 g10 g11
        obtain ⟨h1, h2⟩ := hsm
        have HN2 : Aside0 (cntV l (j + 1) = cntV l j + (la.length + hh.length)) := ⟨HN.out⟩
        clear HN
        have hb2 := blk_new wr (.cells #[.int .i64 p0, .int .i64 p1, .int .i64 p2, .int .i64 p3, .int .i64 c0, .int .i64 c1, .int .i64 o0, .string o1, .string o2, .slice A9 l9.length k9, .slice A10 la.length k10, .slice A11 hh.length k11] 40)
        obtain ⟨wb, hwb⟩ : ∃ wb, wb = wr.alloc (.cells #[.int .i64 p0, .int .i64 p1, .int .i64 p2, .int .i64 p3, .int .i64 c0, .int .i64 c1, .int .i64 o0, .string o1, .string o2, .slice A9 l9.length k9, .slice A10 la.length k10, .slice A11 hh.length k11] 40) := ⟨_, rfl⟩
        have x10 : (wr.alloc (.cells #[.int .i64 p0, .int .i64 p1, .int .i64 p2, .int .i64 p3, .int .i64 c0, .int .i64 c1, .int .i64 o0, .string o1, .string o2, .slice A9 l9.length k9, .slice A10 la.length k10, .slice A11 hh.length k11] 40)).cell? ⟨wr.heap.size, 10, none⟩ = some (.slice A10 la.length k10) := (blk_cell hb2 10).trans rfl
        have x11 : (wr.alloc (.cells #[.int .i64 p0, .int .i64 p1, .int .i64 p2, .int .i64 p3, .int .i64 c0, .int .i64 c1, .int .i64 o0, .string o1, .string o2, .slice A9 l9.length k9, .slice A10 la.length k10, .slice A11 hh.length k11] 40)).cell? ⟨wr.heap.size, 11, none⟩ = some (.slice A11 hh.length k11) := (blk_cell hb2 11).trans rfl
        have HW2 : Aside0 (Below W.heap.size W (wr.alloc (.cells #[.int .i64 p0, .int .i64 p1, .int .i64 p2, .int .i64 p3, .int .i64 c0, .int .i64 c1, .int .i64 o0, .string o1, .string o2, .slice A9 l9.length k9, .slice A10 la.length k10, .slice A11 hh.length k11] 40))) := ⟨HW.out.alloc HW.out.size _⟩
        clear hb2 hwb
        go_wp2
        go_roundw
        case rel => exact ⟨j + 1, m + (la.length + hh.length), by omega, by omega, by go_num, by go_num, ⟨by rw [HN2.out, ← HM.out]⟩, HW2⟩
        case measure => simp [intOf]; omega
      · obtain rfl : j = l.length := by omega
        have HS : Aside0 (decide ((2000 : Int) < m) = false → smallL l) := ⟨fun h => ⟨h3, by
          have h1 := of_decide_eq_false h
          rw [← cnt_all, ← HM.out]
          omega⟩⟩
        obtain ⟨b, hbv⟩ : ∃ b, decide ((2000 : Int) < m) = b := ⟨_, rfl⟩
        rw [hbv] at HS
        go_wp2
        go_ret
        exact ⟨⟨b, rfl, HS.out⟩, HW.out⟩
  · have d3 : decide ((300 : Int) < l.length) = true := decide_eq_true (by omega)
    go_enter Try.func6, Try.ntmps6
    go_wp2
    go_loopw [3, 8] (fun nv i wr => ∃ (j : Nat) (m : Int), j ≤ l.length ∧ nv = .int .i64 m ∧ i = .int .i64 j ∧ Aside0 (Below W.heap.size W wr)) (fun _ i _ => l.length - (intOf i).toNat)
    case atStart => exact ⟨0, 0, Nat.zero_le _, rfl, rfl, ⟨Below.refl _ _⟩⟩
    case round =>
      obtain ⟨j, m, hj, rfl, rfl, HW⟩ := hrel
      by_cases hlt : j < l.length
      · obtain ⟨ad, A9, k9, A10, k10, A11, k11, hA, g0, g1, g2, g3, g4, g5, g6, g7, g8, g9, g10, g11, _, _, _, _, _, _⟩ := at_T40 (Kd.C_below HC.out HW.out) (j : Int) (by omega) (by omega)
        rw [Int.toNat_natCast] at g0 g1 g2 g3 g4 g5 g6 g7 g8 g9 g10 g11
        subst hA
        generalize rd_T40 l (j : Int) = q at g0 g1 g2 g3 g4 g5 g6 g7 g8 g9 g10 g11
        obtain ⟨⟨p0, p1, p2, p3, ⟨c0, c1, ⟨o0, o1, o2⟩⟩, l9⟩, la, hh⟩ := q
        simp only at g0 g1 g2 g3 g4 g5 g6 g7 g8 g9 g10 g11
        have hb2 := blk_new wr (.cells #[.int .i64 p0, .int .i64 p1, .int .i64 p2, .int .i64 p3, .int .i64 c0, .int .i64 c1, .int .i64 o0, .string o1, .string o2, .slice A9 l9.length k9, .slice A10 la.length k10, .slice A11 hh.length k11] 40)
        have x10 : (wr.alloc (.cells #[.int .i64 p0, .int .i64 p1, .int .i64 p2, .int .i64 p3, .int .i64 c0, .int .i64 c1, .int .i64 o0, .string o1, .string o2, .slice A9 l9.length k9, .slice A10 la.length k10, .slice A11 hh.length k11] 40)).cell? ⟨wr.heap.size, 10, none⟩ = some (.slice A10 la.length k10) := (blk_cell hb2 10).trans rfl
        have x11 : (wr.alloc (.cells #[.int .i64 p0, .int .i64 p1, .int .i64 p2, .int .i64 p3, .int .i64 c0, .int .i64 c1, .int .i64 o0, .string o1, .string o2, .slice A9 l9.length k9, .slice A10 la.length k10, .slice A11 hh.length k11] 40)).cell? ⟨wr.heap.size, 11, none⟩ = some (.slice A11 hh.length k11) := (blk_cell hb2 11).trans rfl
        have HW2 : Aside0 (Below W.heap.size W (wr.alloc (.cells #[.int .i64 p0, .int .i64 p1, .int .i64 p2, .int .i64 p3, .int .i64 c0, .int .i64 c1, .int .i64 o0, .string o1, .string o2, .slice A9 l9.length k9, .slice A10 la.length k10, .slice A11 hh.length k11] 40))) := ⟨HW.out.alloc HW.out.size _⟩
        clear hb2
        go_wp2
        go_roundw
        case rel => exact ⟨j + 1, _, by omega, rfl, by go_num, HW2⟩
        case measure => simp [intOf]; omega
      · obtain rfl : j = l.length := by omega
        go_wp2
        go_ret
        exact ⟨⟨true, rfl, fun h => absurd h (by decide)⟩, HW.out⟩
end Go.Proofs.Ytegfnceepplooaa.TR

set_option linter.unusedVariables false
set_option linter.unusedSimpArgs false
namespace Go.Proofs.Ytegfnceepplooaa.TR
open Go.RowKit Go.Maps Go.Proofs.Ytegfnceepplooaa.FMap Go.Proofs.Ytegfnceepplooaa.PTR Go.Proofs.YtegfnceepplooaaW.PrintWords Go.Proofs.YtegfnceepplooaaW.PrintLast

set_option maxHeartbeats 1000000 in
theorem ints_any (A B : Option Addr) (c d : Nat) (l : List Int) (W : World) (hA : Kd.C kI W A l.length l) (hc : l.length ≤ c) (hB : Kd.C kI W B l.length l) (hd : l.length ≤ d) (hl : l.length ≤ 1000) :
    Calls Try.prog 9 #[.slice A l.length c, .slice B l.length d] W fun e w' => e = .returned (.bool true) ∧ Below W.heap.size W w' := by
  have HA := Aside0.mk hA
  have HB := Aside0.mk hB
  clear hA hB hc hd
  have e1 : ((l.length : Int) != (l.length : Int)) = false := by simp
  go_enter Try.func9, Try.ntmps9
  go_wp2
  go_loopw [13] (fun i wr => ∃ j : Nat, j ≤ l.length ∧ i = .int .i64 j ∧ Aside0 (Below W.heap.size W wr)) (fun i _ => l.length - (intOf i).toNat)
  case atStart => exact ⟨0, Nat.zero_le _, rfl, ⟨Below.refl _ _⟩⟩
  case round =>
    obtain ⟨j, hj, rfl, HW⟩ := hrel
    by_cases hlt : j < l.length
    · obtain ⟨ad, hAd, g0⟩ := Kd.at_int (Kd.C_below HA.out HW.out) (j : Int) (by omega) (by omega)
      obtain ⟨ae, hAe, g1⟩ := Kd.at_int (Kd.C_below HB.out HW.out) (j : Int) (by omega) (by omega)
      rw [Int.toNat_natCast] at g0 g1
      subst hAd hAe
      generalize rd l (j : Int) = x at g0 g1
      have ex : (x != x) = false := by simp
      go_wp2
      go_quiet (fail)
      go_wp2
      go_roundw
      case rel => exact ⟨j + 1, by omega, by go_num, ⟨pw_below_drewN HW.out nq⟩⟩
      case measure => simp [intOf]; omega
    · obtain rfl : j = l.length := by omega
      go_wp2
      go_ret
      exact ⟨rfl, HW.out⟩
set_option maxHeartbeats 1000000 in
theorem put_any (r : Int) (W : World) : Calls Try.prog 13 #[.int .i64 r] W fun e w' => e = .returned (.agg #[.int .i64 1, .int .i64 0, .int .i64 0, .int .i64 0, .int .i64 r, .int .i64 0, .int .i64 2, .string ⟨#[97]⟩, .string ⟨#[120]⟩, .slice none 0 0]) ∧ Below W.heap.size W w' := by
  go_enter Try.func13, Try.ntmps13
  go_wp2
  refine bodyPost_ret (results_cell_row rfl _ _ W.heap.size 36 #[.int .i64 1, .int .i64 0, .int .i64 0, .int .i64 0, .int .i64 r, .int .i64 0, .int .i64 2, .string ⟨#[97]⟩, .string ⟨#[120]⟩, .slice none 0 0] (0, 0) _ rfl (blk_new _ _) Try.underlying36 rfl (by kernel_rfl)) rfl ?_
  exact ⟨rfl, (Below.refl _ _).alloc (Nat.le_refl _) _⟩
end Go.Proofs.Ytegfnceepplooaa.TR

set_option linter.unusedVariables false
set_option linter.unusedSimpArgs false
namespace Go.Proofs.Ytegfnceepplooaa.TR
open Go.RowKit Go.Maps Go.Proofs.Ytegfnceepplooaa.FMap Go.Proofs.Ytegfnceepplooaa.PTR Go.Proofs.YtegfnceepplooaaW.PrintWords Go.Proofs.YtegfnceepplooaaW.PrintLast

def cPut (r : Int) : Cho := ⟨1, 0, 0, 0, ⟨r, 0, ⟨2, ⟨#[97]⟩, ⟨#[120]⟩⟩⟩, []⟩
def cNil : Cho := ⟨0, 0, 0, 0, ⟨0, 0, ⟨0, ⟨#[]⟩, ⟨#[]⟩⟩⟩, []⟩
def lH : List Rec := [⟨1, 0, 7, 0, 1, 1, ⟨#[97]⟩, ⟨#[120]⟩⟩]
def lOK : List Ans := [⟨1, 0, 1, ⟨false, ⟨#[]⟩, []⟩⟩]
def T1 : List Seen := [⟨cPut 1, [], []⟩, ⟨cNil, lOK, lH⟩]
def T2 : List Seen := [⟨cPut 1, [], []⟩, ⟨cNil, lOK, []⟩]
def T3 : List Seen := [⟨cPut 1, lOK, lH⟩, ⟨cNil, lOK, lH⟩]
def T4 : List Seen := [⟨cPut 4, [], []⟩]
theorem run_T1 : runV st0 T1 0 = (0, 0) := by decide +kernel
theorem run_T2 : runV st0 T2 0 = (3, 1) := by decide +kernel
theorem run_T3 : runV st0 T3 0 = (2, 1) := by decide +kernel
theorem open_T4 : openV T4 = [4] := by decide +kernel
end Go.Proofs.Ytegfnceepplooaa.TR

set_option linter.unusedVariables false
set_option linter.unusedSimpArgs false
namespace Go.Proofs.Ytegfnceepplooaa.TR
open Go.RowKit Go.Maps Go.Proofs.Ytegfnceepplooaa.FMap Go.Proofs.Ytegfnceepplooaa.PTR Go.Proofs.YtegfnceepplooaaW.PrintWords Go.Proofs.YtegfnceepplooaaW.PrintLast

def RB : Value → Option (DataW Unit × List MemPlace)
  | .bool x => some (.lit (.bool x), [])
  | _ => none
def enB (x : Bool) : DataW Unit := .lit (.bool x)
theorem RB_mk (x : Bool) : RB (.bool x) = some (enB x, []) := rfl
theorem RB_inv {v : Value} {n : Bool} {ps : List MemPlace} (h : RB v = some (enB n, ps)) : v = .bool n := by
  unfold RB at h
  split at h
  · simp only [Option.some.injEq, Prod.mk.injEq, enB, DataW.lit.injEq, Lit.bool.injEq] at h
    rw [h.1]
  · cases h
theorem zeroRunB (w : World) : (zeroValue 4).run Try.prog w = .ok (.bool false) w := by kernel_rfl
section
variable {W : World} {b n : Nat}
theorem lookB {f : Int → Option Bool} (h : MapI RB enB W b n f) {x : Int} (hx : (Lit.int .i64 x).wf = true) : (Instr.lookup 57 (.map (some b)) (.int .i64 x) false).run Try.prog W = .ok (.bool ((f x).getD false)) W := by
  obtain ⟨D, hown, hD⟩ := h
  obtain ⟨v, ps, hrun, hv⟩ := hown.lookup keyI Try.underlying57 (zeroRunB W) (RB_mk false) (key_of hx)
  obtain ⟨h1, h2⟩ := hD x hx
  rw [h2, getD_map] at hv
  rw [hrun, RB_inv hv]
theorem storeB {f : Int → Option Bool} (h : MapI RB enB W b n f) (hn : n < maxLen) {x : Int} (hx : (Lit.int .i64 x).wf = true) (y : Bool) : ∃ W', (Instr.mapUpdate 57 (.map (some b)) (.int .i64 x) (.bool y)).run Try.prog W = .ok () W' ∧ MapI RB enB W' b (n + 1) (upd f x y) ∧ W.grownBy W' (some b) := by
  obtain ⟨D, hown, hD⟩ := h
  obtain ⟨W', h1, h2, h3⟩ := hown.update keyI Try.underlying57 hn (key_of hx) (RB_mk y)
  exact ⟨W', h1, ⟨_, h2, put_reads hown.isMap hD x y⟩, h3⟩
end
section
variable {w0 W W' : World} {bw n : Nat} {st : St} {h : List Rec} {bc bd bf : Nat} {vo : Value} {Ab : Option Addr} {cb : Nat} {Ah : Option Addr} {ch : Nat}
/-- Another map has been written. -/
theorem WAt.other (H : WAt w0 W bw n st h bc bd bf vo Ab cb Ah ch) {bt : Nat} (hg : W.grownBy W' (some bt)) (hb : ∃ (es : Array MapEntry) (clock : Nat), W.heap[bt]? = some (Obj.map es clock)) (h0 : w0.heap.size ≤ bt) (h1 : bt ≠ bc) (h2 : bt ≠ bd) (h3 : bt ≠ bf) : WAt w0 W' bw n st h bc bd bf vo Ab cb Ah ch := by
  obtain ⟨es, clock, hb⟩ := hb
  exact {
    below := H.below.grown hg H.below.size (fun k hk => by cases hk; exact h0)
    block := block_map H.block hg hb
    calls := H.calls.same (hg.block bc H.calls.lt (fun e => h1 (Option.some.inj e).symm))
    codes := H.codes.same (hg.block bd H.codes.lt (fun e => h2 (Option.some.inj e).symm))
    floors := H.floors.same (hg.block bf H.floors.lt (fun e => h3 (Option.some.inj e).symm))
    order := order_map H.order hg hb
    before := H.before
    at_h := H.at_h
    hbw := H.hbw
    hbc := H.hbc
    hbd := H.hbd
    hbf := H.hbf
    cd := H.cd
    cf := H.cf
    df := H.df }
/-- A choice leaves another map as it is. -/
theorem FrN.map {α : Type} {R : Value → Option (DataW Unit × List MemPlace)} {en : α → DataW Unit} {bt m : Nat} {f : Int → Option α} (hf : FrN bw bc bf vo W W') (H : WAt w0 W bw n st h bc bd bf vo Ab cb Ah ch) (hm : MapI R en W bt m f) (h1 : bt ≠ bc) (h3 : bt ≠ bf) : MapI R en W' bt m f := by
  refine hm.same (hf.keep bt hm.lt ?_ h1 h3 (own_ne_map H.order hm.is_map))
  intro he
  subst he
  obtain ⟨es, cl, hb⟩ := hm.is_map
  rw [H.block] at hb
  injection hb with hb
  cases hb
end
theorem open_drop (st : St) (told : Int → Option Bool) {l : List Seen} {j : Nat} (h : j < l.length) : openS st told (l.drop j) = openS (choiceV st (rd_T40 l (j : Int)).f0) ((rd_T40 l (j : Int)).f1.foldl (toldA (choiceV st (rd_T40 l (j : Int)).f0)) told) (l.drop (j + 1)) := by
  rw [List.drop_eq_getElem_cons h, rdS_at h]
  rfl
theorem rdA_at {l : List Ans} {j : Nat} (h : j < l.length) : rd_T45 l (j : Int) = l[j] := by
  unfold rd_T45
  simp [List.getD_eq_getElem?_getD, h]
theorem told_drop {α : Type} (f : α → Ans → α) (told : α) {l : List Ans} {j : Nat} (h : j < l.length) : (l.drop j).foldl f told = (l.drop (j + 1)).foldl f (f told (rd_T45 l (j : Int))) := by
  rw [List.drop_eq_getElem_cons h, rdA_at h]
  rfl
end Go.Proofs.Ytegfnceepplooaa.TR

set_option linter.unusedVariables false
set_option linter.unusedSimpArgs false
namespace Go.Proofs.Ytegfnceepplooaa.TR
open Go.RowKit Go.Maps Go.Proofs.Ytegfnceepplooaa.FMap Go.Proofs.Ytegfnceepplooaa.PTR Go.Proofs.YtegfnceepplooaaW.PrintWords Go.Proofs.YtegfnceepplooaaW.PrintLast

theorem told_at (st : St) (told : Int → Option Bool) (a : Ans) : toldA st told a = if (st.calls a.f0).isSome = true then upd told a.f0 true else told := rfl
theorem choice_order2 (st : St) (c : Cho) : (choiceV st c).order.length ≤ st.order.length + 1 ∧ ∀ x ∈ (choiceV st c).order, x ∈ st.order ∨ x = c.f4.f0 := by
  refine ⟨choice_order st c, ?_⟩
  unfold choiceV
  split
  · split
    · exact fun x hx => Or.inl hx
    · intro x hx
      rcases List.mem_append.1 hx with h | h
      · exact Or.inl h
      · exact Or.inr (List.mem_singleton.1 h)
  · split <;> exact fun x hx => Or.inl hx
theorem filter_next {l : List Int} {j : Nat} (h : j < l.length) (p : Int → Bool) : (l.take (j + 1)).filter p = (l.take j).filter p ++ (if p (rd l (j : Int)) = true then [rd l (j : Int)] else []) := by
  have e : rd l (j : Int) = l[j] := by simp [rd, List.getD_eq_getElem?_getD, h]
  rw [e, List.take_succ_eq_append_getElem h, List.filter_append]
  congr 1
  simp only [List.filter_cons, List.filter_nil]
set_option maxHeartbeats 8000000 in
set_option maxRecDepth 100000 in
theorem open_any (A : Option Addr) (c : Nat) (l : List Seen) (W : World) (hC : Kd.C kS W A l.length l) (hs : smallL l) (hok : ∀ s ∈ l, okS s) :
    Calls Try.prog 10 #[.slice A l.length c] W fun e W' => (∃ A' c', e = .returned (.slice A' (openV l).length c') ∧ (openV l).length ≤ c' ∧ Kd.C kI W' A' (openV l).length (openV l)) ∧ (openV l).length ≤ 300 ∧ Below W.heap.size W W' := by
  have hn := hs.1
  have HC := Aside0.mk hC
  have HS := Aside0.mk hs
  have HO := Aside0.mk hok
  have HB := Aside0.mk (fun W => begin_any W)
  have hmm := @run_makeMap Try.prog
  clear hC hs hok
  go_enter Try.func10, Try.ntmps10
  go_wp2_with fail
  refine (HB.out W).mono ?_
  rintro e w3 ⟨rfl, rfl⟩
  have HW0 := Aside0.mk (begW_at W)
  have hz : (begW W).heap.size = W.heap.size + 1 + 1 + 1 + 1 := by unfold begW; simp
  have HT0 := Aside0.mk (MapI.made (R := RB) (en := enB) (begW W))
  have HL0 : Aside0 ((begW W).heap.size ≠ W.heap.size ∧ (begW W).heap.size ≠ W.heap.size + 1 ∧ (begW W).heap.size ≠ W.heap.size + 1 + 1 ∧ W.heap.size ≤ (begW W).heap.size) := ⟨by omega, by omega, by omega, by omega⟩
  have HX0 := Aside0.mk (HW0.out.stay ((Below.refl _ (begW W)).alloc (Nat.le_refl _) (.map #[] 0)))
  clear hz HW0
  obtain ⟨w4, hw4⟩ : ∃ w4, w4 = (begW W).alloc (.map #[] 0) := ⟨_, rfl⟩
  rw [← hw4] at HX0 HT0
  go_wp2
  rw [← hw4]
  clear hw4 hmm
  generalize (begW W).heap.size = bt at HT0 HL0 ⊢
  generalize W.heap.size + 1 + 1 + 1 = bw at HX0 ⊢
  generalize W.heap.size + 1 + 1 = bf at HX0 HL0 ⊢
  generalize W.heap.size + 1 = bd at HX0 HL0 ⊢
  have HLE := Aside0.mk HL0.out.2.2.2
  generalize W.heap.size = bc at HX0 HL0 ⊢
  go_loopw [18] (fun i wr => ∃ (j : Nat) (st : St) (told : Int → Option Bool) (n m : Nat) (vo : Value), j ≤ l.length ∧ i = .int .i64 j ∧ Aside0 (openS st0 (fun _ => none) l = openS st told (l.drop j)) ∧ Aside0 (n ≤ j ∧ m ≤ 2000 * j ∧ st.order.length ≤ j ∧ ∀ x ∈ st.order, (Lit.int .i64 x).wf = true) ∧ Aside0 (WAt W wr bw n st [] bc bd bf vo none 0 none 0) ∧ Aside0 (MapI RB enB wr bt m told)) (fun i _ => l.length - (intOf i).toNat)
  case atStart => exact ⟨0, st0, _, 0, 0, _, Nat.zero_le _, rfl, ⟨by rw [List.drop_zero]⟩, ⟨Nat.zero_le _, Nat.zero_le _, Nat.zero_le _, fun x hx => by cases hx⟩, HX0, HT0⟩
  case round =>
    obtain ⟨j, st, told, n, m, vo, hj, rfl, HE, HN, HW, HT⟩ := hrel
    obtain ⟨wo, hwo⟩ : ∃ wo, wo = wr := ⟨_, rfl⟩
    subst hwo
    by_cases hlt : j < l.length
    · obtain ⟨ad, A9, k9, A10, k10, A11, k11, hA, g0, g1, g2, g3, g4, g5, g6, g7, g8, g9, g10, g11, _, _, e10, E10, _, _⟩ := at_T40 HC.out (j : Int) (by omega) (by omega)
      rw [Int.toNat_natCast] at g0 g1 g2 g3 g4 g5 g6 g7 g8 g9 g10 g11
      subst hA
      have cv := fun p v (g : W.cell? p = some v) => (HW.out.below.cell (p := p) (World.block_lt_of_cell? W _ g)).trans g
      replace g0 := cv _ _ g0
      replace g1 := cv _ _ g1
      replace g2 := cv _ _ g2
      replace g3 := cv _ _ g3
      replace g4 := cv _ _ g4
      replace g5 := cv _ _ g5
      replace g6 := cv _ _ g6
      replace g7 := cv _ _ g7
      replace g8 := cv _ _ g8
      replace g9 := cv _ _ g9
      replace g10 := cv _ _ g10
      replace g11 := cv _ _ g11
      have hsm := small_mem HS.out (rdS_mem hlt)
      have hoS := HO.out _ (rdS_mem hlt)
      have HEN := Aside0.mk (HE.out.trans (open_drop st told hlt))
      have HCO := Aside0.mk (choice_order2 st (rd_T40 l (j : Int)).f0)
      clear cv HE
      generalize rd_T40 l (j : Int) = q at hsm hoS HEN HCO g0 g1 g2 g3 g4 g5 g6 g7 g8 g9 g10 g11 e10 E10
      obtain ⟨⟨p0, p1, p2, p3, ⟨c0, c1, ⟨o0, o1, o2⟩⟩, l9⟩, la, hh⟩ := q
      simp only at hsm g0 g1 g2 g3 g4 g5 g6 g7 g8 g9 g10 g11 e10 E10
      have hj3 : j < 300 := by omega
      obtain ⟨wa, hwa⟩ : ∃ wa, wa = wo.alloc (.cells #[.int .i64 p0, .int .i64 p1, .int .i64 p2, .int .i64 p3, .int .i64 c0, .int .i64 c1, .int .i64 o0, .string o1, .string o2, .slice A9 l9.length k9, .slice A10 la.length k10, .slice A11 hh.length k11] 40) := ⟨_, rfl⟩
      have hBa : Below wo.heap.size wo wa := by rw [hwa]; exact (Below.refl _ wo).alloc (Nat.le_refl _) _
      have bs : wa.heap[wo.heap.size]? = some (.cells #[.int .i64 p0, .int .i64 p1, .int .i64 p2, .int .i64 p3, .int .i64 c0, .int .i64 c1, .int .i64 o0, .string o1, .string o2, .slice A9 l9.length k9, .slice A10 la.length k10, .slice A11 hh.length k11] 40 (0, 0)) := by rw [hwa]; exact blk_new _ _
      have hWa := HW.out.stay hBa
      have hTa := HT.out.same (hBa.block bt HT.out.lt)
      have cC := choice_full hWa (by have := HN.out.1; unfold maxLen; omega) (by have := HN.out.2.2.1; omega) p0 p1 p2 p3 c0 c1 o0 o1 o2 (.slice A9 l9.length k9) l9 hoS.2.1 hoS.1
      have x0 := (blk_cell bs 0).trans rfl
      have x1 := (blk_cell bs 1).trans rfl
      have x2 := (blk_cell bs 2).trans rfl
      have x3 := (blk_cell bs 3).trans rfl
      have x4 := (blk_cell bs 4).trans rfl
      have x5 := (blk_cell bs 5).trans rfl
      have x6 := (blk_cell bs 6).trans rfl
      have x7 := (blk_cell bs 7).trans rfl
      have x8 := (blk_cell bs 8).trans rfl
      have x9 := (blk_cell bs 9).trans rfl
      have HWa := Aside0.mk hWa
      have HTa := Aside0.mk hTa
      have HBS := Aside0.mk bs
      have HOA := Aside0.mk hoS.2.2.1
      have HE10 := Aside0.mk (And.intro E10 e10)
      have HSM := Aside0.mk hsm.1
      have HC0 := Aside0.mk hoS.2.1
      clear hBa bs hWa hTa hoS E10 e10 hsm HW HT
      go_wp2_with fail
      rw [← hwa]
      clear hwa g0 g1 g2 g3 g4 g5 g6 g7 g8 g9 g10 g11
      refine cC.mono ?_
      rintro e w5 ⟨rfl, hF, vo5, _, H5⟩
      have y10 : w5.cell? ⟨wo.heap.size, 10, none⟩ = some (.slice A10 la.length k10) := (blk_cell ((hF.fr HWa.out).blk HBS.out (by decide) (by decide)) 10).trans rfl
      have HT5 := Aside0.mk (hF.map HWa.out HTa.out HL0.out.1 HL0.out.2.2.1)
      have HW5 := Aside0.mk H5
      clear hF H5 cC x0 x1 x2 x3 x4 x5 x6 x7 x8 x9 HWa HTa HBS
      generalize choiceV st ⟨p0, p1, p2, p3, ⟨c0, c1, ⟨o0, o1, o2⟩⟩, l9⟩ = st1 at HEN HCO HW5
      go_wp2
      go_loopw [29] (fun i wi => ∃ (q : Nat) (told' : Int → Option Bool) (m' : Nat), q ≤ la.length ∧ i = .int .i64 q ∧ Aside0 (la.foldl (toldA st1) told = (la.drop q).foldl (toldA st1) told') ∧ Aside0 (m' ≤ m + q) ∧ Aside0 (WAt W wi bw (n + 1) st1 [] bc bd bf vo5 none 0 none 0) ∧ Aside0 (MapI RB enB wi bt m' told')) (fun i _ => la.length - (intOf i).toNat)
      case atStart => exact ⟨0, told, m, Nat.zero_le _, rfl, ⟨by rw [List.drop_zero]⟩, ⟨Nat.le_refl _⟩, HW5, HT5⟩
      case round =>
        obtain ⟨q, told', m', hq, rfl, HF, HM, HWi, HTi⟩ := hrel
        by_cases hql : q < la.length
        · obtain ⟨ae, A5, k5, hAe, f0, f1, f2, f3, f4, f5, _, _⟩ := at_T45 HE10.out.1 (q : Int) (by omega) (by omega)
          rw [Int.toNat_natCast] at f0 f1 f2 f3 f4 f5
          subst hAe
          have cv := fun p v (g : W.cell? p = some v) => (HWi.out.below.cell (p := p) (World.block_lt_of_cell? W _ g)).trans g
          replace f0 := cv _ _ f0
          replace f1 := cv _ _ f1
          replace f2 := cv _ _ f2
          replace f3 := cv _ _ f3
          replace f4 := cv _ _ f4
          replace f5 := cv _ _ f5
          have hxA := (HOA.out _ (rdA_mem hql)).1
          have HQL := Aside0.mk hql
          have hq3 : la.length ≤ 2000 := HSM.out
          have HFN := Aside0.mk (HF.out.trans (told_drop (toldA st1) told' hql))
          clear cv HF
          generalize rd_T45 la (q : Int) = a at HFN f0 f1 f2 f3 f4 f5 hxA
          obtain ⟨a0, a1, a2, ⟨a3, a4, a5⟩⟩ := a
          simp only at f0 f1 f2 f3 f4 f5 hxA
          obtain ⟨wb, hwb⟩ : ∃ wb, wb = wr.alloc (.cells #[.int .i64 a0, .int .i64 a1, .int .i64 a2, .bool a3, .string a4, .slice A5 a5.length k5] 45) := ⟨_, rfl⟩
          have hBb : Below wr.heap.size wr wb := by rw [hwb]; exact (Below.refl _ wr).alloc (Nat.le_refl _) _
          have ba : wb.heap[wr.heap.size]? = some (.cells #[.int .i64 a0, .int .i64 a1, .int .i64 a2, .bool a3, .string a4, .slice A5 a5.length k5] 45 (0, 0)) := by rw [hwb]; exact blk_new _ _
          have hWb := HWi.out.stay hBb
          have hTb := HTi.out.same (hBb.block bt HTi.out.lt)
          have d0 : wb.cell? ⟨wr.heap.size, 0, none⟩ = some (.int .i64 a0) := (blk_cell ba 0).trans rfl
          have c0' : wb.cell? ⟨bw, 0, none⟩ = some (.map (some bc)) := (blk_cell hWb.block 0).trans rfl
          have z0 : (wb.alloc (.cells #[.int .i64 0, .int .i64 0, .int .i64 0, .string ⟨#[]⟩, .string ⟨#[]⟩] 33)).cell? ⟨bw, 0, none⟩ = some (.map (some bc)) := (blk_cell (blk_alloc hWb.block _) 0).trans rfl
          have z1 : (wb.alloc (.cells #[.int .i64 0, .int .i64 0, .int .i64 0, .string ⟨#[]⟩, .string ⟨#[]⟩] 33)).cell? ⟨wr.heap.size, 0, none⟩ = some (.int .i64 a0) := (blk_cell (blk_alloc ba _) 0).trans rfl
          have hL := fun w (hw : w.heap[bc]? = wb.heap[bc]?) => lookC_ok (W := w) (hWb.calls.same hw) hxA
          have HTA : Aside0 (toldA st1 told' ⟨a0, a1, a2, ⟨a3, a4, a5⟩⟩ = if (st1.calls a0).isSome = true then upd told' a0 true else told') := ⟨rfl⟩
          rw [HTA.out] at HFN
          clear HTA
          generalize (st1.calls a0).getD zeroC = y at hL
          generalize (st1.calls a0).isSome = ok at hL HFN
          obtain ⟨y0, y1, ⟨y2, y3, y4⟩⟩ := y
          simp only [valC] at hL
          have hl0 := hL wb.drew rfl
          have hl1 := hL (wb.alloc (.cells #[.int .i64 0, .int .i64 0, .int .i64 0, .string ⟨#[]⟩, .string ⟨#[]⟩] 33)).drew (Below.heap_alloc _ _ _ hWb.calls.lt)
          have hbw : bw < wb.heap.size := blk_lt hWb.block
          have hbr : wr.heap.size < wb.heap.size := blk_lt ba
          have HWb := Aside0.mk hWb
          have HTb := Aside0.mk hTb
          have HXA := Aside0.mk hxA
          have HBA := Aside0.mk ba
          clear hBb ba hWb hTb hxA hL HWi HTi
          go_wp2
          rw [← hwb]
          clear hwb f0 f1 f2 f3 f4 f5
          go_region
          all_goals
            obtain ⟨w6, hw6⟩ : ∃ w6, w6 = (wb.alloc (.cells #[.int .i64 y0, .int .i64 y1, .int .i64 y2, .string y3, .string y4] 33)).drew := ⟨_, rfl⟩
            rw [← hw6]
            have hB6 : Below wb.heap.size wb w6 := by rw [hw6]; exact ((Below.refl _ wb).alloc (Nat.le_refl _) _).drew
            have hT6 := HTb.out.same (hB6.block bt HTb.out.lt)
            have hW6 := HWb.out.stay hB6
            have d6 : w6.cell? ⟨wr.heap.size, 0, none⟩ = some (.int .i64 a0) := (blk_cell (blk_below HBA.out hB6) 0).trans rfl
            clear hw6 hB6 d0 c0' z0 z1 hl0 hl1 hbw hbr
            cases ok
            · have HF2 : Aside0 (la.foldl (toldA st1) told = (la.drop (q + 1)).foldl (toldA st1) told') := ⟨HFN.out⟩
              have HT6 := Aside0.mk hT6
              have HW6 := Aside0.mk hW6
              clear HFN hT6 hW6 d6
              go_wp2
              go_roundw
              case rel => exact ⟨q + 1, told', m', by have := HQL.out; omega, by go_num, HF2, ⟨by have := HM.out; omega⟩, HW6, HT6⟩
              case measure => have := HQL.out; simp [intOf]; omega
            · have HF2 : Aside0 (la.foldl (toldA st1) told = (la.drop (q + 1)).foldl (toldA st1) (upd told' a0 true)) := ⟨HFN.out⟩
              obtain ⟨w7, hup, hm7, hg7⟩ := storeB hT6 (by have := HM.out; have := HN.out.2.1; have := HSM.out; unfold maxLen; omega) HXA.out true
              have HW7 := Aside0.mk (hW6.other hg7 hT6.is_map HLE.out HL0.out.1 HL0.out.2.1 HL0.out.2.2.1)
              have HT7 := Aside0.mk hm7
              clear HFN hT6 hW6 hm7 hg7
              go_wp2
              go_roundw
              case rel => exact ⟨q + 1, upd told' a0 true, m' + 1, by have := HQL.out; omega, by go_num, HF2, ⟨by have := HM.out; omega⟩, HW7, HT7⟩
              case measure => have := HQL.out; simp [intOf]; omega
        · obtain rfl : q = la.length := by omega
          have HE2 : Aside0 (openS st0 (fun _ => none) l = openS st1 told' (l.drop (j + 1))) := ⟨by rw [HEN.out, HF.out, List.drop_length]; rfl⟩
          have HN2 : Aside0 (n + 1 ≤ j + 1 ∧ m' ≤ 2000 * (j + 1) ∧ st1.order.length ≤ j + 1 ∧ ∀ x ∈ st1.order, (Lit.int .i64 x).wf = true) := ⟨by have := HN.out.1; omega, by have := HN.out.2.1; have := HM.out; have := HSM.out; omega, by have := HN.out.2.2.1; have := HCO.out.1; omega, fun x hx => by
            rcases HCO.out.2 x hx with h | h
            · exact HN.out.2.2.2 x h
            · rw [h]; exact HC0.out⟩
          clear HEN HF
          go_wp2
          go_roundw
          case rel => exact ⟨j + 1, st1, told', n + 1, m', vo5, by omega, by go_num, HE2, HN2, HWi, HTi⟩
          case measure => simp [intOf]; omega
    · obtain rfl : j = l.length := by omega
      have HV : Aside0 (openV l = st.order.filter fun q => !(told q).getD false) := ⟨by unfold openV; rw [HE.out, List.drop_length]; rfl⟩
      have HOL : Aside0 (st.order.length ≤ 300) := ⟨by have := HN.out.2.2.1; omega⟩
      have hol := HOL.out
      obtain ⟨Ao, ko, hvo, hko, hCo⟩ := Kd.R_reads HW.out.order
      have c2 : wo.cell? ⟨bw, 2, none⟩ = some (.slice Ao st.order.length ko) := by rw [← hvo]; exact (blk_cell HW.out.block 2).trans rfl
      have HCo := Aside0.mk hCo
      have HXO := Aside0.mk HN.out.2.2.2
      have HBW := Aside0.mk HW.out.below
      clear hvo hko hCo HE HN HW
      go_wp2
      go_loopw [11, 54] (fun o i wi => ∃ k : Nat, k ≤ st.order.length ∧ i = .int .i64 k ∧ Aside0 (Kd.R kI 3 wi wo.heap.size (fun _ => True) o ((st.order.take k).filter fun q => !(told q).getD false)) ∧ Aside0 (Below wo.heap.size wo wi)) (fun _ i _ => st.order.length - (intOf i).toNat)
      case atStart => exact ⟨0, Nat.zero_le _, rfl, ⟨by rw [List.take_zero]; exact Kd.R_nil _ _ _ _ _⟩, ⟨Below.refl _ _⟩⟩
      case round =>
        obtain ⟨k, hk, rfl, HR, HB3⟩ := hrel
        by_cases hkl : k < st.order.length
        · obtain ⟨ad, hAd, g0⟩ := Kd.at_int (Kd.C_below HCo.out HB3.out) (k : Int) (by omega) (by omega)
          rw [Int.toNat_natCast] at g0
          subst hAd
          have HFN := Aside0.mk (filter_next hkl fun q => !(told q).getD false)
          have hxw : (Lit.int .i64 (rd st.order (k : Int))).wf = true := HXO.out _ (by simp [rd, List.getD_eq_getElem?_getD, hkl])
          have HLEN : Aside0 (((st.order.take k).filter fun q => !(told q).getD false).length ≤ 300) := ⟨by have := List.length_filter_le (fun q => !(told q).getD false) (st.order.take k); rw [List.length_take] at this; omega⟩
          generalize rd st.order (k : Int) = x at g0 HFN hxw
          have hlk := lookB (HT.out.same (HB3.out.block bt HT.out.lt)) hxw
          clear hxw
          generalize (told x).getD false = b at hlk HFN
          cases b
          · have HF2 : Aside0 ((st.order.take (k + 1)).filter (fun q => !(told q).getD false) = (st.order.take k).filter (fun q => !(told q).getD false) ++ [x]) := ⟨HFN.out⟩
            clear HFN
            go_wp2_with ((with_reducible refine gate_builtin (b := .append) (xs := #[.tmp 62, .tmp 64]) rfl ?_); at_builtin; refine Kd.R_append kI (w0 := wo) wo.heap.size rfl (.tmp 62) (.tmp 64) 29 3 (.int .i64 0) 8 rfl Try.underlying29 infoI rfl (by decide) (by omega) _ ((st.order.take k).filter fun q => !(told q).getD false) x [.int .i64 x] (fun _ => True) (fun _ => False) rfl rfl rfl (fun _ hk => hk.elim) (fun _ _ => trivial) HR.out HB3.out HB3.out.size (by have := HLEN.out; omega) ?_; intro v1 w3 hR1 hB1 hg1 hv1; rw [← HF2.out] at hR1; have HR1 := Aside0.mk hR1; have HB1 := Aside0.mk hB1; clear hR1 hB1 hg1 hv1)
            go_roundw
            case rel => exact ⟨k + 1, by omega, by go_num, HR1, HB1⟩
            case measure => simp [intOf]; omega
          · have HF2 : Aside0 ((st.order.take (k + 1)).filter (fun q => !(told q).getD false) = (st.order.take k).filter (fun q => !(told q).getD false)) := ⟨by rw [HFN.out]; simp⟩
            clear HFN
            go_wp2
            go_roundw
            case rel => exact ⟨k + 1, by omega, by go_num, ⟨by rw [HF2.out]; exact HR.out⟩, HB3⟩
            case measure => simp [intOf]; omega
        · obtain rfl : k = st.order.length := by omega
          have HR2 := HR.out
          rw [List.take_length, ← HV.out] at HR2
          obtain ⟨A', c', rfl, hc', hC'⟩ := Kd.R_reads HR2
          have HRES := Aside0.mk (And.intro hc' hC')
          have HLL : Aside0 ((openV l).length ≤ 300) := ⟨by rw [HV.out]; exact Nat.le_trans (List.length_filter_le _ _) HOL.out⟩
          clear HR2 hc' hC' HR
          go_wp2
          go_ret
          exact ⟨⟨A', c', rfl, HRES.out.1, HRES.out.2⟩, HLL.out, HBW.out.trans (HB3.out.mono HBW.out.size)⟩
end Go.Proofs.Ytegfnceepplooaa.TR

set_option linter.unusedVariables false
set_option linter.unusedSimpArgs false
namespace Go.Proofs.Ytegfnceepplooaa.TR
open Go.RowKit Go.Maps Go.Proofs.Ytegfnceepplooaa.FMap Go.Proofs.Ytegfnceepplooaa.PTR Go.Proofs.YtegfnceepplooaaW.PrintWords Go.Proofs.YtegfnceepplooaaW.PrintLast

theorem run_drop (st : St) {l : List Seen} {j : Nat} (h : j < l.length) : runV st (l.drop j) j = if (stepV st (rd_T40 l (j : Int))).1 = 0 then runV (stepV st (rd_T40 l (j : Int))).2 (l.drop (j + 1)) (j + 1) else ((stepV st (rd_T40 l (j : Int))).1, j) := by
  rw [List.drop_eq_getElem_cons h, rdS_at h]
  rfl
theorem answer_order (st : St) (h : List Rec) (a : Ans) : (answerV st h a).2.order = st.order := by
  unfold answerV
  cases st.calls a.f0 with
  | none => rfl
  | some c =>
    show (if knownV st a = true then _ else _ : Int × St).2.order = _
    by_cases h1 : knownV st a = true
    · rw [if_pos h1]
      by_cases h2 : thereV h a c.f2 = true
      · rw [if_pos h2]
        by_cases h3 : asksV a c.f2 = true
        · rw [if_pos h3]
          by_cases h4 : (agR h c.f2 a.f3 ((st.floors a.f1).getD 0)).2 = true
          · rw [if_pos h4]
          · rw [if_neg h4]
        · rw [if_neg h3]
          by_cases h4 : emptyV a c.f2 = true
          · rw [if_pos h4]
          · rw [if_neg h4]
      · rw [if_neg h2]
    · rw [if_neg h1]
theorem answers_order (h : List Rec) : ∀ (l : List Ans) (st : St), (answersV h st l).1 = 0 → (answersV h st l).2.order = st.order
  | [], st, _ => rfl
  | a :: r, st, e => by
    unfold answersV at e ⊢
    by_cases h0 : (answerV st h a).1 = 0
    · rw [if_pos h0] at e ⊢
      rw [answers_order h r _ e]
      exact answer_order st h a
    · rw [if_neg h0] at e
      exact absurd e h0
theorem step_order {st : St} {s : Seen} (h : (stepV st s).1 = 0) : (stepV st s).2.order.length ≤ st.order.length + 1 ∧ (stepV st s).2.before = s.f2 := by
  have hc := choice_order st s.f0
  unfold stepV at h ⊢
  by_cases h1 : (answersV s.f2 (choiceV st s.f0) s.f1).1 = 0
  · have ha := answers_order s.f2 s.f1 (choiceV st s.f0) h1
    rw [if_pos h1] at h ⊢
    split at h
    · rename_i hx
      rw [if_pos hx]
      split at h
      · rename_i hy
        rw [if_pos hy]
        exact ⟨by show (answersV s.f2 (choiceV st s.f0) s.f1).2.order.length ≤ _; rw [ha]; exact hc, rfl⟩
      · exact absurd h (by simp)
    · exact absurd h (by simp)
  · rw [if_neg h1] at h
    exact absurd h h1

set_option maxHeartbeats 8000000 in
set_option maxRecDepth 100000 in
theorem check_any (A : Option Addr) (c : Nat) (l : List Seen) (W : World) (hC : Kd.C kS W A l.length l) (hs : smallL l) (hok : ∀ s ∈ l, okS s) :
    Calls Try.prog 8 #[.slice A l.length c] W fun e W' => e = .returned (.tuple #[.int .i64 (runV st0 l 0).1, .int .i64 ((runV st0 l 0).2 : Nat), .int .i64 0]) ∧ Below W.heap.size W W' := by
  have cX := contains_none A c l W hC hs
  have hn := hs.1
  have d1 : decide ((4096 : Int) < l.length) = false := decide_eq_false (by omega)
  have HC := Aside0.mk hC
  have HS := Aside0.mk hs
  have HO := Aside0.mk hok
  have HB := Aside0.mk (fun W => begin_any W)
  clear hC hs hok
  go_enter Try.func8, Try.ntmps8
  go_wp2_with fail
  refine cX.mono ?_
  rintro e w2 ⟨rfl, hB2⟩
  have HB2 := Aside0.mk hB2
  clear hB2 cX
  go_wp2_with fail
  refine (HB.out w2).mono ?_
  rintro e w3 ⟨rfl, rfl⟩
  have HW0 := Aside0.mk (begW_at w2)
  have HC2 := Aside0.mk (Kd.C_below HC.out HB2.out)
  generalize w2.heap.size + 1 + 1 + 1 = bw at HW0
  generalize w2.heap.size + 1 + 1 = bf at HW0
  generalize w2.heap.size + 1 = bd at HW0
  generalize w2.heap.size = bc at HW0
  obtain ⟨w3, hw3⟩ : ∃ w3, w3 = begW w2 := ⟨_, rfl⟩
  rw [← hw3] at HW0 ⊢
  clear hw3
  go_wp2
  go_loopw [21] (fun i wr => ∃ (j : Nat) (st : St) (n : Nat) (h : List Rec) (vo : Value) (Ab : Option Addr) (cb : Nat) (Ah : Option Addr) (ch : Nat), j ≤ l.length ∧ i = .int .i64 j ∧ Aside0 (runV st0 l 0 = runV st (l.drop j) j) ∧ Aside0 (n ≤ 5000 * j ∧ st.order.length ≤ j ∧ st.before.length ≤ 2000) ∧ Aside0 (WAt w2 wr bw n st h bc bd bf vo Ab cb Ah ch)) (fun i _ => l.length - (intOf i).toNat)
  case atStart => exact ⟨0, st0, 0, [], _, _, _, _, _, Nat.zero_le _, rfl, ⟨by rw [List.drop_zero]⟩, ⟨Nat.zero_le _, Nat.zero_le _, Nat.zero_le _⟩, HW0⟩
  case round =>
    obtain ⟨j, st, n, h, vo, Ab, cb, Ah, ch, hj, rfl, HR, HN, HW⟩ := hrel
    by_cases hlt : j < l.length
    · obtain ⟨ad, A9, k9, A10, k10, A11, k11, hA, g0, g1, g2, g3, g4, g5, g6, g7, g8, g9, g10, g11, _, _, e10, E10, e11, E11⟩ := at_T40 HC2.out (j : Int) (by omega) (by omega)
      rw [Int.toNat_natCast] at g0 g1 g2 g3 g4 g5 g6 g7 g8 g9 g10 g11
      subst hA
      have cv := fun p v (g : w2.cell? p = some v) => (HW.out.below.cell (p := p) (World.block_lt_of_cell? w2 _ g)).trans g
      replace g0 := cv _ _ g0
      replace g1 := cv _ _ g1
      replace g2 := cv _ _ g2
      replace g3 := cv _ _ g3
      replace g4 := cv _ _ g4
      replace g5 := cv _ _ g5
      replace g6 := cv _ _ g6
      replace g7 := cv _ _ g7
      replace g8 := cv _ _ g8
      replace g9 := cv _ _ g9
      replace g10 := cv _ _ g10
      replace g11 := cv _ _ g11
      have hsm := small_mem HS.out (rdS_mem hlt)
      have hoS := HO.out _ (rdS_mem hlt)
      have HRN := Aside0.mk (HR.out.trans (run_drop st hlt))
      have HSO := Aside0.mk (step_order (st := st) (s := rd_T40 l (j : Int)))
      clear cv HR
      generalize rd_T40 l (j : Int) = q at hsm hoS HRN HSO g0 g1 g2 g3 g4 g5 g6 g7 g8 g9 g10 g11 e10 E10 e11 E11
      obtain ⟨⟨p0, p1, p2, p3, ⟨c0, c1, ⟨o0, o1, o2⟩⟩, l9⟩, la, hh⟩ := q
      simp only at hsm g0 g1 g2 g3 g4 g5 g6 g7 g8 g9 g10 g11 e10 E10 e11 E11
      have hj3 : j < 300 := by omega
      have CS := Aside0.mk (fun W (HX : WAt w2 W bw n st h bc bd bf vo Ab cb Ah ch) => step_any HX p0 p1 p2 p3 c0 c1 o0 o1 o2 l9 la hh (.slice A9 l9.length k9) A10 k10 A11 k11 hoS.2.1 hoS.1 hoS.2.2.1 hoS.2.2.2 ⟨E10, e10⟩ ⟨E11, e11⟩ (by have := HN.out; unfold maxLen; omega) (by have := HN.out; omega) (by omega) (by omega) (by have := HN.out; omega))
      have HLA := Aside0.mk hsm
      clear hsm hoS hj3
      go_wp2_with fail
      refine (CS.out _ (HW.out.stay ((Below.refl _ _).alloc (Nat.le_refl _) _))).mono ?_
      rintro e w5 ⟨rfl, hF, hB, hW5⟩
      have HB5 := Aside0.mk hB
      clear hF hB
      generalize stepV st ⟨⟨p0, p1, p2, p3, ⟨c0, c1, ⟨o0, o1, o2⟩⟩, l9⟩, la, hh⟩ = r at HRN HSO hW5 ⊢
      obtain ⟨r1, st2⟩ := r
      by_cases h0 : r1 = 0
      · subst h0
        obtain ⟨vo5, H5⟩ := hW5 rfl
        have HW5 := Aside0.mk H5
        have HR2 : Aside0 (runV st0 l 0 = runV st2 (l.drop (j + 1)) (j + 1)) := ⟨HRN.out⟩
        have HO2 := Aside0.mk (HSO.out rfl)
        clear hW5 H5 HRN HSO
        go_wp2
        go_roundw
        case rel => exact ⟨j + 1, st2, n + 1 + 2 * la.length, hh, vo5, A11, k11, A11, k11, by omega, by go_num, HR2, ⟨by have := HN.out; have := HLA.out; omega, by have := HN.out; have : st2.order.length ≤ st.order.length + 1 := HO2.out.1; omega, by have : st2.before = hh := HO2.out.2; rw [this]; exact HLA.out.2⟩, HW5⟩
        case measure => simp [intOf]; omega
      · have hb1 : (r1 != 0) = true := by simpa using h0
        have hb2 : (r1 == 0) = false := by simpa using h0
        have HRES : Aside0 (runV st0 l 0 = (r1, j)) := ⟨by rw [HRN.out, if_neg h0]⟩
        clear hW5 HRN HSO h0
        go_wp2
        go_ret3
        exact ⟨by rw [HRES.out]; rfl, HB2.out.trans (HB5.out.mono HB2.out.size)⟩
    · obtain rfl : j = l.length := by omega
      have HRES : Aside0 (runV st0 l 0 = (0, 0)) := ⟨by rw [HR.out, List.drop_length]; rfl⟩
      go_wp2
      go_ret3
      exact ⟨by rw [HRES.out]; rfl, HB2.out.trans (HW.out.below.mono HB2.out.size)⟩
end Go.Proofs.Ytegfnceepplooaa.TR

set_option linter.unusedVariables false
set_option linter.unusedSimpArgs false
namespace Go.Proofs.Ytegfnceepplooaa.TR
open Go.RowKit Go.Maps Go.Proofs.Ytegfnceepplooaa.FMap Go.Proofs.Ytegfnceepplooaa.PTR Go.Proofs.YtegfnceepplooaaW.PrintWords Go.Proofs.YtegfnceepplooaaW.PrintLast

theorem C_lit {α : Type} (d : Kd α) {w : World} {b : Nat} {cs : Array Value} {t : TypeId} (hb : w.heap[b]? = some (.cells cs t (0, 0))) (xs : List α) (h : Reps (d.K w) d.sz xs cs.toList) (hl : xs.length ≤ 9223372036854775807) : Kd.C d w (some ⟨b, 0, none⟩) xs.length xs := by
  refine ⟨rfl, hl, fun _ => ⟨⟨b, 0, none⟩, rfl, fun j p hj => ⟨(cs.toList.drop (j * d.sz)).take d.sz, ?_, h.2 j p hj, fun i u hi => ?_⟩⟩⟩
  · have hjl := (List.getElem?_eq_some_iff.1 hj).1
    have : (j + 1) * d.sz ≤ xs.length * d.sz := Nat.mul_le_mul_right _ (by omega)
    rw [List.length_take, List.length_drop, h.1]
    rw [Nat.add_mul, Nat.one_mul] at this
    omega
  · have hi2 : i < d.sz := by
      have := (List.getElem?_eq_some_iff.1 hi).1
      rw [List.length_take] at this
      omega
    rw [List.getElem?_take, if_pos hi2, List.getElem?_drop] at hi
    have e : (⟨b, 0, none⟩ : Addr).add (j * d.sz + i) = ⟨b, j * d.sz + i, none⟩ := by simp [Addr.add]; intros; omega
    rw [e, blk_cell hb]
    simpa using hi
theorem wfz : (Lit.int .i64 0).wf = true := by decide
theorem okS_put {r : Int} (hr : (Lit.int .i64 r).wf = true) {la : List Ans} {hh : List Rec} (ha : ∀ a ∈ la, okA a) (hh' : ∀ x ∈ hh, (Lit.int .i64 x.f5).wf = true) : okS ⟨cPut r, la, hh⟩ := ⟨wfz, hr, ha, hh'⟩
theorem okS_nil {la : List Ans} {hh : List Rec} (ha : ∀ a ∈ la, okA a) (hh' : ∀ x ∈ hh, (Lit.int .i64 x.f5).wf = true) : okS ⟨cNil, la, hh⟩ := ⟨wfz, wfz, ha, hh'⟩
theorem ok_lOK : ∀ a ∈ lOK, okA a := fun a h => by
  obtain rfl := List.mem_singleton.1 h
  exact ⟨by decide, by decide, by decide⟩
theorem ok_lH : ∀ r ∈ lH, (Lit.int .i64 r.f5).wf = true := fun a h => by
  obtain rfl := List.mem_singleton.1 h
  decide
theorem ok_two {x y : Seen} (h1 : okS x) (h2 : okS y) : ∀ s ∈ [x, y], okS s := fun s h => by
  rcases List.mem_cons.1 h with rfl | h
  · exact h1
  · obtain rfl := List.mem_singleton.1 h
    exact h2
theorem ok_T1 : ∀ s ∈ T1, okS s := ok_two (okS_put (by decide) (fun _ h => by cases h) (fun _ h => by cases h)) (okS_nil ok_lOK ok_lH)
theorem ok_T2 : ∀ s ∈ T2, okS s := ok_two (okS_put (by decide) (fun _ h => by cases h) (fun _ h => by cases h)) (okS_nil ok_lOK (fun _ h => by cases h))
theorem ok_T3 : ∀ s ∈ T3, okS s := ok_two (okS_put (by decide) ok_lOK ok_lH) (okS_nil ok_lOK ok_lH)
theorem ok_T4 : ∀ s ∈ T4, okS s := fun s h => by
  obtain rfl := List.mem_singleton.1 h
  exact okS_put (by decide) (fun _ h => by cases h) (fun _ h => by cases h)
theorem sm_T1 : smallL T1 := by unfold smallL; decide
theorem sm_T2 : smallL T2 := by unfold smallL; decide
theorem sm_T3 : smallL T3 := by unfold smallL; decide
theorem sm_T4 : smallL T4 := by unfold smallL; decide

abbrev putC (r : Int) (v9 v10 v11 : Value) : List Value := [.int .i64 1, .int .i64 0, .int .i64 0, .int .i64 0, .int .i64 r, .int .i64 0, .int .i64 2, .string ⟨#[97]⟩, .string ⟨#[120]⟩, v9, v10, v11]
abbrev nilC (v10 v11 : Value) : List Value := [.int .i64 0, .int .i64 0, .int .i64 0, .int .i64 0, .int .i64 0, .int .i64 0, .int .i64 0, .string ⟨#[]⟩, .string ⟨#[]⟩, .slice none 0 0, v10, v11]
section
variable {w : World} {A9 A10 A11 : Option Addr} {c9 c10 c11 : Nat} {la : List Ans} {hh : List Rec}
theorem K_put (r : Int) (g10 : k45.C w A10 la.length la) (l10 : la.length ≤ c10) (g11 : kR.C w A11 hh.length hh) (l11 : hh.length ≤ c11) :
    kS.K w ⟨cPut r, la, hh⟩ (putC r (.slice none 0 0) (.slice A10 la.length c10) (.slice A11 hh.length c11)) := k40_mk w ⟨cPut r, la, hh⟩ (Nat.zero_le _) (Kd.C_nil _ _) l10 g10 l11 g11
theorem K_nil (g10 : k45.C w A10 la.length la) (l10 : la.length ≤ c10) (g11 : kR.C w A11 hh.length hh) (l11 : hh.length ≤ c11) :
    kS.K w ⟨cNil, la, hh⟩ (nilC (.slice A10 la.length c10) (.slice A11 hh.length c11)) := k40_mk w ⟨cNil, la, hh⟩ (Nat.zero_le _) (Kd.C_nil _ _) l10 g10 l11 g11
theorem lit2 {b : Nat} {x1 x2 : Seen} {d1 d2 : List Value} (hb : w.heap[b]? = some (.cells (d1 ++ d2).toArray 40 (0, 0))) (h1 : kS.K w x1 d1) (h2 : kS.K w x2 d2) (e1 : d1.length = 12) (e2 : d2.length = 12) : Kd.C kS w (some ⟨b, 0, none⟩) [x1, x2].length [x1, x2] :=
  C_lit kS hb [x1, x2] (Reps.front h1 e1 (Reps.front h2 e2 (Reps.none _ _) (List.append_nil _)) rfl) (by simp)
theorem lit1 {b : Nat} {x1 : Seen} {d1 : List Value} (hb : w.heap[b]? = some (.cells d1.toArray 40 (0, 0))) (h1 : kS.K w x1 d1) (e1 : d1.length = 12) : Kd.C kS w (some ⟨b, 0, none⟩) [x1].length [x1] :=
  C_lit kS hb [x1] (Reps.front h1 e1 (Reps.none _ _) (List.append_nil _)) (by simp)
end
set_option maxHeartbeats 8000000 in
set_option maxRecDepth 100000 in
theorem speaks_any (W : World) : Calls Try.prog 7 #[] W fun e W' => e = .returned (.bool true) ∧ Below W.heap.size W W' := by
  obtain ⟨W2, hW2⟩ : ∃ W2, W2 = (W.alloc (.cells #[.int .i64 1, .int .i64 0, .int .i64 7, .int .i64 0, .int .i64 1, .int .i64 1, .string ⟨#[97]⟩, .string ⟨#[120]⟩] 50)).alloc (.cells #[.int .i64 1, .int .i64 0, .int .i64 1, .bool false, .string ⟨#[]⟩, .slice none 0 0] 45) := ⟨_, rfl⟩
  have HB2 : Aside0 (Below W.heap.size W W2) := ⟨by rw [hW2]; exact ((Below.refl _ W).alloc (Nat.le_refl _) _).alloc (by simp) _⟩
  have HG11 : Aside0 (Kd.C kR W2 (some ⟨W.heap.size, 0, none⟩) lH.length lH) := ⟨by
    rw [hW2]
    exact C_lit kR (blk_alloc (blk_new W _) _) lH (Reps.front (k50_mk _ ⟨1, 0, 7, 0, 1, 1, ⟨#[97]⟩, ⟨#[120]⟩⟩) rfl (Reps.none _ _) rfl) (by decide)⟩
  have HG10 : Aside0 (Kd.C k45 W2 (some ⟨W.heap.size + 1, 0, none⟩) lOK.length lOK) := ⟨by
    rw [hW2]
    have := blk_new (W.alloc (.cells #[.int .i64 1, .int .i64 0, .int .i64 7, .int .i64 0, .int .i64 1, .int .i64 1, .string ⟨#[97]⟩, .string ⟨#[120]⟩] 50)) (.cells #[.int .i64 1, .int .i64 0, .int .i64 1, .bool false, .string ⟨#[]⟩, .slice none 0 0] 45)
    rw [World.size_alloc] at this
    exact C_lit k45 this lOK (Reps.front (k45_mk _ ⟨1, 0, 1, ⟨false, ⟨#[]⟩, []⟩⟩ (A5 := none) (c5 := 0) (Nat.le_refl _) (Kd.C_nil _ _)) rfl (Reps.none _ _) rfl) (by decide)⟩
  go_enter Try.func7, Try.ntmps7
  go_wp2_with fail
  rw [← hW2]
  clear hW2
  refine (put_any 1 W2).mono ?_
  rintro e w3 ⟨rfl, hB⟩
  have HP1 : Aside0 (Below W2.heap.size W2 w3) := ⟨hB⟩
  clear hB
  go_wp2_with fail
  have cK1 : Calls Try.prog 8 #[.slice (some ⟨w3.heap.size, 0, none⟩) 2 2] (w3.alloc (.cells (putC 1 (.slice none 0 0) (.slice none 0 0) (.slice none 0 0) ++ nilC (.slice (some ⟨W.heap.size + 1, 0, none⟩) 1 1) (.slice (some ⟨W.heap.size, 0, none⟩) 1 1)).toArray 40)) fun e W' => e = .returned (.tuple #[.int .i64 0, .int .i64 0, .int .i64 0]) ∧ Below (w3.alloc (.cells (putC 1 (.slice none 0 0) (.slice none 0 0) (.slice none 0 0) ++ nilC (.slice (some ⟨W.heap.size + 1, 0, none⟩) 1 1) (.slice (some ⟨W.heap.size, 0, none⟩) 1 1)).toArray 40)).heap.size (w3.alloc (.cells (putC 1 (.slice none 0 0) (.slice none 0 0) (.slice none 0 0) ++ nilC (.slice (some ⟨W.heap.size + 1, 0, none⟩) 1 1) (.slice (some ⟨W.heap.size, 0, none⟩) 1 1)).toArray 40)) W' := by
    have hB : Below W2.heap.size W2 (w3.alloc (.cells (putC 1 (.slice none 0 0) (.slice none 0 0) (.slice none 0 0) ++ nilC (.slice (some ⟨W.heap.size + 1, 0, none⟩) 1 1) (.slice (some ⟨W.heap.size, 0, none⟩) 1 1)).toArray 40)) := HP1.out.alloc HP1.out.size _
    have h10 := Kd.C_below HG10.out hB
    have h11 := Kd.C_below HG11.out hB
    have := check_any (some ⟨w3.heap.size, 0, none⟩) 2 T1 _ (lit2 (blk_new w3 (.cells (putC 1 (.slice none 0 0) (.slice none 0 0) (.slice none 0 0) ++ nilC (.slice (some ⟨W.heap.size + 1, 0, none⟩) 1 1) (.slice (some ⟨W.heap.size, 0, none⟩) 1 1)).toArray 40)) (K_put 1 (A10 := none) (c10 := 0) (la := []) (A11 := none) (c11 := 0) (hh := []) (Kd.C_nil _ _) (Nat.le_refl _) (Kd.C_nil _ _) (Nat.le_refl _)) (K_nil (la := lOK) (hh := lH) h10 (Nat.le_refl _) h11 (Nat.le_refl _)) rfl rfl) sm_T1 ok_T1
    rw [run_T1] at this
    exact this
  refine cK1.mono ?_
  rintro e w4 ⟨rfl, hB⟩
  have HQ1 : Aside0 (Below W2.heap.size W2 w4) := ⟨(HP1.out.alloc HP1.out.size _).trans (hB.mono (HP1.out.alloc HP1.out.size _).size)⟩
  clear hB cK1
  go_wp2_with fail
  refine (put_any 1 w4).mono ?_
  rintro e w5 ⟨rfl, hB⟩
  have HP2 : Aside0 (Below W2.heap.size W2 w5) := ⟨HQ1.out.trans (hB.mono HQ1.out.size)⟩
  clear hB
  go_wp2_with fail
  have cK2 : Calls Try.prog 8 #[.slice (some ⟨w5.heap.size, 0, none⟩) 2 2] (w5.alloc (.cells (putC 1 (.slice none 0 0) (.slice none 0 0) (.slice none 0 0) ++ nilC (.slice (some ⟨W.heap.size + 1, 0, none⟩) 1 1) (.slice none 0 0)).toArray 40)) fun e W' => e = .returned (.tuple #[.int .i64 3, .int .i64 1, .int .i64 0]) ∧ Below (w5.alloc (.cells (putC 1 (.slice none 0 0) (.slice none 0 0) (.slice none 0 0) ++ nilC (.slice (some ⟨W.heap.size + 1, 0, none⟩) 1 1) (.slice none 0 0)).toArray 40)).heap.size (w5.alloc (.cells (putC 1 (.slice none 0 0) (.slice none 0 0) (.slice none 0 0) ++ nilC (.slice (some ⟨W.heap.size + 1, 0, none⟩) 1 1) (.slice none 0 0)).toArray 40)) W' := by
    have hB : Below W2.heap.size W2 (w5.alloc (.cells (putC 1 (.slice none 0 0) (.slice none 0 0) (.slice none 0 0) ++ nilC (.slice (some ⟨W.heap.size + 1, 0, none⟩) 1 1) (.slice none 0 0)).toArray 40)) := HP2.out.alloc HP2.out.size _
    have h10 := Kd.C_below HG10.out hB
    have h11 := Kd.C_below HG11.out hB
    have := check_any (some ⟨w5.heap.size, 0, none⟩) 2 T2 _ (lit2 (blk_new w5 (.cells (putC 1 (.slice none 0 0) (.slice none 0 0) (.slice none 0 0) ++ nilC (.slice (some ⟨W.heap.size + 1, 0, none⟩) 1 1) (.slice none 0 0)).toArray 40)) (K_put 1 (A10 := none) (c10 := 0) (la := []) (A11 := none) (c11 := 0) (hh := []) (Kd.C_nil _ _) (Nat.le_refl _) (Kd.C_nil _ _) (Nat.le_refl _)) (K_nil (la := lOK) (hh := []) (A11 := none) (c11 := 0) h10 (Nat.le_refl _) (Kd.C_nil _ _) (Nat.le_refl _)) rfl rfl) sm_T2 ok_T2
    rw [run_T2] at this
    exact this
  refine cK2.mono ?_
  rintro e w6 ⟨rfl, hB⟩
  have HQ2 : Aside0 (Below W2.heap.size W2 w6) := ⟨(HP2.out.alloc HP2.out.size _).trans (hB.mono (HP2.out.alloc HP2.out.size _).size)⟩
  clear hB cK2
  go_wp2_with fail
  refine (put_any 1 w6).mono ?_
  rintro e w7 ⟨rfl, hB⟩
  have HP3 : Aside0 (Below W2.heap.size W2 w7) := ⟨HQ2.out.trans (hB.mono HQ2.out.size)⟩
  clear hB
  go_wp2_with fail
  have cK3 : Calls Try.prog 8 #[.slice (some ⟨w7.heap.size, 0, none⟩) 2 2] (w7.alloc (.cells (putC 1 (.slice none 0 0) (.slice (some ⟨W.heap.size + 1, 0, none⟩) 1 1) (.slice (some ⟨W.heap.size, 0, none⟩) 1 1) ++ nilC (.slice (some ⟨W.heap.size + 1, 0, none⟩) 1 1) (.slice (some ⟨W.heap.size, 0, none⟩) 1 1)).toArray 40)) fun e W' => e = .returned (.tuple #[.int .i64 2, .int .i64 1, .int .i64 0]) ∧ Below (w7.alloc (.cells (putC 1 (.slice none 0 0) (.slice (some ⟨W.heap.size + 1, 0, none⟩) 1 1) (.slice (some ⟨W.heap.size, 0, none⟩) 1 1) ++ nilC (.slice (some ⟨W.heap.size + 1, 0, none⟩) 1 1) (.slice (some ⟨W.heap.size, 0, none⟩) 1 1)).toArray 40)).heap.size (w7.alloc (.cells (putC 1 (.slice none 0 0) (.slice (some ⟨W.heap.size + 1, 0, none⟩) 1 1) (.slice (some ⟨W.heap.size, 0, none⟩) 1 1) ++ nilC (.slice (some ⟨W.heap.size + 1, 0, none⟩) 1 1) (.slice (some ⟨W.heap.size, 0, none⟩) 1 1)).toArray 40)) W' := by
    have hB : Below W2.heap.size W2 (w7.alloc (.cells (putC 1 (.slice none 0 0) (.slice (some ⟨W.heap.size + 1, 0, none⟩) 1 1) (.slice (some ⟨W.heap.size, 0, none⟩) 1 1) ++ nilC (.slice (some ⟨W.heap.size + 1, 0, none⟩) 1 1) (.slice (some ⟨W.heap.size, 0, none⟩) 1 1)).toArray 40)) := HP3.out.alloc HP3.out.size _
    have h10 := Kd.C_below HG10.out hB
    have h11 := Kd.C_below HG11.out hB
    have := check_any (some ⟨w7.heap.size, 0, none⟩) 2 T3 _ (lit2 (blk_new w7 (.cells (putC 1 (.slice none 0 0) (.slice (some ⟨W.heap.size + 1, 0, none⟩) 1 1) (.slice (some ⟨W.heap.size, 0, none⟩) 1 1) ++ nilC (.slice (some ⟨W.heap.size + 1, 0, none⟩) 1 1) (.slice (some ⟨W.heap.size, 0, none⟩) 1 1)).toArray 40)) (K_put 1 (la := lOK) (hh := lH) h10 (Nat.le_refl _) h11 (Nat.le_refl _)) (K_nil (la := lOK) (hh := lH) h10 (Nat.le_refl _) h11 (Nat.le_refl _)) rfl rfl) sm_T3 ok_T3
    rw [run_T3] at this
    exact this
  refine cK3.mono ?_
  rintro e w8 ⟨rfl, hB⟩
  have HQ3 : Aside0 (Below W2.heap.size W2 w8) := ⟨(HP3.out.alloc HP3.out.size _).trans (hB.mono (HP3.out.alloc HP3.out.size _).size)⟩
  clear hB cK3
  go_wp2_with fail
  refine (put_any 4 w8).mono ?_
  rintro e w9 ⟨rfl, hB⟩
  have HP4 : Aside0 (Below W2.heap.size W2 w9) := ⟨HQ3.out.trans (hB.mono HQ3.out.size)⟩
  clear hB
  go_wp2_with fail
  have cO : Calls Try.prog 10 #[.slice (some ⟨w9.heap.size, 0, none⟩) 1 1] (w9.alloc (.cells (putC 4 (.slice none 0 0) (.slice none 0 0) (.slice none 0 0)).toArray 40)) fun e W' => (∃ A' c', e = .returned (.slice A' 1 c') ∧ 1 ≤ c' ∧ Kd.C kI W' A' 1 [4]) ∧ Below (w9.alloc (.cells (putC 4 (.slice none 0 0) (.slice none 0 0) (.slice none 0 0)).toArray 40)).heap.size (w9.alloc (.cells (putC 4 (.slice none 0 0) (.slice none 0 0) (.slice none 0 0)).toArray 40)) W' := by
    have := open_any (some ⟨w9.heap.size, 0, none⟩) 1 T4 _ (lit1 (blk_new w9 (.cells (putC 4 (.slice none 0 0) (.slice none 0 0) (.slice none 0 0)).toArray 40)) (K_put 4 (A10 := none) (c10 := 0) (la := []) (A11 := none) (c11 := 0) (hh := []) (Kd.C_nil _ _) (Nat.le_refl _) (Kd.C_nil _ _) (Nat.le_refl _)) rfl) sm_T4 ok_T4
    rw [open_T4] at this
    exact this.mono fun e W' h => ⟨h.1, h.2.2⟩
  refine cO.mono ?_
  rintro e w10 ⟨⟨A', c', rfl, hc', hC'⟩, hB⟩
  have HQ4 : Aside0 (Below W2.heap.size W2 w10) := ⟨(HP4.out.alloc HP4.out.size _).trans (hB.mono (HP4.out.alloc HP4.out.size _).size)⟩
  have HC' := Aside0.mk (And.intro hC' hc')
  clear hB cO hC' hc'
  go_wp2_with fail
  have cI := ints_any A' (some ⟨w10.heap.size, 0, none⟩) c' 1 [4] (w10.alloc (.cells #[.int .i64 4] 3)) (Kd.C_alloc HC'.out.1 _) HC'.out.2 (C_lit kI (blk_new w10 (.cells #[.int .i64 4] 3)) [4] (Reps.one rfl (Reps.none _ _)) (by decide)) (Nat.le_refl _) (by decide)
  refine cI.mono ?_
  rintro e w11 ⟨rfl, hB⟩
  have HB11 : Aside0 (Below W.heap.size W w11) := ⟨HB2.out.trans (((HQ4.out.alloc HQ4.out.size _).trans (hB.mono (HQ4.out.alloc HQ4.out.size _).size)).mono HB2.out.size)⟩
  clear hB cI
  go_wp2
  go_ret
  exact ⟨rfl, HB11.out⟩
end Go.Proofs.Ytegfnceepplooaa.TR

set_option linter.unusedVariables false
set_option linter.unusedSimpArgs false
namespace Go.Proofs.Ytegfnceepplooaa.TR
open Go.RowKit Go.Maps Go.Proofs.Ytegfnceepplooaa.FMap Go.Proofs.Ytegfnceepplooaa.PTR Go.Proofs.YtegfnceepplooaaW.PrintWords Go.Proofs.YtegfnceepplooaaW.PrintLast

def made (t : List Seen) (q : Int) : Bool := t.any fun s => (s.f0.f0 == 1) && (s.f0.f4.f0 == q)
def answd (t : List Seen) (q : Int) : Bool := t.any fun s => s.f1.any fun a => a.f0 == q
/-- The requests of the calls, each where it is made first; pre: the steps ahead. -/
def ordL : List Seen → List Seen → List Int
  | _, [] => []
  | pre, s :: r => (if ((s.f0.f0 == 1) && !made pre s.f0.f4.f0) = true then [s.f0.f4.f0] else []) ++ ordL (pre ++ [s]) r
theorem ordL_snoc (s : Seen) : ∀ (x pre : List Seen), ordL pre (x ++ [s]) = ordL pre x ++ (if ((s.f0.f0 == 1) && !made (pre ++ x) s.f0.f4.f0) = true then [s.f0.f4.f0] else [])
  | [], pre => by simp [ordL]
  | y :: x, pre => by
    rw [List.cons_append]
    simp only [ordL]
    rw [ordL_snoc s x (pre ++ [y]), List.append_assoc, List.append_assoc, List.singleton_append]
theorem ordL_len : ∀ (t pre : List Seen), (ordL pre t).length ≤ t.length
  | [], pre => by simp [ordL]
  | s :: r, pre => by
    have := ordL_len r (pre ++ [s])
    simp only [ordL]
    split <;> simp <;> omega
theorem made_snoc (pre : List Seen) (s : Seen) (q : Int) : made (pre ++ [s]) q = (made pre q || ((s.f0.f0 == 1) && (s.f0.f4.f0 == q))) := by simp [made]
theorem answd_snoc (pre : List Seen) (s : Seen) (q : Int) : answd (pre ++ [s]) q = (answd pre q || s.f1.any fun a => a.f0 == q) := by simp [answd]
theorem choice_calls (st so : St) (c : Cho) (h : st.calls = so.calls) : (choiceV st c).calls = (choiceV so c).calls := by
  unfold choiceV
  split
  · rw [h]
    cases so.calls c.f4.f0 with
    | none => rfl
    | some y => exact h
  · split <;> exact h
theorem choice_made (st : St) (pre : List Seen) (s : Seen) (h : ∀ q, (st.calls q).isSome = made pre q) : (∀ q, ((choiceV st s.f0).calls q).isSome = made (pre ++ [s]) q) ∧ (choiceV st s.f0).order = st.order ++ (if ((s.f0.f0 == 1) && !made pre s.f0.f4.f0) = true then [s.f0.f4.f0] else []) := by
  have h0 := h s.f0.f4.f0
  unfold choiceV
  by_cases h1 : s.f0.f0 = 1
  · rw [if_pos h1]
    have h1b : (s.f0.f0 == 1) = true := by simpa using h1
    cases hc : st.calls s.f0.f4.f0 with
    | none =>
      rw [hc] at h0
      simp only [Option.isSome_none] at h0
      refine ⟨fun q => ?_, by rw [← h0, h1b]; rfl⟩
      rw [made_snoc, h1b, Bool.true_and, ← h q]
      show (upd st.calls s.f0.f4.f0 s.f0.f4 q).isSome = _
      unfold upd
      by_cases e : q = s.f0.f4.f0
      · rw [if_pos e, e]; simp
      · rw [if_neg e, show (s.f0.f4.f0 == q) = false by simpa using fun h => e h.symm, Bool.or_false]
    | some y =>
      rw [hc] at h0
      simp only [Option.isSome_some] at h0
      refine ⟨fun q => ?_, by rw [← h0, h1b]; simp⟩
      rw [made_snoc, h1b, Bool.true_and, h q]
      by_cases e : q = s.f0.f4.f0
      · rw [e, ← h0]; rfl
      · rw [show (s.f0.f4.f0 == q) = false by simpa using fun h => e h.symm, Bool.or_false]
  · have h1b : (s.f0.f0 == 1) = false := by simpa using h1
    rw [if_neg h1]
    have hm : ∀ q, made (pre ++ [s]) q = made pre q := fun q => by rw [made_snoc, h1b]; simp
    split
    · exact ⟨fun q => by rw [hm]; exact h q, by rw [h1b]; simp⟩
    · exact ⟨fun q => by rw [hm]; exact h q, by rw [h1b]; simp⟩
theorem order_ordL : ∀ (t pre : List Seen) (st : St) (told : Int → Option Bool), (∀ q, (st.calls q).isSome = made pre q) → (openS st told t).1.order = st.order ++ ordL pre t
  | [], pre, st, told, h => by simp [openS, ordL]
  | s :: r, pre, st, told, h => by
    obtain ⟨h1, h2⟩ := choice_made st pre s h
    simp only [openS, ordL]
    rw [order_ordL r (pre ++ [s]) _ _ h1, h2, List.append_assoc]
/-! ### the answers -/
theorem answer_calls (st : St) (h : List Rec) (a : Ans) : (answerV st h a).2.calls = st.calls := by
  unfold answerV
  cases st.calls a.f0 with
  | none => rfl
  | some c =>
    show (if knownV st a = true then _ else _ : Int × St).2.calls = _
    by_cases h1 : knownV st a = true
    · rw [if_pos h1]
      by_cases h2 : thereV h a c.f2 = true
      · rw [if_pos h2]
        by_cases h3 : asksV a c.f2 = true
        · rw [if_pos h3]
          by_cases h4 : (agR h c.f2 a.f3 ((st.floors a.f1).getD 0)).2 = true
          · rw [if_pos h4]
          · rw [if_neg h4]
        · rw [if_neg h3]
          by_cases h4 : emptyV a c.f2 = true
          · rw [if_pos h4]
          · rw [if_neg h4]
      · rw [if_neg h2]
    · rw [if_neg h1]
theorem answer_known {st : St} {h : List Rec} {a : Ans} (e : (answerV st h a).1 = 0) : (st.calls a.f0).isSome = true ∧ knownV st a = true := by
  unfold answerV at e
  cases hc : st.calls a.f0 with
  | none => rw [hc] at e; exact absurd e (by simp)
  | some c =>
    refine ⟨rfl, ?_⟩
    rw [hc] at e
    simp only at e
    by_cases h1 : knownV st a = true
    · exact h1
    · rw [if_neg h1] at e
      exact absurd e (by simp)
theorem answers_calls (h : List Rec) : ∀ (l : List Ans) (st : St), (answersV h st l).2.calls = st.calls
  | [], st => rfl
  | a :: r, st => by
    unfold answersV
    by_cases h0 : (answerV st h a).1 = 0
    · rw [if_pos h0, answers_calls h r, answer_calls]
    · rw [if_neg h0, answer_calls]
theorem answers_known (h : List Rec) : ∀ (l : List Ans) (st : St), (answersV h st l).1 = 0 → ∀ a ∈ l, (st.calls a.f0).isSome = true
  | [], st, e, a, ha => by cases ha
  | b :: r, st, e, a, ha => by
    unfold answersV at e
    by_cases h0 : (answerV st h b).1 = 0
    · rw [if_pos h0] at e
      rcases List.mem_cons.1 ha with rfl | ha
      · exact (answer_known h0).1
      · have := answers_known h r _ e a ha
        rwa [answer_calls] at this
    · rw [if_neg h0] at e
      exact absurd e h0
theorem step_calls {st : St} {s : Seen} (h : (stepV st s).1 = 0) : (answersV s.f2 (choiceV st s.f0) s.f1).1 = 0 ∧ (stepV st s).2.calls = (choiceV st s.f0).calls := by
  by_cases h1 : (answersV s.f2 (choiceV st s.f0) s.f1).1 = 0
  · refine ⟨h1, ?_⟩
    have h2 := answers_calls s.f2 s.f1 (choiceV st s.f0)
    unfold stepV
    rw [if_pos h1]
    split
    · split <;> exact h2
    · exact h2
  · unfold stepV at h
    rw [if_neg h1] at h
    exact absurd h h1
theorem told_all (so : St) (q : Int) : ∀ (l : List Ans) (told : Int → Option Bool), (∀ a ∈ l, (so.calls a.f0).isSome = true) → ((l.foldl (toldA so) told) q).getD false = ((told q).getD false || l.any fun a => a.f0 == q)
  | [], told, h => by simp
  | a :: r, told, h => by
    rw [List.foldl_cons, told_all so q r _ (fun b hb => h b (List.mem_cons_of_mem _ hb)), List.any_cons]
    have e : toldA so told a = upd told a.f0 true := by
      unfold toldA
      rw [if_pos (h a (List.mem_cons_self ..))]
    rw [e]
    unfold upd
    by_cases e2 : q = a.f0
    · rw [if_pos e2, e2]; simp
    · rw [if_neg e2, show (a.f0 == q) = false by simpa using fun h => e2 h.symm]; simp
theorem open_told (q : Int) : ∀ (t : List Seen) (st so : St) (told : Int → Option Bool) (i : Nat), st.calls = so.calls → (runV st t i).1 = 0 → ((openS so told t).2 q).getD false = ((told q).getD false || answd t q)
  | [], st, so, told, i, hc, hr => by simp [openS, answd]
  | s :: r, st, so, told, i, hc, hr => by
    unfold runV at hr
    by_cases h0 : (stepV st s).1 = 0
    · rw [if_pos h0] at hr
      obtain ⟨h1, h2⟩ := step_calls h0
      have h3 := choice_calls st so s.f0 hc
      simp only [openS]
      rw [open_told q r (stepV st s).2 (choiceV so s.f0) _ (i + 1) (h2.trans h3) hr, told_all]
      · simp [answd, Bool.or_assoc]
      · rw [← h3]
        exact answers_known _ _ _ h1
    · rw [if_neg h0] at hr
      exact absurd hr h0
/-- What is wanted behind the first j steps. -/
def wantAt (t : List Seen) (j : Nat) : List Int := (ordL [] (t.take j)).filter fun q => !answd t q
theorem want_open {t : List Seen} (h : (runV st0 t 0).1 = 0) : wantAt t t.length = openV t := by
  unfold wantAt openV
  rw [List.take_length, order_ordL t [] st0 _ (fun q => rfl)]
  show _ = List.filter _ (ordL [] t)
  congr 1
  funext q
  rw [open_told q t st0 st0 _ 0 rfl h]
  simp
theorem want_len (t : List Seen) (j : Nat) : (wantAt t j).length ≤ t.length := by
  unfold wantAt
  refine Nat.le_trans (List.length_filter_le _ _) (Nat.le_trans (ordL_len _ _) ?_)
  rw [List.length_take]
  omega
theorem want_next {t : List Seen} {j : Nat} (h : j < t.length) : wantAt t (j + 1) = wantAt t j ++ (if ((t[j].f0.f0 == 1) && (!made (t.take j) t[j].f0.f4.f0 && !answd t t[j].f0.f4.f0)) = true then [t[j].f0.f4.f0] else []) := by
  unfold wantAt
  rw [List.take_succ_eq_append_getElem h, ordL_snoc, List.filter_append, List.nil_append]
  congr 1
  have hx : ∀ (a b : Bool) (x : Int), List.filter (fun q => !answd t q) (if (a && !b) = true then [x] else []) = if (a && (!b && !answd t x)) = true then [x] else [] := by
    intro a b x
    cases a <;> cases b <;> cases h : answd t x <;> simp [h]
  exact hx _ _ _
/-- Is the call still open behind the first k steps that are looked through? -/
def flagAt (t : List Seen) (i : Nat) (q : Int) (k : Nat) : Bool := !made (t.take (min k i)) q && !answd (t.take k) q
theorem flag_zero (t : List Seen) (i : Nat) (q : Int) : flagAt t i q 0 = true := by simp [flagAt, made, answd]
theorem flag_next {t : List Seen} {i : Nat} {q : Int} {k : Nat} (h : k < t.length) : flagAt t i q (k + 1) = ((if (decide (k < i) && ((t[k].f0.f0 == 1) && (t[k].f0.f4.f0 == q))) = true then false else flagAt t i q k) && !t[k].f1.any fun a => a.f0 == q) := by
  unfold flagAt
  rw [show t.take (k + 1) = t.take k ++ [t[k]] from List.take_succ_eq_append_getElem h, answd_snoc]
  by_cases hk : k < i
  · rw [show min (k + 1) i = k + 1 by omega, show min k i = k by omega, show t.take (k + 1) = t.take k ++ [t[k]] from List.take_succ_eq_append_getElem h, made_snoc, decide_eq_true hk, Bool.true_and]
    generalize made (t.take k) q = a
    generalize answd (t.take k) q = b
    generalize ((t[k].f0.f0 == 1) && (t[k].f0.f4.f0 == q)) = c
    generalize (t[k].f1.any fun a => a.f0 == q) = d
    revert a b c d
    decide
  · rw [show min (k + 1) i = min k i by omega, decide_eq_false hk, Bool.false_and]
    generalize made (t.take (min k i)) q = a
    generalize answd (t.take k) q = b
    generalize (t[k].f1.any fun a => a.f0 == q) = d
    revert a b d
    decide
theorem flag_all (t : List Seen) (i : Nat) (q : Int) (h : i ≤ t.length) : flagAt t i q t.length = (!made (t.take i) q && !answd t q) := by
  unfold flagAt
  rw [show min t.length i = i by omega, List.take_length]
end Go.Proofs.Ytegfnceepplooaa.TR

set_option linter.unusedVariables false
set_option linter.unusedSimpArgs false
namespace Go.Proofs.Ytegfnceepplooaa.TR
open Go.RowKit Go.Maps Go.Proofs.Ytegfnceepplooaa.FMap Go.Proofs.Ytegfnceepplooaa.PTR Go.Proofs.YtegfnceepplooaaW.PrintWords Go.Proofs.YtegfnceepplooaaW.PrintLast

theorem any_next {l : List Ans} {x : Nat} (p : Ans → Bool) (h : x < l.length) : (l.take (x + 1)).any p = ((l.take x).any p || p (rd_T45 l (x : Int))) := by
  rw [rdA_at h, List.take_succ_eq_append_getElem h, List.any_append, List.any_cons, List.any_nil, Bool.or_false]
set_option maxHeartbeats 16000000 in
set_option maxRecDepth 100000 in
theorem opens_law (A : Option Addr) (c : Nat) (l : List Seen) (n : Int) (W : World) (hC : Kd.C kS W A l.length l) (hc : l.length ≤ c) (hl : l.length ≤ 140737488351232) (hb : ∀ s ∈ l, s.f1.length ≤ 140737488351232 ∧ s.f2.length ≤ 140737488351232) (hok : ∀ s ∈ l, okS s) :
    Calls Try.prog 4 #[.slice A l.length c, .int .i64 n] W fun e W' => e = .returned (.bool true) ∧ Below W.heap.size W W' := by
  have cL := large_any A c l W hC hb hl
  have cS := Aside0.mk (fun W => speaks_any W)
  have HC := Aside0.mk hC
  have HO := Aside0.mk hok
  clear hC hb hok
  go_enter Try.func4, Try.ntmps4
  go_wp2_with fail
  refine cL.mono ?_
  rintro e w2 ⟨⟨lb, rfl, hlb⟩, hB⟩
  have HB2 := Aside0.mk hB
  clear hB cL
  cases lb
  · have HS := Aside0.mk (hlb rfl)
    have h300 := HS.out.1
    have cK := check_any A c l w2 (Kd.C_below HC.out HB2.out) HS.out HO.out
    obtain ⟨ra, hra⟩ : ∃ x, (runV st0 l 0).1 = x := ⟨_, rfl⟩
    obtain ⟨ri, hri⟩ : ∃ x, (runV st0 l 0).2 = x := ⟨_, rfl⟩
    rw [hra, hri] at cK
    have HRA := Aside0.mk hra
    clear hlb hra hri
    go_wp2_with fail
    refine cK.mono ?_
    rintro e w3 ⟨rfl, hB⟩
    have HB3 := Aside0.mk (HB2.out.trans (hB.mono HB2.out.size))
    clear hB cK
    by_cases ha : ra = 0
    · subst ha
      have HRZ : Aside0 ((runV st0 l 0).1 = 0) := HRA
      by_cases h1 : n < 0
      · have h1b : decide (n < 0) = true := decide_eq_true h1
        clear h1
        obtain ⟨t, ht⟩ : ∃ t, t = l.take l.length := ⟨_, rfl⟩
        have HTM : Aside0 (t.length = l.length) := ⟨by rw [ht, List.length_take]; have := Nat.le_refl l.length; omega⟩
        have HTL : Aside0 (t.length ≤ 300) := ⟨by rw [ht, List.length_take]; omega⟩
        have HCt : Aside0 (Kd.C kS W A t.length t) := ⟨by rw [ht]; exact Kd.C_take HC.out (Nat.le_refl l.length)⟩
        have HSt : Aside0 (smallL t) := ⟨by rw [ht]; exact small_take HS.out _⟩
        have HOt : Aside0 (∀ s ∈ t, okS s) := ⟨fun s h => HO.out s (by rw [ht] at h; exact List.mem_of_mem_take h)⟩
        have HRU : Aside0 ((runV st0 t 0).1 = 0) := ⟨by rw [ht, run_take l st0 0 _ (Nat.le_refl l.length), if_pos (Or.inl HRZ.out)]⟩
        have htm := HTM.out
        clear ht
        go_wp2
        go_loopw [8, 46] (fun ov i wi => ∃ (j : Nat) (o : Value), o = ov ∧ j ≤ t.length ∧ i = .int .i64 j ∧ Aside0 (Kd.R kI 3 wi w3.heap.size (fun _ => True) o (wantAt t j)) ∧ Aside0 (Below w3.heap.size w3 wi)) (fun _ i _ => t.length - (intOf i).toNat)
        case atStart => exact ⟨0, _, rfl, Nat.zero_le _, rfl, ⟨Kd.R_nil _ _ _ _ _⟩, ⟨Below.refl _ _⟩⟩
        case round =>
          obtain ⟨j, o, ho, hj, rfl, HR, HW⟩ := hrel
          subst ho
          obtain ⟨wo, hwo⟩ : ∃ wo, wo = wr := ⟨_, rfl⟩
          subst hwo
          by_cases hjt : j < t.length
          · obtain ⟨ad, A9, k9, A10, k10, A11, k11, hA, g0, g1, g2, g3, g4, g5, g6, g7, g8, g9, g10, g11, _, _, _, _, _, _⟩ := at_T40 (Kd.C_below (Kd.C_below HCt.out HB3.out) HW.out) (j : Int) (by omega) (by omega)
            rw [Int.toNat_natCast] at g0 g1 g2 g3 g4 g5 g6 g7 g8 g9 g10 g11
            subst hA
            have HWN := Aside0.mk (want_next hjt)
            rw [← rdS_at hjt] at HWN
            generalize rd_T40 t (j : Int) = q at HWN g0 g1 g2 g3 g4 g5 g6 g7 g8 g9 g10 g11
            obtain ⟨⟨p0, p1, p2, p3, ⟨c0, c1, ⟨o0, o1, o2⟩⟩, l9⟩, la, hh⟩ := q
            simp only at g0 g1 g2 g3 g4 g5 g6 g7 g8 g9 g10 g11
            obtain ⟨wa, hwa⟩ : ∃ wa, wa = wo.alloc (.cells #[.int .i64 p0, .int .i64 p1, .int .i64 p2, .int .i64 p3, .int .i64 c0, .int .i64 c1, .int .i64 o0, .string o1, .string o2, .slice A9 l9.length k9, .slice A10 la.length k10, .slice A11 hh.length k11] 40) := ⟨_, rfl⟩
            have hBa : Below wo.heap.size wo wa := by rw [hwa]; exact (Below.refl _ wo).alloc (Nat.le_refl _) _
            have ba : wa.heap[wo.heap.size]? = some (.cells #[.int .i64 p0, .int .i64 p1, .int .i64 p2, .int .i64 p3, .int .i64 c0, .int .i64 c1, .int .i64 o0, .string o1, .string o2, .slice A9 l9.length k9, .slice A10 la.length k10, .slice A11 hh.length k11] 40 (0, 0)) := by rw [hwa]; exact blk_new _ _
            have x0 : wa.cell? ⟨wo.heap.size, 0, none⟩ = some (.int .i64 p0) := (blk_cell ba 0).trans rfl
            have HBA := Aside0.mk ba
            have HBa : Aside0 (Below w3.heap.size w3 wa) := ⟨HW.out.trans (hBa.mono HW.out.size)⟩
            have HRa : Aside0 (Kd.R kI 3 wa w3.heap.size (fun _ => True) o (wantAt t j)) := ⟨Kd.R_below HR.out hBa⟩
            have HCa := Aside0.mk (Kd.C_below (Kd.C_below HCt.out HB3.out) HBa.out)
            have ht3 := HTL.out
            have hjm : j < l.length := by omega
            have hjd : decide (j < l.length) = true := decide_eq_true hjm
            clear hBa ba HR HW
            cases hp : (p0 == 1)
            · have hpn : (p0 != 1) = true := by unfold bne; rw [hp]; rfl
              have HW3 : Aside0 (wantAt t (j + 1) = wantAt t j) := ⟨by rw [HWN.out]; simp [hp]⟩
              clear HWN
              go_wp2
              rw [← hwa]
              go_roundw
              case rel => exact ⟨j + 1, _, rfl, by omega, by go_num, ⟨by rw [HW3.out]; exact HRa.out⟩, HBa⟩
              case measure => simp [intOf]; omega
            · have hpn : (p0 != 1) = false := by unfold bne; rw [hp]; rfl
              have HWN1 : Aside0 (wantAt t (j + 1) = wantAt t j ++ (if (!made (t.take j) c0 && !answd t c0) = true then [c0] else [])) := ⟨by rw [HWN.out]; simp [hp]⟩
              clear HWN
              have HWN := HWN1
              clear HWN1
              go_wp2
              rw [← hwa]
              clear hwa g0 g1 g2 g3 g4 g5 g6 g7 g8 g9 g10 g11
              go_loopw [11, 59] (fun f i wi => ∃ k : Nat, k ≤ t.length ∧ i = .int .i64 k ∧ f = .bool (flagAt t j c0 k) ∧ Aside0 (Below wa.heap.size wa wi)) (fun _ i _ => t.length - (intOf i).toNat)
              case atStart => exact ⟨0, Nat.zero_le _, rfl, by rw [flag_zero], ⟨Below.refl _ _⟩⟩
              case round =>
                obtain ⟨k, hk, rfl, rfl, HWk⟩ := hrel
                obtain ⟨wp, hwp⟩ : ∃ wp, wp = wr := ⟨_, rfl⟩
                subst hwp
                by_cases hkt : k < t.length
                · obtain ⟨ad', A9', k9', A10', k10', A11', k11', hA', h0, h1, h2, h3, h4, h5, h6, h7, h8, h9, h10, h11, _, _, e10, E10, _, _⟩ := at_T40 (Kd.C_below (Kd.C_below HCa.out (Below.refl _ _)) HWk.out) (k : Int) (by omega) (by omega)
                  rw [Int.toNat_natCast] at h0 h1 h2 h3 h4 h5 h6 h7 h8 h9 h10 h11
                  have hsm := (small_mem HSt.out (rdS_mem hkt)).1
                  have HFN := Aside0.mk (flag_next (i := j) (q := c0) hkt)
                  rw [← rdS_at hkt] at HFN
                  generalize rd_T40 t (k : Int) = q' at hsm HFN h0 h1 h2 h3 h4 h5 h6 h7 h8 h9 h10 h11 e10 E10
                  obtain ⟨⟨p0', p1', p2', p3', ⟨c0', c1', ⟨o0', o1', o2'⟩⟩, l9'⟩, la', hh'⟩ := q'
                  obtain rfl : ad = ad' := Option.some.inj hA'
                  clear hA'
                  simp only at hsm h0 h1 h2 h3 h4 h5 h6 h7 h8 h9 h10 h11 e10 E10
                  have HFN2 : Aside0 (flagAt t j c0 (k + 1) = ((if (decide (k < j) && ((p0' == 1) && (c0' == c0))) = true then false else flagAt t j c0 k) && !la'.any fun a => a.f0 == c0)) := ⟨HFN.out⟩
                  clear HFN
                  have HFN := HFN2
                  clear HFN2
                  obtain ⟨wq, hwq⟩ : ∃ wq, wq = wp.alloc (.cells #[.int .i64 p0', .int .i64 p1', .int .i64 p2', .int .i64 p3', .int .i64 c0', .int .i64 c1', .int .i64 o0', .string o1', .string o2', .slice A9' l9'.length k9', .slice A10' la'.length k10', .slice A11' hh'.length k11'] 40) := ⟨_, rfl⟩
                  have hBq : Below wp.heap.size wp wq := by rw [hwq]; exact (Below.refl _ wp).alloc (Nat.le_refl _) _
                  have bq : wq.heap[wp.heap.size]? = some (.cells #[.int .i64 p0', .int .i64 p1', .int .i64 p2', .int .i64 p3', .int .i64 c0', .int .i64 c1', .int .i64 o0', .string o1', .string o2', .slice A9' l9'.length k9', .slice A10' la'.length k10', .slice A11' hh'.length k11'] 40 (0, 0)) := by rw [hwq]; exact blk_new _ _
                  have HBQ : Aside0 (Below wa.heap.size wa wq) := ⟨HWk.out.trans (hBq.mono HWk.out.size)⟩
                  have HBI : Aside0 (wq.heap[wo.heap.size]? = some (.cells #[.int .i64 p0, .int .i64 p1, .int .i64 p2, .int .i64 p3, .int .i64 c0, .int .i64 c1, .int .i64 o0, .string o1, .string o2, .slice A9 l9.length k9, .slice A10 la.length k10, .slice A11 hh.length k11] 40 (0, 0))) := ⟨blk_below HBA.out HBQ.out⟩
                  have HE10 := Aside0.mk (Kd.C_below E10 hBq)
                  have y0 : wq.cell? ⟨wp.heap.size, 0, none⟩ = some (.int .i64 p0') := (blk_cell bq 0).trans rfl
                  have y4 : wq.cell? ⟨wp.heap.size, 4, none⟩ = some (.int .i64 c0') := (blk_cell bq 4).trans rfl
                  have y10 : wq.cell? ⟨wp.heap.size, 10, none⟩ = some (.slice A10' la'.length k10') := (blk_cell bq 10).trans rfl
                  have z4 : (wp.alloc (.cells #[.int .i64 p0', .int .i64 p1', .int .i64 p2', .int .i64 p3', .int .i64 c0', .int .i64 c1', .int .i64 o0', .string o1', .string o2', .slice A9' l9'.length k9', .slice A10' la'.length k10', .slice A11' hh'.length k11'] 40)).cell? ⟨wo.heap.size, 4, none⟩ = some (.int .i64 c0) := by rw [← hwq]; exact (blk_cell HBI.out 4).trans rfl
                  have HSM := Aside0.mk hsm
                  have hkm : k < l.length := by omega
                  have hkd : decide (k < l.length) = true := decide_eq_true hkm
                  clear hBq bq hsm e10 E10
                  by_cases hkj : k < j
                  · have d1 : decide (k < j) = true := decide_eq_true hkj
                    have d2 : decide ((k : Int) < j) = true := decide_eq_true (by omega)
                    cases hp : (p0' == 1)
                    · go_wp2
                      rw [← hwq]
                      clear hwq h0 h1 h2 h3 h4 h5 h6 h7 h8 h9 h10 h11
                      have HFL : Aside0 (flagAt t j c0 (k + 1) = (flagAt t j c0 k && !la'.any fun a => a.f0 == c0)) := ⟨by rw [HFN.out, if_neg (by rw [d1, hp]; simp)]⟩
                      clear HFN
                      go_wp2
                      go_loopw [11, 87] (fun f i wi => ∃ x : Nat, x ≤ la'.length ∧ i = .int .i64 x ∧ f = .bool (flagAt t j c0 k && !(la'.take x).any fun a => a.f0 == c0) ∧ Aside0 (Below wq.heap.size wq wi)) (fun _ i _ => la'.length - (intOf i).toNat)
                      case atStart => exact ⟨0, Nat.zero_le _, rfl, by simp, ⟨Below.refl _ _⟩⟩
                      case round =>
                        obtain ⟨x, hxl, rfl, rfl, HWx⟩ := hrel
                        by_cases hxt : x < la'.length
                        · obtain ⟨ae, A5, k5, hAe, f0', f1', f2', f3', f4', f5', _, _⟩ := at_T45 (Kd.C_below HE10.out HWx.out) (x : Int) (by omega) (by omega)
                          rw [Int.toNat_natCast] at f0' f1' f2' f3' f4' f5'
                          subst hAe
                          have HXN := Aside0.mk (any_next (fun a : Ans => a.f0 == c0) hxt)
                          have hx3 : la'.length ≤ 2000 := HSM.out
                          have HXT := Aside0.mk hxt
                          have hbi := blk_below HBI.out HWx.out
                          generalize rd_T45 la' (x : Int) = a at HXN f0' f1' f2' f3' f4' f5'
                          obtain ⟨a0, a1, a2, ⟨a3, a4, a5⟩⟩ := a
                          simp only at f0' f1' f2' f3' f4' f5'
                          have hcq : (wr.alloc (.cells #[.int .i64 a0, .int .i64 a1, .int .i64 a2, .bool a3, .string a4, .slice A5 a5.length k5] 45)).cell? ⟨wo.heap.size, 4, none⟩ = some (.int .i64 c0) := (blk_cell (blk_alloc hbi _) 4).trans rfl
                          have HXN2 : Aside0 (((la'.take (x + 1)).any fun a => a.f0 == c0) = (((la'.take x).any fun a => a.f0 == c0) || (a0 == c0))) := ⟨HXN.out⟩
                          have HXA : Aside0 (Below wq.heap.size wq (wr.alloc (.cells #[.int .i64 a0, .int .i64 a1, .int .i64 a2, .bool a3, .string a4, .slice A5 a5.length k5] 45))) := ⟨HWx.out.alloc HWx.out.size _⟩
                          clear HXN hbi
                          generalize ((la'.take x).any fun a => a.f0 == c0) = pv at HXN2 ⊢
                          obtain ⟨ff, hff⟩ : ∃ ff, flagAt t j c0 k = ff := ⟨_, rfl⟩
                          rw [hff]
                          have HFF := Aside0.mk hff
                          clear hff
                          cases ff
                          · go_wp2
                            go_roundw
                            case rel => exact ⟨x + 1, by have := HXT.out; omega, by go_num, rfl, HXA⟩
                            case measure => have := HXT.out; simp [intOf]; omega
                          · cases pv
                            · cases hq : (a0 == c0)
                              · have hqn : (a0 != c0) = true := by unfold bne; rw [hq]; rfl
                                have HXN3 : Aside0 (((la'.take (x + 1)).any fun a => a.f0 == c0) = false) := ⟨by rw [HXN2.out, hq]; rfl⟩
                                clear HXN2
                                go_wp2
                                go_roundw
                                case rel => exact ⟨x + 1, by have := HXT.out; omega, by go_num, by rw [HXN3.out]; rfl, HXA⟩
                                case measure => have := HXT.out; simp [intOf]; omega
                              · have hqn : (a0 != c0) = false := by unfold bne; rw [hq]; rfl
                                have HXN3 : Aside0 (((la'.take (x + 1)).any fun a => a.f0 == c0) = true) := ⟨by rw [HXN2.out, hq]; rfl⟩
                                clear HXN2
                                go_wp2
                                go_roundw
                                case rel => exact ⟨x + 1, by have := HXT.out; omega, by go_num, by rw [HXN3.out]; rfl, HXA⟩
                                case measure => have := HXT.out; simp [intOf]; omega
                            · have HXN3 : Aside0 (((la'.take (x + 1)).any fun a => a.f0 == c0) = true) := ⟨by rw [HXN2.out]; rfl⟩
                              clear HXN2
                              go_wp2
                              go_roundw
                              case rel => exact ⟨x + 1, by have := HXT.out; omega, by go_num, by rw [HXN3.out]; rfl, HXA⟩
                              case measure => have := HXT.out; simp [intOf]; omega
                        · obtain rfl : x = la'.length := by omega
                          rw [show (flagAt t j c0 k && !(la'.take la'.length).any fun a => a.f0 == c0) = flagAt t j c0 (k + 1) by rw [HFL.out, List.take_length]]
                          have HWK : Aside0 (Below wa.heap.size wa wr) := ⟨HBQ.out.trans (HWx.out.mono HBQ.out.size)⟩
                          go_wp2
                          go_roundw
                          case rel => exact ⟨k + 1, by omega, by go_num, rfl, HWK⟩
                          case measure => simp [intOf]; omega
                    · cases hcc : (c0' == c0)
                      · go_wp2
                        rw [← hwq]
                        clear hwq h0 h1 h2 h3 h4 h5 h6 h7 h8 h9 h10 h11
                        have HFL : Aside0 (flagAt t j c0 (k + 1) = (flagAt t j c0 k && !la'.any fun a => a.f0 == c0)) := ⟨by rw [HFN.out, if_neg (by rw [d1, hp, hcc]; simp)]⟩
                        clear HFN
                        go_wp2
                        go_loopw [11, 87] (fun f i wi => ∃ x : Nat, x ≤ la'.length ∧ i = .int .i64 x ∧ f = .bool (flagAt t j c0 k && !(la'.take x).any fun a => a.f0 == c0) ∧ Aside0 (Below wq.heap.size wq wi)) (fun _ i _ => la'.length - (intOf i).toNat)
                        case atStart => exact ⟨0, Nat.zero_le _, rfl, by simp, ⟨Below.refl _ _⟩⟩
                        case round =>
                          obtain ⟨x, hxl, rfl, rfl, HWx⟩ := hrel
                          by_cases hxt : x < la'.length
                          · obtain ⟨ae, A5, k5, hAe, f0', f1', f2', f3', f4', f5', _, _⟩ := at_T45 (Kd.C_below HE10.out HWx.out) (x : Int) (by omega) (by omega)
                            rw [Int.toNat_natCast] at f0' f1' f2' f3' f4' f5'
                            subst hAe
                            have HXN := Aside0.mk (any_next (fun a : Ans => a.f0 == c0) hxt)
                            have hx3 : la'.length ≤ 2000 := HSM.out
                            have HXT := Aside0.mk hxt
                            have hbi := blk_below HBI.out HWx.out
                            generalize rd_T45 la' (x : Int) = a at HXN f0' f1' f2' f3' f4' f5'
                            obtain ⟨a0, a1, a2, ⟨a3, a4, a5⟩⟩ := a
                            simp only at f0' f1' f2' f3' f4' f5'
                            have hcq : (wr.alloc (.cells #[.int .i64 a0, .int .i64 a1, .int .i64 a2, .bool a3, .string a4, .slice A5 a5.length k5] 45)).cell? ⟨wo.heap.size, 4, none⟩ = some (.int .i64 c0) := (blk_cell (blk_alloc hbi _) 4).trans rfl
                            have HXN2 : Aside0 (((la'.take (x + 1)).any fun a => a.f0 == c0) = (((la'.take x).any fun a => a.f0 == c0) || (a0 == c0))) := ⟨HXN.out⟩
                            have HXA : Aside0 (Below wq.heap.size wq (wr.alloc (.cells #[.int .i64 a0, .int .i64 a1, .int .i64 a2, .bool a3, .string a4, .slice A5 a5.length k5] 45))) := ⟨HWx.out.alloc HWx.out.size _⟩
                            clear HXN hbi
                            generalize ((la'.take x).any fun a => a.f0 == c0) = pv at HXN2 ⊢
                            obtain ⟨ff, hff⟩ : ∃ ff, flagAt t j c0 k = ff := ⟨_, rfl⟩
                            rw [hff]
                            have HFF := Aside0.mk hff
                            clear hff
                            cases ff
                            · go_wp2
                              go_roundw
                              case rel => exact ⟨x + 1, by have := HXT.out; omega, by go_num, rfl, HXA⟩
                              case measure => have := HXT.out; simp [intOf]; omega
                            · cases pv
                              · cases hq : (a0 == c0)
                                · have hqn : (a0 != c0) = true := by unfold bne; rw [hq]; rfl
                                  have HXN3 : Aside0 (((la'.take (x + 1)).any fun a => a.f0 == c0) = false) := ⟨by rw [HXN2.out, hq]; rfl⟩
                                  clear HXN2
                                  go_wp2
                                  go_roundw
                                  case rel => exact ⟨x + 1, by have := HXT.out; omega, by go_num, by rw [HXN3.out]; rfl, HXA⟩
                                  case measure => have := HXT.out; simp [intOf]; omega
                                · have hqn : (a0 != c0) = false := by unfold bne; rw [hq]; rfl
                                  have HXN3 : Aside0 (((la'.take (x + 1)).any fun a => a.f0 == c0) = true) := ⟨by rw [HXN2.out, hq]; rfl⟩
                                  clear HXN2
                                  go_wp2
                                  go_roundw
                                  case rel => exact ⟨x + 1, by have := HXT.out; omega, by go_num, by rw [HXN3.out]; rfl, HXA⟩
                                  case measure => have := HXT.out; simp [intOf]; omega
                              · have HXN3 : Aside0 (((la'.take (x + 1)).any fun a => a.f0 == c0) = true) := ⟨by rw [HXN2.out]; rfl⟩
                                clear HXN2
                                go_wp2
                                go_roundw
                                case rel => exact ⟨x + 1, by have := HXT.out; omega, by go_num, by rw [HXN3.out]; rfl, HXA⟩
                                case measure => have := HXT.out; simp [intOf]; omega
                          · obtain rfl : x = la'.length := by omega
                            rw [show (flagAt t j c0 k && !(la'.take la'.length).any fun a => a.f0 == c0) = flagAt t j c0 (k + 1) by rw [HFL.out, List.take_length]]
                            have HWK : Aside0 (Below wa.heap.size wa wr) := ⟨HBQ.out.trans (HWx.out.mono HBQ.out.size)⟩
                            go_wp2
                            go_roundw
                            case rel => exact ⟨k + 1, by omega, by go_num, rfl, HWK⟩
                            case measure => simp [intOf]; omega
                      · go_wp2
                        rw [← hwq]
                        clear hwq h0 h1 h2 h3 h4 h5 h6 h7 h8 h9 h10 h11
                        have HFL : Aside0 (flagAt t j c0 (k + 1) = (false && !la'.any fun a => a.f0 == c0)) := ⟨by rw [HFN.out, if_pos (by rw [d1, hp, hcc]; rfl)]⟩
                        clear HFN
                        go_wp2
                        go_loopw [11, 87] (fun f i wi => ∃ x : Nat, x ≤ la'.length ∧ i = .int .i64 x ∧ f = .bool (false && !(la'.take x).any fun a => a.f0 == c0) ∧ Aside0 (Below wq.heap.size wq wi)) (fun _ i _ => la'.length - (intOf i).toNat)
                        case atStart => exact ⟨0, Nat.zero_le _, rfl, by simp, ⟨Below.refl _ _⟩⟩
                        case round =>
                          obtain ⟨x, hxl, rfl, rfl, HWx⟩ := hrel
                          by_cases hxt : x < la'.length
                          · obtain ⟨ae, A5, k5, hAe, f0', f1', f2', f3', f4', f5', _, _⟩ := at_T45 (Kd.C_below HE10.out HWx.out) (x : Int) (by omega) (by omega)
                            rw [Int.toNat_natCast] at f0' f1' f2' f3' f4' f5'
                            subst hAe
                            have HXN := Aside0.mk (any_next (fun a : Ans => a.f0 == c0) hxt)
                            have hx3 : la'.length ≤ 2000 := HSM.out
                            have HXT := Aside0.mk hxt
                            have hbi := blk_below HBI.out HWx.out
                            generalize rd_T45 la' (x : Int) = a at HXN f0' f1' f2' f3' f4' f5'
                            obtain ⟨a0, a1, a2, ⟨a3, a4, a5⟩⟩ := a
                            simp only at f0' f1' f2' f3' f4' f5'
                            have hcq : (wr.alloc (.cells #[.int .i64 a0, .int .i64 a1, .int .i64 a2, .bool a3, .string a4, .slice A5 a5.length k5] 45)).cell? ⟨wo.heap.size, 4, none⟩ = some (.int .i64 c0) := (blk_cell (blk_alloc hbi _) 4).trans rfl
                            have HXN2 : Aside0 (((la'.take (x + 1)).any fun a => a.f0 == c0) = (((la'.take x).any fun a => a.f0 == c0) || (a0 == c0))) := ⟨HXN.out⟩
                            have HXA : Aside0 (Below wq.heap.size wq (wr.alloc (.cells #[.int .i64 a0, .int .i64 a1, .int .i64 a2, .bool a3, .string a4, .slice A5 a5.length k5] 45))) := ⟨HWx.out.alloc HWx.out.size _⟩
                            clear HXN hbi
                            generalize ((la'.take x).any fun a => a.f0 == c0) = pv at HXN2 ⊢
                            clear HXN2
                            go_wp2
                            go_roundw
                            case rel => exact ⟨x + 1, by have := HXT.out; omega, by go_num, rfl, HXA⟩
                            case measure => have := HXT.out; simp [intOf]; omega
                          · obtain rfl : x = la'.length := by omega
                            rw [show (false && !(la'.take la'.length).any fun a => a.f0 == c0) = flagAt t j c0 (k + 1) by rw [HFL.out, List.take_length]]
                            have HWK : Aside0 (Below wa.heap.size wa wr) := ⟨HBQ.out.trans (HWx.out.mono HBQ.out.size)⟩
                            go_wp2
                            go_roundw
                            case rel => exact ⟨k + 1, by omega, by go_num, rfl, HWK⟩
                            case measure => simp [intOf]; omega
                  · have d1 : decide (k < j) = false := decide_eq_false hkj
                    have d2 : decide ((k : Int) < j) = false := decide_eq_false (by omega)
                    go_wp2
                    rw [← hwq]
                    clear hwq h0 h1 h2 h3 h4 h5 h6 h7 h8 h9 h10 h11
                    have HFL : Aside0 (flagAt t j c0 (k + 1) = (flagAt t j c0 k && !la'.any fun a => a.f0 == c0)) := ⟨by rw [HFN.out, if_neg (by rw [d1]; simp)]⟩
                    clear HFN
                    go_wp2
                    go_loopw [11, 87] (fun f i wi => ∃ x : Nat, x ≤ la'.length ∧ i = .int .i64 x ∧ f = .bool (flagAt t j c0 k && !(la'.take x).any fun a => a.f0 == c0) ∧ Aside0 (Below wq.heap.size wq wi)) (fun _ i _ => la'.length - (intOf i).toNat)
                    case atStart => exact ⟨0, Nat.zero_le _, rfl, by simp, ⟨Below.refl _ _⟩⟩
                    case round =>
                      obtain ⟨x, hxl, rfl, rfl, HWx⟩ := hrel
                      by_cases hxt : x < la'.length
                      · obtain ⟨ae, A5, k5, hAe, f0', f1', f2', f3', f4', f5', _, _⟩ := at_T45 (Kd.C_below HE10.out HWx.out) (x : Int) (by omega) (by omega)
                        rw [Int.toNat_natCast] at f0' f1' f2' f3' f4' f5'
                        subst hAe
                        have HXN := Aside0.mk (any_next (fun a : Ans => a.f0 == c0) hxt)
                        have hx3 : la'.length ≤ 2000 := HSM.out
                        have HXT := Aside0.mk hxt
                        have hbi := blk_below HBI.out HWx.out
                        generalize rd_T45 la' (x : Int) = a at HXN f0' f1' f2' f3' f4' f5'
                        obtain ⟨a0, a1, a2, ⟨a3, a4, a5⟩⟩ := a
                        simp only at f0' f1' f2' f3' f4' f5'
                        have hcq : (wr.alloc (.cells #[.int .i64 a0, .int .i64 a1, .int .i64 a2, .bool a3, .string a4, .slice A5 a5.length k5] 45)).cell? ⟨wo.heap.size, 4, none⟩ = some (.int .i64 c0) := (blk_cell (blk_alloc hbi _) 4).trans rfl
                        have HXN2 : Aside0 (((la'.take (x + 1)).any fun a => a.f0 == c0) = (((la'.take x).any fun a => a.f0 == c0) || (a0 == c0))) := ⟨HXN.out⟩
                        have HXA : Aside0 (Below wq.heap.size wq (wr.alloc (.cells #[.int .i64 a0, .int .i64 a1, .int .i64 a2, .bool a3, .string a4, .slice A5 a5.length k5] 45))) := ⟨HWx.out.alloc HWx.out.size _⟩
                        clear HXN hbi
                        generalize ((la'.take x).any fun a => a.f0 == c0) = pv at HXN2 ⊢
                        obtain ⟨ff, hff⟩ : ∃ ff, flagAt t j c0 k = ff := ⟨_, rfl⟩
                        rw [hff]
                        have HFF := Aside0.mk hff
                        clear hff
                        cases ff
                        · go_wp2
                          go_roundw
                          case rel => exact ⟨x + 1, by have := HXT.out; omega, by go_num, rfl, HXA⟩
                          case measure => have := HXT.out; simp [intOf]; omega
                        · cases pv
                          · cases hq : (a0 == c0)
                            · have hqn : (a0 != c0) = true := by unfold bne; rw [hq]; rfl
                              have HXN3 : Aside0 (((la'.take (x + 1)).any fun a => a.f0 == c0) = false) := ⟨by rw [HXN2.out, hq]; rfl⟩
                              clear HXN2
                              go_wp2
                              go_roundw
                              case rel => exact ⟨x + 1, by have := HXT.out; omega, by go_num, by rw [HXN3.out]; rfl, HXA⟩
                              case measure => have := HXT.out; simp [intOf]; omega
                            · have hqn : (a0 != c0) = false := by unfold bne; rw [hq]; rfl
                              have HXN3 : Aside0 (((la'.take (x + 1)).any fun a => a.f0 == c0) = true) := ⟨by rw [HXN2.out, hq]; rfl⟩
                              clear HXN2
                              go_wp2
                              go_roundw
                              case rel => exact ⟨x + 1, by have := HXT.out; omega, by go_num, by rw [HXN3.out]; rfl, HXA⟩
                              case measure => have := HXT.out; simp [intOf]; omega
                          · have HXN3 : Aside0 (((la'.take (x + 1)).any fun a => a.f0 == c0) = true) := ⟨by rw [HXN2.out]; rfl⟩
                            clear HXN2
                            go_wp2
                            go_roundw
                            case rel => exact ⟨x + 1, by have := HXT.out; omega, by go_num, by rw [HXN3.out]; rfl, HXA⟩
                            case measure => have := HXT.out; simp [intOf]; omega
                      · obtain rfl : x = la'.length := by omega
                        rw [show (flagAt t j c0 k && !(la'.take la'.length).any fun a => a.f0 == c0) = flagAt t j c0 (k + 1) by rw [HFL.out, List.take_length]]
                        have HWK : Aside0 (Below wa.heap.size wa wr) := ⟨HBQ.out.trans (HWx.out.mono HBQ.out.size)⟩
                        go_wp2
                        go_roundw
                        case rel => exact ⟨k + 1, by omega, by go_num, rfl, HWK⟩
                        case measure => simp [intOf]; omega
                · obtain rfl : k = t.length := by omega
                  rw [flag_all t j c0 (by omega)]
                  have HWN2 := HWN
                  have hz := blk_below HBA.out HWk.out
                  have z4 : wp.cell? ⟨wo.heap.size, 4, none⟩ = some (.int .i64 c0) := (blk_cell hz 4).trans rfl
                  have HBk : Aside0 (Below w3.heap.size w3 wp) := ⟨HBa.out.trans (HWk.out.mono HBa.out.size)⟩
                  have HR2 : Aside0 (Kd.R kI 3 wp w3.heap.size (fun _ => True) o (wantAt t j)) := ⟨Kd.R_below HRa.out HWk.out⟩
                  have hwl := want_len t j
                  have HJT := Aside0.mk hjt
                  clear hz
                  generalize (!made (t.take j) c0 && !answd t c0) = fv at HWN2 ⊢
                  cases fv
                  · have HW3 : Aside0 (wantAt t (j + 1) = wantAt t j) := ⟨by rw [HWN2.out]; simp⟩
                    clear HWN2
                    go_wp2
                    go_roundw
                    case rel => exact ⟨j + 1, _, rfl, by have := HJT.out; omega, by go_num, ⟨by rw [HW3.out]; exact HR2.out⟩, HBk⟩
                    case measure => have := HJT.out; simp [intOf]; omega
                  · have HW3 : Aside0 (wantAt t (j + 1) = wantAt t j ++ [c0]) := ⟨by rw [HWN2.out]; rfl⟩
                    clear HWN2
                    go_wp2_with ((with_reducible refine gate_builtin (b := .append) (xs := #[.tmp 104, .tmp 109]) rfl ?_); at_builtin; refine Kd.R_append kI (w0 := w3) w3.heap.size rfl (.tmp 104) (.tmp 109) 29 3 (.int .i64 0) 8 rfl Try.underlying29 infoI rfl (by decide) (by omega) _ (wantAt t j) c0 [.int .i64 c0] (fun _ => True) (fun _ => False) rfl rfl rfl (fun _ hk => hk.elim) (fun _ _ => trivial) HR2.out HBk.out HBk.out.size (by have := want_len t j; have := HTL.out; omega) ?_; intro v1 w9 hR1 hB1 hg1 hv1; rw [← HW3.out] at hR1; have HR1 := Aside0.mk hR1; have HB1 := Aside0.mk hB1; clear hR1 hB1 hg1 hv1)
                    go_roundw
                    case rel => exact ⟨j + 1, _, rfl, by have := HJT.out; omega, by go_num, HR1, HB1⟩
                    case measure => have := HJT.out; simp [intOf]; omega
          · obtain rfl : j = t.length := by omega
            have HR2 := HR.out
            rw [want_open HRU.out] at HR2
            obtain ⟨Aw, cw, rfl, hcw, hCw⟩ := Kd.R_reads HR2
            have HCW := Aside0.mk (And.intro hCw hcw)
            have cO := open_any A c t wo (Kd.C_below (Kd.C_below HCt.out HB3.out) HW.out) HSt.out HOt.out
            rw [HTM.out] at cO
            clear HR2 hcw hCw
            go_wp2_with fail
            refine cO.mono ?_
            rintro e w5 ⟨⟨Ao, co, rfl, hco, hCo⟩, h300, hB⟩
            have HB5 : Aside0 (Below W.heap.size W w5) := ⟨(HB3.out.trans (HW.out.mono HB3.out.size)).trans (hB.mono (HB3.out.trans (HW.out.mono HB3.out.size)).size)⟩
            have cI := ints_any Ao Aw co cw (openV t) w5 hCo hco (Kd.C_below HCW.out.1 hB) HCW.out.2 (by omega)
            clear hco hCo hB cO h300
            go_wp2_with fail
            refine cI.mono ?_
            rintro e w6 ⟨rfl, hB⟩
            have HB6 := Aside0.mk (HB5.out.trans (hB.mono HB5.out.size))
            clear hB cI
            go_wp2_with fail
            refine (cS.out _).mono ?_
            rintro e w7 ⟨rfl, hB⟩
            have HB7 := Aside0.mk (HB6.out.trans (hB.mono HB6.out.size))
            clear hB
            go_wp2
            go_ret
            exact ⟨rfl, HB7.out⟩
      · have h1b : decide (n < 0) = false := decide_eq_false h1
        by_cases h2 : (l.length : Int) < n
        · have h2b : decide ((l.length : Int) < n) = true := decide_eq_true h2
          clear h1 h2
          obtain ⟨t, ht⟩ : ∃ t, t = l.take l.length := ⟨_, rfl⟩
          have HTM : Aside0 (t.length = l.length) := ⟨by rw [ht, List.length_take]; have := Nat.le_refl l.length; omega⟩
          have HTL : Aside0 (t.length ≤ 300) := ⟨by rw [ht, List.length_take]; omega⟩
          have HCt : Aside0 (Kd.C kS W A t.length t) := ⟨by rw [ht]; exact Kd.C_take HC.out (Nat.le_refl l.length)⟩
          have HSt : Aside0 (smallL t) := ⟨by rw [ht]; exact small_take HS.out _⟩
          have HOt : Aside0 (∀ s ∈ t, okS s) := ⟨fun s h => HO.out s (by rw [ht] at h; exact List.mem_of_mem_take h)⟩
          have HRU : Aside0 ((runV st0 t 0).1 = 0) := ⟨by rw [ht, run_take l st0 0 _ (Nat.le_refl l.length), if_pos (Or.inl HRZ.out)]⟩
          have htm := HTM.out
          clear ht
          go_wp2
          go_loopw [8, 46] (fun ov i wi => ∃ (j : Nat) (o : Value), o = ov ∧ j ≤ t.length ∧ i = .int .i64 j ∧ Aside0 (Kd.R kI 3 wi w3.heap.size (fun _ => True) o (wantAt t j)) ∧ Aside0 (Below w3.heap.size w3 wi)) (fun _ i _ => t.length - (intOf i).toNat)
          case atStart => exact ⟨0, _, rfl, Nat.zero_le _, rfl, ⟨Kd.R_nil _ _ _ _ _⟩, ⟨Below.refl _ _⟩⟩
          case round =>
            obtain ⟨j, o, ho, hj, rfl, HR, HW⟩ := hrel
            subst ho
            obtain ⟨wo, hwo⟩ : ∃ wo, wo = wr := ⟨_, rfl⟩
            subst hwo
            by_cases hjt : j < t.length
            · obtain ⟨ad, A9, k9, A10, k10, A11, k11, hA, g0, g1, g2, g3, g4, g5, g6, g7, g8, g9, g10, g11, _, _, _, _, _, _⟩ := at_T40 (Kd.C_below (Kd.C_below HCt.out HB3.out) HW.out) (j : Int) (by omega) (by omega)
              rw [Int.toNat_natCast] at g0 g1 g2 g3 g4 g5 g6 g7 g8 g9 g10 g11
              subst hA
              have HWN := Aside0.mk (want_next hjt)
              rw [← rdS_at hjt] at HWN
              generalize rd_T40 t (j : Int) = q at HWN g0 g1 g2 g3 g4 g5 g6 g7 g8 g9 g10 g11
              obtain ⟨⟨p0, p1, p2, p3, ⟨c0, c1, ⟨o0, o1, o2⟩⟩, l9⟩, la, hh⟩ := q
              simp only at g0 g1 g2 g3 g4 g5 g6 g7 g8 g9 g10 g11
              obtain ⟨wa, hwa⟩ : ∃ wa, wa = wo.alloc (.cells #[.int .i64 p0, .int .i64 p1, .int .i64 p2, .int .i64 p3, .int .i64 c0, .int .i64 c1, .int .i64 o0, .string o1, .string o2, .slice A9 l9.length k9, .slice A10 la.length k10, .slice A11 hh.length k11] 40) := ⟨_, rfl⟩
              have hBa : Below wo.heap.size wo wa := by rw [hwa]; exact (Below.refl _ wo).alloc (Nat.le_refl _) _
              have ba : wa.heap[wo.heap.size]? = some (.cells #[.int .i64 p0, .int .i64 p1, .int .i64 p2, .int .i64 p3, .int .i64 c0, .int .i64 c1, .int .i64 o0, .string o1, .string o2, .slice A9 l9.length k9, .slice A10 la.length k10, .slice A11 hh.length k11] 40 (0, 0)) := by rw [hwa]; exact blk_new _ _
              have x0 : wa.cell? ⟨wo.heap.size, 0, none⟩ = some (.int .i64 p0) := (blk_cell ba 0).trans rfl
              have HBA := Aside0.mk ba
              have HBa : Aside0 (Below w3.heap.size w3 wa) := ⟨HW.out.trans (hBa.mono HW.out.size)⟩
              have HRa : Aside0 (Kd.R kI 3 wa w3.heap.size (fun _ => True) o (wantAt t j)) := ⟨Kd.R_below HR.out hBa⟩
              have HCa := Aside0.mk (Kd.C_below (Kd.C_below HCt.out HB3.out) HBa.out)
              have ht3 := HTL.out
              have hjm : j < l.length := by omega
              have hjd : decide (j < l.length) = true := decide_eq_true hjm
              clear hBa ba HR HW
              cases hp : (p0 == 1)
              · have hpn : (p0 != 1) = true := by unfold bne; rw [hp]; rfl
                have HW3 : Aside0 (wantAt t (j + 1) = wantAt t j) := ⟨by rw [HWN.out]; simp [hp]⟩
                clear HWN
                go_wp2
                rw [← hwa]
                go_roundw
                case rel => exact ⟨j + 1, _, rfl, by omega, by go_num, ⟨by rw [HW3.out]; exact HRa.out⟩, HBa⟩
                case measure => simp [intOf]; omega
              · have hpn : (p0 != 1) = false := by unfold bne; rw [hp]; rfl
                have HWN1 : Aside0 (wantAt t (j + 1) = wantAt t j ++ (if (!made (t.take j) c0 && !answd t c0) = true then [c0] else [])) := ⟨by rw [HWN.out]; simp [hp]⟩
                clear HWN
                have HWN := HWN1
                clear HWN1
                go_wp2
                rw [← hwa]
                clear hwa g0 g1 g2 g3 g4 g5 g6 g7 g8 g9 g10 g11
                go_loopw [11, 59] (fun f i wi => ∃ k : Nat, k ≤ t.length ∧ i = .int .i64 k ∧ f = .bool (flagAt t j c0 k) ∧ Aside0 (Below wa.heap.size wa wi)) (fun _ i _ => t.length - (intOf i).toNat)
                case atStart => exact ⟨0, Nat.zero_le _, rfl, by rw [flag_zero], ⟨Below.refl _ _⟩⟩
                case round =>
                  obtain ⟨k, hk, rfl, rfl, HWk⟩ := hrel
                  obtain ⟨wp, hwp⟩ : ∃ wp, wp = wr := ⟨_, rfl⟩
                  subst hwp
                  by_cases hkt : k < t.length
                  · obtain ⟨ad', A9', k9', A10', k10', A11', k11', hA', h0, h1, h2, h3, h4, h5, h6, h7, h8, h9, h10, h11, _, _, e10, E10, _, _⟩ := at_T40 (Kd.C_below (Kd.C_below HCa.out (Below.refl _ _)) HWk.out) (k : Int) (by omega) (by omega)
                    rw [Int.toNat_natCast] at h0 h1 h2 h3 h4 h5 h6 h7 h8 h9 h10 h11
                    have hsm := (small_mem HSt.out (rdS_mem hkt)).1
                    have HFN := Aside0.mk (flag_next (i := j) (q := c0) hkt)
                    rw [← rdS_at hkt] at HFN
                    generalize rd_T40 t (k : Int) = q' at hsm HFN h0 h1 h2 h3 h4 h5 h6 h7 h8 h9 h10 h11 e10 E10
                    obtain ⟨⟨p0', p1', p2', p3', ⟨c0', c1', ⟨o0', o1', o2'⟩⟩, l9'⟩, la', hh'⟩ := q'
                    obtain rfl : ad = ad' := Option.some.inj hA'
                    clear hA'
                    simp only at hsm h0 h1 h2 h3 h4 h5 h6 h7 h8 h9 h10 h11 e10 E10
                    have HFN2 : Aside0 (flagAt t j c0 (k + 1) = ((if (decide (k < j) && ((p0' == 1) && (c0' == c0))) = true then false else flagAt t j c0 k) && !la'.any fun a => a.f0 == c0)) := ⟨HFN.out⟩
                    clear HFN
                    have HFN := HFN2
                    clear HFN2
                    obtain ⟨wq, hwq⟩ : ∃ wq, wq = wp.alloc (.cells #[.int .i64 p0', .int .i64 p1', .int .i64 p2', .int .i64 p3', .int .i64 c0', .int .i64 c1', .int .i64 o0', .string o1', .string o2', .slice A9' l9'.length k9', .slice A10' la'.length k10', .slice A11' hh'.length k11'] 40) := ⟨_, rfl⟩
                    have hBq : Below wp.heap.size wp wq := by rw [hwq]; exact (Below.refl _ wp).alloc (Nat.le_refl _) _
                    have bq : wq.heap[wp.heap.size]? = some (.cells #[.int .i64 p0', .int .i64 p1', .int .i64 p2', .int .i64 p3', .int .i64 c0', .int .i64 c1', .int .i64 o0', .string o1', .string o2', .slice A9' l9'.length k9', .slice A10' la'.length k10', .slice A11' hh'.length k11'] 40 (0, 0)) := by rw [hwq]; exact blk_new _ _
                    have HBQ : Aside0 (Below wa.heap.size wa wq) := ⟨HWk.out.trans (hBq.mono HWk.out.size)⟩
                    have HBI : Aside0 (wq.heap[wo.heap.size]? = some (.cells #[.int .i64 p0, .int .i64 p1, .int .i64 p2, .int .i64 p3, .int .i64 c0, .int .i64 c1, .int .i64 o0, .string o1, .string o2, .slice A9 l9.length k9, .slice A10 la.length k10, .slice A11 hh.length k11] 40 (0, 0))) := ⟨blk_below HBA.out HBQ.out⟩
                    have HE10 := Aside0.mk (Kd.C_below E10 hBq)
                    have y0 : wq.cell? ⟨wp.heap.size, 0, none⟩ = some (.int .i64 p0') := (blk_cell bq 0).trans rfl
                    have y4 : wq.cell? ⟨wp.heap.size, 4, none⟩ = some (.int .i64 c0') := (blk_cell bq 4).trans rfl
                    have y10 : wq.cell? ⟨wp.heap.size, 10, none⟩ = some (.slice A10' la'.length k10') := (blk_cell bq 10).trans rfl
                    have z4 : (wp.alloc (.cells #[.int .i64 p0', .int .i64 p1', .int .i64 p2', .int .i64 p3', .int .i64 c0', .int .i64 c1', .int .i64 o0', .string o1', .string o2', .slice A9' l9'.length k9', .slice A10' la'.length k10', .slice A11' hh'.length k11'] 40)).cell? ⟨wo.heap.size, 4, none⟩ = some (.int .i64 c0) := by rw [← hwq]; exact (blk_cell HBI.out 4).trans rfl
                    have HSM := Aside0.mk hsm
                    have hkm : k < l.length := by omega
                    have hkd : decide (k < l.length) = true := decide_eq_true hkm
                    clear hBq bq hsm e10 E10
                    by_cases hkj : k < j
                    · have d1 : decide (k < j) = true := decide_eq_true hkj
                      have d2 : decide ((k : Int) < j) = true := decide_eq_true (by omega)
                      cases hp : (p0' == 1)
                      · go_wp2
                        rw [← hwq]
                        clear hwq h0 h1 h2 h3 h4 h5 h6 h7 h8 h9 h10 h11
                        have HFL : Aside0 (flagAt t j c0 (k + 1) = (flagAt t j c0 k && !la'.any fun a => a.f0 == c0)) := ⟨by rw [HFN.out, if_neg (by rw [d1, hp]; simp)]⟩
                        clear HFN
                        go_wp2
                        go_loopw [11, 87] (fun f i wi => ∃ x : Nat, x ≤ la'.length ∧ i = .int .i64 x ∧ f = .bool (flagAt t j c0 k && !(la'.take x).any fun a => a.f0 == c0) ∧ Aside0 (Below wq.heap.size wq wi)) (fun _ i _ => la'.length - (intOf i).toNat)
                        case atStart => exact ⟨0, Nat.zero_le _, rfl, by simp, ⟨Below.refl _ _⟩⟩
                        case round =>
                          obtain ⟨x, hxl, rfl, rfl, HWx⟩ := hrel
                          by_cases hxt : x < la'.length
                          · obtain ⟨ae, A5, k5, hAe, f0', f1', f2', f3', f4', f5', _, _⟩ := at_T45 (Kd.C_below HE10.out HWx.out) (x : Int) (by omega) (by omega)
                            rw [Int.toNat_natCast] at f0' f1' f2' f3' f4' f5'
                            subst hAe
                            have HXN := Aside0.mk (any_next (fun a : Ans => a.f0 == c0) hxt)
                            have hx3 : la'.length ≤ 2000 := HSM.out
                            have HXT := Aside0.mk hxt
                            have hbi := blk_below HBI.out HWx.out
                            generalize rd_T45 la' (x : Int) = a at HXN f0' f1' f2' f3' f4' f5'
                            obtain ⟨a0, a1, a2, ⟨a3, a4, a5⟩⟩ := a
                            simp only at f0' f1' f2' f3' f4' f5'
                            have hcq : (wr.alloc (.cells #[.int .i64 a0, .int .i64 a1, .int .i64 a2, .bool a3, .string a4, .slice A5 a5.length k5] 45)).cell? ⟨wo.heap.size, 4, none⟩ = some (.int .i64 c0) := (blk_cell (blk_alloc hbi _) 4).trans rfl
                            have HXN2 : Aside0 (((la'.take (x + 1)).any fun a => a.f0 == c0) = (((la'.take x).any fun a => a.f0 == c0) || (a0 == c0))) := ⟨HXN.out⟩
                            have HXA : Aside0 (Below wq.heap.size wq (wr.alloc (.cells #[.int .i64 a0, .int .i64 a1, .int .i64 a2, .bool a3, .string a4, .slice A5 a5.length k5] 45))) := ⟨HWx.out.alloc HWx.out.size _⟩
                            clear HXN hbi
                            generalize ((la'.take x).any fun a => a.f0 == c0) = pv at HXN2 ⊢
                            obtain ⟨ff, hff⟩ : ∃ ff, flagAt t j c0 k = ff := ⟨_, rfl⟩
                            rw [hff]
                            have HFF := Aside0.mk hff
                            clear hff
                            cases ff
                            · go_wp2
                              go_roundw
                              case rel => exact ⟨x + 1, by have := HXT.out; omega, by go_num, rfl, HXA⟩
                              case measure => have := HXT.out; simp [intOf]; omega
                            · cases pv
                              · cases hq : (a0 == c0)
                                · have hqn : (a0 != c0) = true := by unfold bne; rw [hq]; rfl
                                  have HXN3 : Aside0 (((la'.take (x + 1)).any fun a => a.f0 == c0) = false) := ⟨by rw [HXN2.out, hq]; rfl⟩
                                  clear HXN2
                                  go_wp2
                                  go_roundw
                                  case rel => exact ⟨x + 1, by have := HXT.out; omega, by go_num, by rw [HXN3.out]; rfl, HXA⟩
                                  case measure => have := HXT.out; simp [intOf]; omega
                                · have hqn : (a0 != c0) = false := by unfold bne; rw [hq]; rfl
                                  have HXN3 : Aside0 (((la'.take (x + 1)).any fun a => a.f0 == c0) = true) := ⟨by rw [HXN2.out, hq]; rfl⟩
                                  clear HXN2
                                  go_wp2
                                  go_roundw
                                  case rel => exact ⟨x + 1, by have := HXT.out; omega, by go_num, by rw [HXN3.out]; rfl, HXA⟩
                                  case measure => have := HXT.out; simp [intOf]; omega
                              · have HXN3 : Aside0 (((la'.take (x + 1)).any fun a => a.f0 == c0) = true) := ⟨by rw [HXN2.out]; rfl⟩
                                clear HXN2
                                go_wp2
                                go_roundw
                                case rel => exact ⟨x + 1, by have := HXT.out; omega, by go_num, by rw [HXN3.out]; rfl, HXA⟩
                                case measure => have := HXT.out; simp [intOf]; omega
                          · obtain rfl : x = la'.length := by omega
                            rw [show (flagAt t j c0 k && !(la'.take la'.length).any fun a => a.f0 == c0) = flagAt t j c0 (k + 1) by rw [HFL.out, List.take_length]]
                            have HWK : Aside0 (Below wa.heap.size wa wr) := ⟨HBQ.out.trans (HWx.out.mono HBQ.out.size)⟩
                            go_wp2
                            go_roundw
                            case rel => exact ⟨k + 1, by omega, by go_num, rfl, HWK⟩
                            case measure => simp [intOf]; omega
                      · cases hcc : (c0' == c0)
                        · go_wp2
                          rw [← hwq]
                          clear hwq h0 h1 h2 h3 h4 h5 h6 h7 h8 h9 h10 h11
                          have HFL : Aside0 (flagAt t j c0 (k + 1) = (flagAt t j c0 k && !la'.any fun a => a.f0 == c0)) := ⟨by rw [HFN.out, if_neg (by rw [d1, hp, hcc]; simp)]⟩
                          clear HFN
                          go_wp2
                          go_loopw [11, 87] (fun f i wi => ∃ x : Nat, x ≤ la'.length ∧ i = .int .i64 x ∧ f = .bool (flagAt t j c0 k && !(la'.take x).any fun a => a.f0 == c0) ∧ Aside0 (Below wq.heap.size wq wi)) (fun _ i _ => la'.length - (intOf i).toNat)
                          case atStart => exact ⟨0, Nat.zero_le _, rfl, by simp, ⟨Below.refl _ _⟩⟩
                          case round =>
                            obtain ⟨x, hxl, rfl, rfl, HWx⟩ := hrel
                            by_cases hxt : x < la'.length
                            · obtain ⟨ae, A5, k5, hAe, f0', f1', f2', f3', f4', f5', _, _⟩ := at_T45 (Kd.C_below HE10.out HWx.out) (x : Int) (by omega) (by omega)
                              rw [Int.toNat_natCast] at f0' f1' f2' f3' f4' f5'
                              subst hAe
                              have HXN := Aside0.mk (any_next (fun a : Ans => a.f0 == c0) hxt)
                              have hx3 : la'.length ≤ 2000 := HSM.out
                              have HXT := Aside0.mk hxt
                              have hbi := blk_below HBI.out HWx.out
                              generalize rd_T45 la' (x : Int) = a at HXN f0' f1' f2' f3' f4' f5'
                              obtain ⟨a0, a1, a2, ⟨a3, a4, a5⟩⟩ := a
                              simp only at f0' f1' f2' f3' f4' f5'
                              have hcq : (wr.alloc (.cells #[.int .i64 a0, .int .i64 a1, .int .i64 a2, .bool a3, .string a4, .slice A5 a5.length k5] 45)).cell? ⟨wo.heap.size, 4, none⟩ = some (.int .i64 c0) := (blk_cell (blk_alloc hbi _) 4).trans rfl
                              have HXN2 : Aside0 (((la'.take (x + 1)).any fun a => a.f0 == c0) = (((la'.take x).any fun a => a.f0 == c0) || (a0 == c0))) := ⟨HXN.out⟩
                              have HXA : Aside0 (Below wq.heap.size wq (wr.alloc (.cells #[.int .i64 a0, .int .i64 a1, .int .i64 a2, .bool a3, .string a4, .slice A5 a5.length k5] 45))) := ⟨HWx.out.alloc HWx.out.size _⟩
                              clear HXN hbi
                              generalize ((la'.take x).any fun a => a.f0 == c0) = pv at HXN2 ⊢
                              obtain ⟨ff, hff⟩ : ∃ ff, flagAt t j c0 k = ff := ⟨_, rfl⟩
                              rw [hff]
                              have HFF := Aside0.mk hff
                              clear hff
                              cases ff
                              · go_wp2
                                go_roundw
                                case rel => exact ⟨x + 1, by have := HXT.out; omega, by go_num, rfl, HXA⟩
                                case measure => have := HXT.out; simp [intOf]; omega
                              · cases pv
                                · cases hq : (a0 == c0)
                                  · have hqn : (a0 != c0) = true := by unfold bne; rw [hq]; rfl
                                    have HXN3 : Aside0 (((la'.take (x + 1)).any fun a => a.f0 == c0) = false) := ⟨by rw [HXN2.out, hq]; rfl⟩
                                    clear HXN2
                                    go_wp2
                                    go_roundw
                                    case rel => exact ⟨x + 1, by have := HXT.out; omega, by go_num, by rw [HXN3.out]; rfl, HXA⟩
                                    case measure => have := HXT.out; simp [intOf]; omega
                                  · have hqn : (a0 != c0) = false := by unfold bne; rw [hq]; rfl
                                    have HXN3 : Aside0 (((la'.take (x + 1)).any fun a => a.f0 == c0) = true) := ⟨by rw [HXN2.out, hq]; rfl⟩
                                    clear HXN2
                                    go_wp2
                                    go_roundw
                                    case rel => exact ⟨x + 1, by have := HXT.out; omega, by go_num, by rw [HXN3.out]; rfl, HXA⟩
                                    case measure => have := HXT.out; simp [intOf]; omega
                                · have HXN3 : Aside0 (((la'.take (x + 1)).any fun a => a.f0 == c0) = true) := ⟨by rw [HXN2.out]; rfl⟩
                                  clear HXN2
                                  go_wp2
                                  go_roundw
                                  case rel => exact ⟨x + 1, by have := HXT.out; omega, by go_num, by rw [HXN3.out]; rfl, HXA⟩
                                  case measure => have := HXT.out; simp [intOf]; omega
                            · obtain rfl : x = la'.length := by omega
                              rw [show (flagAt t j c0 k && !(la'.take la'.length).any fun a => a.f0 == c0) = flagAt t j c0 (k + 1) by rw [HFL.out, List.take_length]]
                              have HWK : Aside0 (Below wa.heap.size wa wr) := ⟨HBQ.out.trans (HWx.out.mono HBQ.out.size)⟩
                              go_wp2
                              go_roundw
                              case rel => exact ⟨k + 1, by omega, by go_num, rfl, HWK⟩
                              case measure => simp [intOf]; omega
                        · go_wp2
                          rw [← hwq]
                          clear hwq h0 h1 h2 h3 h4 h5 h6 h7 h8 h9 h10 h11
                          have HFL : Aside0 (flagAt t j c0 (k + 1) = (false && !la'.any fun a => a.f0 == c0)) := ⟨by rw [HFN.out, if_pos (by rw [d1, hp, hcc]; rfl)]⟩
                          clear HFN
                          go_wp2
                          go_loopw [11, 87] (fun f i wi => ∃ x : Nat, x ≤ la'.length ∧ i = .int .i64 x ∧ f = .bool (false && !(la'.take x).any fun a => a.f0 == c0) ∧ Aside0 (Below wq.heap.size wq wi)) (fun _ i _ => la'.length - (intOf i).toNat)
                          case atStart => exact ⟨0, Nat.zero_le _, rfl, by simp, ⟨Below.refl _ _⟩⟩
                          case round =>
                            obtain ⟨x, hxl, rfl, rfl, HWx⟩ := hrel
                            by_cases hxt : x < la'.length
                            · obtain ⟨ae, A5, k5, hAe, f0', f1', f2', f3', f4', f5', _, _⟩ := at_T45 (Kd.C_below HE10.out HWx.out) (x : Int) (by omega) (by omega)
                              rw [Int.toNat_natCast] at f0' f1' f2' f3' f4' f5'
                              subst hAe
                              have HXN := Aside0.mk (any_next (fun a : Ans => a.f0 == c0) hxt)
                              have hx3 : la'.length ≤ 2000 := HSM.out
                              have HXT := Aside0.mk hxt
                              have hbi := blk_below HBI.out HWx.out
                              generalize rd_T45 la' (x : Int) = a at HXN f0' f1' f2' f3' f4' f5'
                              obtain ⟨a0, a1, a2, ⟨a3, a4, a5⟩⟩ := a
                              simp only at f0' f1' f2' f3' f4' f5'
                              have hcq : (wr.alloc (.cells #[.int .i64 a0, .int .i64 a1, .int .i64 a2, .bool a3, .string a4, .slice A5 a5.length k5] 45)).cell? ⟨wo.heap.size, 4, none⟩ = some (.int .i64 c0) := (blk_cell (blk_alloc hbi _) 4).trans rfl
                              have HXN2 : Aside0 (((la'.take (x + 1)).any fun a => a.f0 == c0) = (((la'.take x).any fun a => a.f0 == c0) || (a0 == c0))) := ⟨HXN.out⟩
                              have HXA : Aside0 (Below wq.heap.size wq (wr.alloc (.cells #[.int .i64 a0, .int .i64 a1, .int .i64 a2, .bool a3, .string a4, .slice A5 a5.length k5] 45))) := ⟨HWx.out.alloc HWx.out.size _⟩
                              clear HXN hbi
                              generalize ((la'.take x).any fun a => a.f0 == c0) = pv at HXN2 ⊢
                              clear HXN2
                              go_wp2
                              go_roundw
                              case rel => exact ⟨x + 1, by have := HXT.out; omega, by go_num, rfl, HXA⟩
                              case measure => have := HXT.out; simp [intOf]; omega
                            · obtain rfl : x = la'.length := by omega
                              rw [show (false && !(la'.take la'.length).any fun a => a.f0 == c0) = flagAt t j c0 (k + 1) by rw [HFL.out, List.take_length]]
                              have HWK : Aside0 (Below wa.heap.size wa wr) := ⟨HBQ.out.trans (HWx.out.mono HBQ.out.size)⟩
                              go_wp2
                              go_roundw
                              case rel => exact ⟨k + 1, by omega, by go_num, rfl, HWK⟩
                              case measure => simp [intOf]; omega
                    · have d1 : decide (k < j) = false := decide_eq_false hkj
                      have d2 : decide ((k : Int) < j) = false := decide_eq_false (by omega)
                      go_wp2
                      rw [← hwq]
                      clear hwq h0 h1 h2 h3 h4 h5 h6 h7 h8 h9 h10 h11
                      have HFL : Aside0 (flagAt t j c0 (k + 1) = (flagAt t j c0 k && !la'.any fun a => a.f0 == c0)) := ⟨by rw [HFN.out, if_neg (by rw [d1]; simp)]⟩
                      clear HFN
                      go_wp2
                      go_loopw [11, 87] (fun f i wi => ∃ x : Nat, x ≤ la'.length ∧ i = .int .i64 x ∧ f = .bool (flagAt t j c0 k && !(la'.take x).any fun a => a.f0 == c0) ∧ Aside0 (Below wq.heap.size wq wi)) (fun _ i _ => la'.length - (intOf i).toNat)
                      case atStart => exact ⟨0, Nat.zero_le _, rfl, by simp, ⟨Below.refl _ _⟩⟩
                      case round =>
                        obtain ⟨x, hxl, rfl, rfl, HWx⟩ := hrel
                        by_cases hxt : x < la'.length
                        · obtain ⟨ae, A5, k5, hAe, f0', f1', f2', f3', f4', f5', _, _⟩ := at_T45 (Kd.C_below HE10.out HWx.out) (x : Int) (by omega) (by omega)
                          rw [Int.toNat_natCast] at f0' f1' f2' f3' f4' f5'
                          subst hAe
                          have HXN := Aside0.mk (any_next (fun a : Ans => a.f0 == c0) hxt)
                          have hx3 : la'.length ≤ 2000 := HSM.out
                          have HXT := Aside0.mk hxt
                          have hbi := blk_below HBI.out HWx.out
                          generalize rd_T45 la' (x : Int) = a at HXN f0' f1' f2' f3' f4' f5'
                          obtain ⟨a0, a1, a2, ⟨a3, a4, a5⟩⟩ := a
                          simp only at f0' f1' f2' f3' f4' f5'
                          have hcq : (wr.alloc (.cells #[.int .i64 a0, .int .i64 a1, .int .i64 a2, .bool a3, .string a4, .slice A5 a5.length k5] 45)).cell? ⟨wo.heap.size, 4, none⟩ = some (.int .i64 c0) := (blk_cell (blk_alloc hbi _) 4).trans rfl
                          have HXN2 : Aside0 (((la'.take (x + 1)).any fun a => a.f0 == c0) = (((la'.take x).any fun a => a.f0 == c0) || (a0 == c0))) := ⟨HXN.out⟩
                          have HXA : Aside0 (Below wq.heap.size wq (wr.alloc (.cells #[.int .i64 a0, .int .i64 a1, .int .i64 a2, .bool a3, .string a4, .slice A5 a5.length k5] 45))) := ⟨HWx.out.alloc HWx.out.size _⟩
                          clear HXN hbi
                          generalize ((la'.take x).any fun a => a.f0 == c0) = pv at HXN2 ⊢
                          obtain ⟨ff, hff⟩ : ∃ ff, flagAt t j c0 k = ff := ⟨_, rfl⟩
                          rw [hff]
                          have HFF := Aside0.mk hff
                          clear hff
                          cases ff
                          · go_wp2
                            go_roundw
                            case rel => exact ⟨x + 1, by have := HXT.out; omega, by go_num, rfl, HXA⟩
                            case measure => have := HXT.out; simp [intOf]; omega
                          · cases pv
                            · cases hq : (a0 == c0)
                              · have hqn : (a0 != c0) = true := by unfold bne; rw [hq]; rfl
                                have HXN3 : Aside0 (((la'.take (x + 1)).any fun a => a.f0 == c0) = false) := ⟨by rw [HXN2.out, hq]; rfl⟩
                                clear HXN2
                                go_wp2
                                go_roundw
                                case rel => exact ⟨x + 1, by have := HXT.out; omega, by go_num, by rw [HXN3.out]; rfl, HXA⟩
                                case measure => have := HXT.out; simp [intOf]; omega
                              · have hqn : (a0 != c0) = false := by unfold bne; rw [hq]; rfl
                                have HXN3 : Aside0 (((la'.take (x + 1)).any fun a => a.f0 == c0) = true) := ⟨by rw [HXN2.out, hq]; rfl⟩
                                clear HXN2
                                go_wp2
                                go_roundw
                                case rel => exact ⟨x + 1, by have := HXT.out; omega, by go_num, by rw [HXN3.out]; rfl, HXA⟩
                                case measure => have := HXT.out; simp [intOf]; omega
                            · have HXN3 : Aside0 (((la'.take (x + 1)).any fun a => a.f0 == c0) = true) := ⟨by rw [HXN2.out]; rfl⟩
                              clear HXN2
                              go_wp2
                              go_roundw
                              case rel => exact ⟨x + 1, by have := HXT.out; omega, by go_num, by rw [HXN3.out]; rfl, HXA⟩
                              case measure => have := HXT.out; simp [intOf]; omega
                        · obtain rfl : x = la'.length := by omega
                          rw [show (flagAt t j c0 k && !(la'.take la'.length).any fun a => a.f0 == c0) = flagAt t j c0 (k + 1) by rw [HFL.out, List.take_length]]
                          have HWK : Aside0 (Below wa.heap.size wa wr) := ⟨HBQ.out.trans (HWx.out.mono HBQ.out.size)⟩
                          go_wp2
                          go_roundw
                          case rel => exact ⟨k + 1, by omega, by go_num, rfl, HWK⟩
                          case measure => simp [intOf]; omega
                  · obtain rfl : k = t.length := by omega
                    rw [flag_all t j c0 (by omega)]
                    have HWN2 := HWN
                    have hz := blk_below HBA.out HWk.out
                    have z4 : wp.cell? ⟨wo.heap.size, 4, none⟩ = some (.int .i64 c0) := (blk_cell hz 4).trans rfl
                    have HBk : Aside0 (Below w3.heap.size w3 wp) := ⟨HBa.out.trans (HWk.out.mono HBa.out.size)⟩
                    have HR2 : Aside0 (Kd.R kI 3 wp w3.heap.size (fun _ => True) o (wantAt t j)) := ⟨Kd.R_below HRa.out HWk.out⟩
                    have hwl := want_len t j
                    have HJT := Aside0.mk hjt
                    clear hz
                    generalize (!made (t.take j) c0 && !answd t c0) = fv at HWN2 ⊢
                    cases fv
                    · have HW3 : Aside0 (wantAt t (j + 1) = wantAt t j) := ⟨by rw [HWN2.out]; simp⟩
                      clear HWN2
                      go_wp2
                      go_roundw
                      case rel => exact ⟨j + 1, _, rfl, by have := HJT.out; omega, by go_num, ⟨by rw [HW3.out]; exact HR2.out⟩, HBk⟩
                      case measure => have := HJT.out; simp [intOf]; omega
                    · have HW3 : Aside0 (wantAt t (j + 1) = wantAt t j ++ [c0]) := ⟨by rw [HWN2.out]; rfl⟩
                      clear HWN2
                      go_wp2_with ((with_reducible refine gate_builtin (b := .append) (xs := #[.tmp 104, .tmp 109]) rfl ?_); at_builtin; refine Kd.R_append kI (w0 := w3) w3.heap.size rfl (.tmp 104) (.tmp 109) 29 3 (.int .i64 0) 8 rfl Try.underlying29 infoI rfl (by decide) (by omega) _ (wantAt t j) c0 [.int .i64 c0] (fun _ => True) (fun _ => False) rfl rfl rfl (fun _ hk => hk.elim) (fun _ _ => trivial) HR2.out HBk.out HBk.out.size (by have := want_len t j; have := HTL.out; omega) ?_; intro v1 w9 hR1 hB1 hg1 hv1; rw [← HW3.out] at hR1; have HR1 := Aside0.mk hR1; have HB1 := Aside0.mk hB1; clear hR1 hB1 hg1 hv1)
                      go_roundw
                      case rel => exact ⟨j + 1, _, rfl, by have := HJT.out; omega, by go_num, HR1, HB1⟩
                      case measure => have := HJT.out; simp [intOf]; omega
            · obtain rfl : j = t.length := by omega
              have HR2 := HR.out
              rw [want_open HRU.out] at HR2
              obtain ⟨Aw, cw, rfl, hcw, hCw⟩ := Kd.R_reads HR2
              have HCW := Aside0.mk (And.intro hCw hcw)
              have cO := open_any A c t wo (Kd.C_below (Kd.C_below HCt.out HB3.out) HW.out) HSt.out HOt.out
              rw [HTM.out] at cO
              clear HR2 hcw hCw
              go_wp2_with fail
              refine cO.mono ?_
              rintro e w5 ⟨⟨Ao, co, rfl, hco, hCo⟩, h300, hB⟩
              have HB5 : Aside0 (Below W.heap.size W w5) := ⟨(HB3.out.trans (HW.out.mono HB3.out.size)).trans (hB.mono (HB3.out.trans (HW.out.mono HB3.out.size)).size)⟩
              have cI := ints_any Ao Aw co cw (openV t) w5 hCo hco (Kd.C_below HCW.out.1 hB) HCW.out.2 (by omega)
              clear hco hCo hB cO h300
              go_wp2_with fail
              refine cI.mono ?_
              rintro e w6 ⟨rfl, hB⟩
              have HB6 := Aside0.mk (HB5.out.trans (hB.mono HB5.out.size))
              clear hB cI
              go_wp2_with fail
              refine (cS.out _).mono ?_
              rintro e w7 ⟨rfl, hB⟩
              have HB7 := Aside0.mk (HB6.out.trans (hB.mono HB6.out.size))
              clear hB
              go_wp2
              go_ret
              exact ⟨rfl, HB7.out⟩
        · obtain ⟨m, rfl⟩ := Int.eq_ofNat_of_zero_le (by omega : 0 ≤ n)
          have h2b : decide ((l.length : Int) < m) = false := decide_eq_false h2
          have h2c : decide (l.length < m) = false := decide_eq_false (by omega)
          have hm : m ≤ l.length := by omega
          have HM := Aside0.mk hm
          clear h1 h2
          obtain ⟨t, ht⟩ : ∃ t, t = l.take m := ⟨_, rfl⟩
          have HTM : Aside0 (t.length = m) := ⟨by rw [ht, List.length_take]; have := HM.out; omega⟩
          have HTL : Aside0 (t.length ≤ 300) := ⟨by rw [ht, List.length_take]; omega⟩
          have HCt : Aside0 (Kd.C kS W A t.length t) := ⟨by rw [ht]; exact Kd.C_take HC.out (HM.out)⟩
          have HSt : Aside0 (smallL t) := ⟨by rw [ht]; exact small_take HS.out _⟩
          have HOt : Aside0 (∀ s ∈ t, okS s) := ⟨fun s h => HO.out s (by rw [ht] at h; exact List.mem_of_mem_take h)⟩
          have HRU : Aside0 ((runV st0 t 0).1 = 0) := ⟨by rw [ht, run_take l st0 0 _ (HM.out), if_pos (Or.inl HRZ.out)]⟩
          have htm := HTM.out
          clear ht
          go_wp2
          go_loopw [8, 46] (fun ov i wi => ∃ (j : Nat) (o : Value), o = ov ∧ j ≤ t.length ∧ i = .int .i64 j ∧ Aside0 (Kd.R kI 3 wi w3.heap.size (fun _ => True) o (wantAt t j)) ∧ Aside0 (Below w3.heap.size w3 wi)) (fun _ i _ => t.length - (intOf i).toNat)
          case atStart => exact ⟨0, _, rfl, Nat.zero_le _, rfl, ⟨Kd.R_nil _ _ _ _ _⟩, ⟨Below.refl _ _⟩⟩
          case round =>
            obtain ⟨j, o, ho, hj, rfl, HR, HW⟩ := hrel
            subst ho
            obtain ⟨wo, hwo⟩ : ∃ wo, wo = wr := ⟨_, rfl⟩
            subst hwo
            by_cases hjt : j < t.length
            · obtain ⟨ad, A9, k9, A10, k10, A11, k11, hA, g0, g1, g2, g3, g4, g5, g6, g7, g8, g9, g10, g11, _, _, _, _, _, _⟩ := at_T40 (Kd.C_below (Kd.C_below HCt.out HB3.out) HW.out) (j : Int) (by omega) (by omega)
              rw [Int.toNat_natCast] at g0 g1 g2 g3 g4 g5 g6 g7 g8 g9 g10 g11
              subst hA
              have HWN := Aside0.mk (want_next hjt)
              rw [← rdS_at hjt] at HWN
              generalize rd_T40 t (j : Int) = q at HWN g0 g1 g2 g3 g4 g5 g6 g7 g8 g9 g10 g11
              obtain ⟨⟨p0, p1, p2, p3, ⟨c0, c1, ⟨o0, o1, o2⟩⟩, l9⟩, la, hh⟩ := q
              simp only at g0 g1 g2 g3 g4 g5 g6 g7 g8 g9 g10 g11
              obtain ⟨wa, hwa⟩ : ∃ wa, wa = wo.alloc (.cells #[.int .i64 p0, .int .i64 p1, .int .i64 p2, .int .i64 p3, .int .i64 c0, .int .i64 c1, .int .i64 o0, .string o1, .string o2, .slice A9 l9.length k9, .slice A10 la.length k10, .slice A11 hh.length k11] 40) := ⟨_, rfl⟩
              have hBa : Below wo.heap.size wo wa := by rw [hwa]; exact (Below.refl _ wo).alloc (Nat.le_refl _) _
              have ba : wa.heap[wo.heap.size]? = some (.cells #[.int .i64 p0, .int .i64 p1, .int .i64 p2, .int .i64 p3, .int .i64 c0, .int .i64 c1, .int .i64 o0, .string o1, .string o2, .slice A9 l9.length k9, .slice A10 la.length k10, .slice A11 hh.length k11] 40 (0, 0)) := by rw [hwa]; exact blk_new _ _
              have x0 : wa.cell? ⟨wo.heap.size, 0, none⟩ = some (.int .i64 p0) := (blk_cell ba 0).trans rfl
              have HBA := Aside0.mk ba
              have HBa : Aside0 (Below w3.heap.size w3 wa) := ⟨HW.out.trans (hBa.mono HW.out.size)⟩
              have HRa : Aside0 (Kd.R kI 3 wa w3.heap.size (fun _ => True) o (wantAt t j)) := ⟨Kd.R_below HR.out hBa⟩
              have HCa := Aside0.mk (Kd.C_below (Kd.C_below HCt.out HB3.out) HBa.out)
              have ht3 := HTL.out
              have hjm : j < m := by omega
              have hjd : decide (j < m) = true := decide_eq_true hjm
              clear hBa ba HR HW
              cases hp : (p0 == 1)
              · have hpn : (p0 != 1) = true := by unfold bne; rw [hp]; rfl
                have HW3 : Aside0 (wantAt t (j + 1) = wantAt t j) := ⟨by rw [HWN.out]; simp [hp]⟩
                clear HWN
                go_wp2
                rw [← hwa]
                go_roundw
                case rel => exact ⟨j + 1, _, rfl, by omega, by go_num, ⟨by rw [HW3.out]; exact HRa.out⟩, HBa⟩
                case measure => simp [intOf]; omega
              · have hpn : (p0 != 1) = false := by unfold bne; rw [hp]; rfl
                have HWN1 : Aside0 (wantAt t (j + 1) = wantAt t j ++ (if (!made (t.take j) c0 && !answd t c0) = true then [c0] else [])) := ⟨by rw [HWN.out]; simp [hp]⟩
                clear HWN
                have HWN := HWN1
                clear HWN1
                go_wp2
                rw [← hwa]
                clear hwa g0 g1 g2 g3 g4 g5 g6 g7 g8 g9 g10 g11
                go_loopw [11, 59] (fun f i wi => ∃ k : Nat, k ≤ t.length ∧ i = .int .i64 k ∧ f = .bool (flagAt t j c0 k) ∧ Aside0 (Below wa.heap.size wa wi)) (fun _ i _ => t.length - (intOf i).toNat)
                case atStart => exact ⟨0, Nat.zero_le _, rfl, by rw [flag_zero], ⟨Below.refl _ _⟩⟩
                case round =>
                  obtain ⟨k, hk, rfl, rfl, HWk⟩ := hrel
                  obtain ⟨wp, hwp⟩ : ∃ wp, wp = wr := ⟨_, rfl⟩
                  subst hwp
                  by_cases hkt : k < t.length
                  · obtain ⟨ad', A9', k9', A10', k10', A11', k11', hA', h0, h1, h2, h3, h4, h5, h6, h7, h8, h9, h10, h11, _, _, e10, E10, _, _⟩ := at_T40 (Kd.C_below (Kd.C_below HCa.out (Below.refl _ _)) HWk.out) (k : Int) (by omega) (by omega)
                    rw [Int.toNat_natCast] at h0 h1 h2 h3 h4 h5 h6 h7 h8 h9 h10 h11
                    have hsm := (small_mem HSt.out (rdS_mem hkt)).1
                    have HFN := Aside0.mk (flag_next (i := j) (q := c0) hkt)
                    rw [← rdS_at hkt] at HFN
                    generalize rd_T40 t (k : Int) = q' at hsm HFN h0 h1 h2 h3 h4 h5 h6 h7 h8 h9 h10 h11 e10 E10
                    obtain ⟨⟨p0', p1', p2', p3', ⟨c0', c1', ⟨o0', o1', o2'⟩⟩, l9'⟩, la', hh'⟩ := q'
                    obtain rfl : ad = ad' := Option.some.inj hA'
                    clear hA'
                    simp only at hsm h0 h1 h2 h3 h4 h5 h6 h7 h8 h9 h10 h11 e10 E10
                    have HFN2 : Aside0 (flagAt t j c0 (k + 1) = ((if (decide (k < j) && ((p0' == 1) && (c0' == c0))) = true then false else flagAt t j c0 k) && !la'.any fun a => a.f0 == c0)) := ⟨HFN.out⟩
                    clear HFN
                    have HFN := HFN2
                    clear HFN2
                    obtain ⟨wq, hwq⟩ : ∃ wq, wq = wp.alloc (.cells #[.int .i64 p0', .int .i64 p1', .int .i64 p2', .int .i64 p3', .int .i64 c0', .int .i64 c1', .int .i64 o0', .string o1', .string o2', .slice A9' l9'.length k9', .slice A10' la'.length k10', .slice A11' hh'.length k11'] 40) := ⟨_, rfl⟩
                    have hBq : Below wp.heap.size wp wq := by rw [hwq]; exact (Below.refl _ wp).alloc (Nat.le_refl _) _
                    have bq : wq.heap[wp.heap.size]? = some (.cells #[.int .i64 p0', .int .i64 p1', .int .i64 p2', .int .i64 p3', .int .i64 c0', .int .i64 c1', .int .i64 o0', .string o1', .string o2', .slice A9' l9'.length k9', .slice A10' la'.length k10', .slice A11' hh'.length k11'] 40 (0, 0)) := by rw [hwq]; exact blk_new _ _
                    have HBQ : Aside0 (Below wa.heap.size wa wq) := ⟨HWk.out.trans (hBq.mono HWk.out.size)⟩
                    have HBI : Aside0 (wq.heap[wo.heap.size]? = some (.cells #[.int .i64 p0, .int .i64 p1, .int .i64 p2, .int .i64 p3, .int .i64 c0, .int .i64 c1, .int .i64 o0, .string o1, .string o2, .slice A9 l9.length k9, .slice A10 la.length k10, .slice A11 hh.length k11] 40 (0, 0))) := ⟨blk_below HBA.out HBQ.out⟩
                    have HE10 := Aside0.mk (Kd.C_below E10 hBq)
                    have y0 : wq.cell? ⟨wp.heap.size, 0, none⟩ = some (.int .i64 p0') := (blk_cell bq 0).trans rfl
                    have y4 : wq.cell? ⟨wp.heap.size, 4, none⟩ = some (.int .i64 c0') := (blk_cell bq 4).trans rfl
                    have y10 : wq.cell? ⟨wp.heap.size, 10, none⟩ = some (.slice A10' la'.length k10') := (blk_cell bq 10).trans rfl
                    have z4 : (wp.alloc (.cells #[.int .i64 p0', .int .i64 p1', .int .i64 p2', .int .i64 p3', .int .i64 c0', .int .i64 c1', .int .i64 o0', .string o1', .string o2', .slice A9' l9'.length k9', .slice A10' la'.length k10', .slice A11' hh'.length k11'] 40)).cell? ⟨wo.heap.size, 4, none⟩ = some (.int .i64 c0) := by rw [← hwq]; exact (blk_cell HBI.out 4).trans rfl
                    have HSM := Aside0.mk hsm
                    have hkm : k < m := by omega
                    have hkd : decide (k < m) = true := decide_eq_true hkm
                    clear hBq bq hsm e10 E10
                    by_cases hkj : k < j
                    · have d1 : decide (k < j) = true := decide_eq_true hkj
                      have d2 : decide ((k : Int) < j) = true := decide_eq_true (by omega)
                      cases hp : (p0' == 1)
                      · go_wp2
                        rw [← hwq]
                        clear hwq h0 h1 h2 h3 h4 h5 h6 h7 h8 h9 h10 h11
                        have HFL : Aside0 (flagAt t j c0 (k + 1) = (flagAt t j c0 k && !la'.any fun a => a.f0 == c0)) := ⟨by rw [HFN.out, if_neg (by rw [d1, hp]; simp)]⟩
                        clear HFN
                        go_wp2
                        go_loopw [11, 87] (fun f i wi => ∃ x : Nat, x ≤ la'.length ∧ i = .int .i64 x ∧ f = .bool (flagAt t j c0 k && !(la'.take x).any fun a => a.f0 == c0) ∧ Aside0 (Below wq.heap.size wq wi)) (fun _ i _ => la'.length - (intOf i).toNat)
                        case atStart => exact ⟨0, Nat.zero_le _, rfl, by simp, ⟨Below.refl _ _⟩⟩
                        case round =>
                          obtain ⟨x, hxl, rfl, rfl, HWx⟩ := hrel
                          by_cases hxt : x < la'.length
                          · obtain ⟨ae, A5, k5, hAe, f0', f1', f2', f3', f4', f5', _, _⟩ := at_T45 (Kd.C_below HE10.out HWx.out) (x : Int) (by omega) (by omega)
                            rw [Int.toNat_natCast] at f0' f1' f2' f3' f4' f5'
                            subst hAe
                            have HXN := Aside0.mk (any_next (fun a : Ans => a.f0 == c0) hxt)
                            have hx3 : la'.length ≤ 2000 := HSM.out
                            have HXT := Aside0.mk hxt
                            have hbi := blk_below HBI.out HWx.out
                            generalize rd_T45 la' (x : Int) = a at HXN f0' f1' f2' f3' f4' f5'
                            obtain ⟨a0, a1, a2, ⟨a3, a4, a5⟩⟩ := a
                            simp only at f0' f1' f2' f3' f4' f5'
                            have hcq : (wr.alloc (.cells #[.int .i64 a0, .int .i64 a1, .int .i64 a2, .bool a3, .string a4, .slice A5 a5.length k5] 45)).cell? ⟨wo.heap.size, 4, none⟩ = some (.int .i64 c0) := (blk_cell (blk_alloc hbi _) 4).trans rfl
                            have HXN2 : Aside0 (((la'.take (x + 1)).any fun a => a.f0 == c0) = (((la'.take x).any fun a => a.f0 == c0) || (a0 == c0))) := ⟨HXN.out⟩
                            have HXA : Aside0 (Below wq.heap.size wq (wr.alloc (.cells #[.int .i64 a0, .int .i64 a1, .int .i64 a2, .bool a3, .string a4, .slice A5 a5.length k5] 45))) := ⟨HWx.out.alloc HWx.out.size _⟩
                            clear HXN hbi
                            generalize ((la'.take x).any fun a => a.f0 == c0) = pv at HXN2 ⊢
                            obtain ⟨ff, hff⟩ : ∃ ff, flagAt t j c0 k = ff := ⟨_, rfl⟩
                            rw [hff]
                            have HFF := Aside0.mk hff
                            clear hff
                            cases ff
                            · go_wp2
                              go_roundw
                              case rel => exact ⟨x + 1, by have := HXT.out; omega, by go_num, rfl, HXA⟩
                              case measure => have := HXT.out; simp [intOf]; omega
                            · cases pv
                              · cases hq : (a0 == c0)
                                · have hqn : (a0 != c0) = true := by unfold bne; rw [hq]; rfl
                                  have HXN3 : Aside0 (((la'.take (x + 1)).any fun a => a.f0 == c0) = false) := ⟨by rw [HXN2.out, hq]; rfl⟩
                                  clear HXN2
                                  go_wp2
                                  go_roundw
                                  case rel => exact ⟨x + 1, by have := HXT.out; omega, by go_num, by rw [HXN3.out]; rfl, HXA⟩
                                  case measure => have := HXT.out; simp [intOf]; omega
                                · have hqn : (a0 != c0) = false := by unfold bne; rw [hq]; rfl
                                  have HXN3 : Aside0 (((la'.take (x + 1)).any fun a => a.f0 == c0) = true) := ⟨by rw [HXN2.out, hq]; rfl⟩
                                  clear HXN2
                                  go_wp2
                                  go_roundw
                                  case rel => exact ⟨x + 1, by have := HXT.out; omega, by go_num, by rw [HXN3.out]; rfl, HXA⟩
                                  case measure => have := HXT.out; simp [intOf]; omega
                              · have HXN3 : Aside0 (((la'.take (x + 1)).any fun a => a.f0 == c0) = true) := ⟨by rw [HXN2.out]; rfl⟩
                                clear HXN2
                                go_wp2
                                go_roundw
                                case rel => exact ⟨x + 1, by have := HXT.out; omega, by go_num, by rw [HXN3.out]; rfl, HXA⟩
                                case measure => have := HXT.out; simp [intOf]; omega
                          · obtain rfl : x = la'.length := by omega
                            rw [show (flagAt t j c0 k && !(la'.take la'.length).any fun a => a.f0 == c0) = flagAt t j c0 (k + 1) by rw [HFL.out, List.take_length]]
                            have HWK : Aside0 (Below wa.heap.size wa wr) := ⟨HBQ.out.trans (HWx.out.mono HBQ.out.size)⟩
                            go_wp2
                            go_roundw
                            case rel => exact ⟨k + 1, by omega, by go_num, rfl, HWK⟩
                            case measure => simp [intOf]; omega
                      · cases hcc : (c0' == c0)
                        · go_wp2
                          rw [← hwq]
                          clear hwq h0 h1 h2 h3 h4 h5 h6 h7 h8 h9 h10 h11
                          have HFL : Aside0 (flagAt t j c0 (k + 1) = (flagAt t j c0 k && !la'.any fun a => a.f0 == c0)) := ⟨by rw [HFN.out, if_neg (by rw [d1, hp, hcc]; simp)]⟩
                          clear HFN
                          go_wp2
                          go_loopw [11, 87] (fun f i wi => ∃ x : Nat, x ≤ la'.length ∧ i = .int .i64 x ∧ f = .bool (flagAt t j c0 k && !(la'.take x).any fun a => a.f0 == c0) ∧ Aside0 (Below wq.heap.size wq wi)) (fun _ i _ => la'.length - (intOf i).toNat)
                          case atStart => exact ⟨0, Nat.zero_le _, rfl, by simp, ⟨Below.refl _ _⟩⟩
                          case round =>
                            obtain ⟨x, hxl, rfl, rfl, HWx⟩ := hrel
                            by_cases hxt : x < la'.length
                            · obtain ⟨ae, A5, k5, hAe, f0', f1', f2', f3', f4', f5', _, _⟩ := at_T45 (Kd.C_below HE10.out HWx.out) (x : Int) (by omega) (by omega)
                              rw [Int.toNat_natCast] at f0' f1' f2' f3' f4' f5'
                              subst hAe
                              have HXN := Aside0.mk (any_next (fun a : Ans => a.f0 == c0) hxt)
                              have hx3 : la'.length ≤ 2000 := HSM.out
                              have HXT := Aside0.mk hxt
                              have hbi := blk_below HBI.out HWx.out
                              generalize rd_T45 la' (x : Int) = a at HXN f0' f1' f2' f3' f4' f5'
                              obtain ⟨a0, a1, a2, ⟨a3, a4, a5⟩⟩ := a
                              simp only at f0' f1' f2' f3' f4' f5'
                              have hcq : (wr.alloc (.cells #[.int .i64 a0, .int .i64 a1, .int .i64 a2, .bool a3, .string a4, .slice A5 a5.length k5] 45)).cell? ⟨wo.heap.size, 4, none⟩ = some (.int .i64 c0) := (blk_cell (blk_alloc hbi _) 4).trans rfl
                              have HXN2 : Aside0 (((la'.take (x + 1)).any fun a => a.f0 == c0) = (((la'.take x).any fun a => a.f0 == c0) || (a0 == c0))) := ⟨HXN.out⟩
                              have HXA : Aside0 (Below wq.heap.size wq (wr.alloc (.cells #[.int .i64 a0, .int .i64 a1, .int .i64 a2, .bool a3, .string a4, .slice A5 a5.length k5] 45))) := ⟨HWx.out.alloc HWx.out.size _⟩
                              clear HXN hbi
                              generalize ((la'.take x).any fun a => a.f0 == c0) = pv at HXN2 ⊢
                              obtain ⟨ff, hff⟩ : ∃ ff, flagAt t j c0 k = ff := ⟨_, rfl⟩
                              rw [hff]
                              have HFF := Aside0.mk hff
                              clear hff
                              cases ff
                              · go_wp2
                                go_roundw
                                case rel => exact ⟨x + 1, by have := HXT.out; omega, by go_num, rfl, HXA⟩
                                case measure => have := HXT.out; simp [intOf]; omega
                              · cases pv
                                · cases hq : (a0 == c0)
                                  · have hqn : (a0 != c0) = true := by unfold bne; rw [hq]; rfl
                                    have HXN3 : Aside0 (((la'.take (x + 1)).any fun a => a.f0 == c0) = false) := ⟨by rw [HXN2.out, hq]; rfl⟩
                                    clear HXN2
                                    go_wp2
                                    go_roundw
                                    case rel => exact ⟨x + 1, by have := HXT.out; omega, by go_num, by rw [HXN3.out]; rfl, HXA⟩
                                    case measure => have := HXT.out; simp [intOf]; omega
                                  · have hqn : (a0 != c0) = false := by unfold bne; rw [hq]; rfl
                                    have HXN3 : Aside0 (((la'.take (x + 1)).any fun a => a.f0 == c0) = true) := ⟨by rw [HXN2.out, hq]; rfl⟩
                                    clear HXN2
                                    go_wp2
                                    go_roundw
                                    case rel => exact ⟨x + 1, by have := HXT.out; omega, by go_num, by rw [HXN3.out]; rfl, HXA⟩
                                    case measure => have := HXT.out; simp [intOf]; omega
                                · have HXN3 : Aside0 (((la'.take (x + 1)).any fun a => a.f0 == c0) = true) := ⟨by rw [HXN2.out]; rfl⟩
                                  clear HXN2
                                  go_wp2
                                  go_roundw
                                  case rel => exact ⟨x + 1, by have := HXT.out; omega, by go_num, by rw [HXN3.out]; rfl, HXA⟩
                                  case measure => have := HXT.out; simp [intOf]; omega
                            · obtain rfl : x = la'.length := by omega
                              rw [show (flagAt t j c0 k && !(la'.take la'.length).any fun a => a.f0 == c0) = flagAt t j c0 (k + 1) by rw [HFL.out, List.take_length]]
                              have HWK : Aside0 (Below wa.heap.size wa wr) := ⟨HBQ.out.trans (HWx.out.mono HBQ.out.size)⟩
                              go_wp2
                              go_roundw
                              case rel => exact ⟨k + 1, by omega, by go_num, rfl, HWK⟩
                              case measure => simp [intOf]; omega
                        · go_wp2
                          rw [← hwq]
                          clear hwq h0 h1 h2 h3 h4 h5 h6 h7 h8 h9 h10 h11
                          have HFL : Aside0 (flagAt t j c0 (k + 1) = (false && !la'.any fun a => a.f0 == c0)) := ⟨by rw [HFN.out, if_pos (by rw [d1, hp, hcc]; rfl)]⟩
                          clear HFN
                          go_wp2
                          go_loopw [11, 87] (fun f i wi => ∃ x : Nat, x ≤ la'.length ∧ i = .int .i64 x ∧ f = .bool (false && !(la'.take x).any fun a => a.f0 == c0) ∧ Aside0 (Below wq.heap.size wq wi)) (fun _ i _ => la'.length - (intOf i).toNat)
                          case atStart => exact ⟨0, Nat.zero_le _, rfl, by simp, ⟨Below.refl _ _⟩⟩
                          case round =>
                            obtain ⟨x, hxl, rfl, rfl, HWx⟩ := hrel
                            by_cases hxt : x < la'.length
                            · obtain ⟨ae, A5, k5, hAe, f0', f1', f2', f3', f4', f5', _, _⟩ := at_T45 (Kd.C_below HE10.out HWx.out) (x : Int) (by omega) (by omega)
                              rw [Int.toNat_natCast] at f0' f1' f2' f3' f4' f5'
                              subst hAe
                              have HXN := Aside0.mk (any_next (fun a : Ans => a.f0 == c0) hxt)
                              have hx3 : la'.length ≤ 2000 := HSM.out
                              have HXT := Aside0.mk hxt
                              have hbi := blk_below HBI.out HWx.out
                              generalize rd_T45 la' (x : Int) = a at HXN f0' f1' f2' f3' f4' f5'
                              obtain ⟨a0, a1, a2, ⟨a3, a4, a5⟩⟩ := a
                              simp only at f0' f1' f2' f3' f4' f5'
                              have hcq : (wr.alloc (.cells #[.int .i64 a0, .int .i64 a1, .int .i64 a2, .bool a3, .string a4, .slice A5 a5.length k5] 45)).cell? ⟨wo.heap.size, 4, none⟩ = some (.int .i64 c0) := (blk_cell (blk_alloc hbi _) 4).trans rfl
                              have HXN2 : Aside0 (((la'.take (x + 1)).any fun a => a.f0 == c0) = (((la'.take x).any fun a => a.f0 == c0) || (a0 == c0))) := ⟨HXN.out⟩
                              have HXA : Aside0 (Below wq.heap.size wq (wr.alloc (.cells #[.int .i64 a0, .int .i64 a1, .int .i64 a2, .bool a3, .string a4, .slice A5 a5.length k5] 45))) := ⟨HWx.out.alloc HWx.out.size _⟩
                              clear HXN hbi
                              generalize ((la'.take x).any fun a => a.f0 == c0) = pv at HXN2 ⊢
                              clear HXN2
                              go_wp2
                              go_roundw
                              case rel => exact ⟨x + 1, by have := HXT.out; omega, by go_num, rfl, HXA⟩
                              case measure => have := HXT.out; simp [intOf]; omega
                            · obtain rfl : x = la'.length := by omega
                              rw [show (false && !(la'.take la'.length).any fun a => a.f0 == c0) = flagAt t j c0 (k + 1) by rw [HFL.out, List.take_length]]
                              have HWK : Aside0 (Below wa.heap.size wa wr) := ⟨HBQ.out.trans (HWx.out.mono HBQ.out.size)⟩
                              go_wp2
                              go_roundw
                              case rel => exact ⟨k + 1, by omega, by go_num, rfl, HWK⟩
                              case measure => simp [intOf]; omega
                    · have d1 : decide (k < j) = false := decide_eq_false hkj
                      have d2 : decide ((k : Int) < j) = false := decide_eq_false (by omega)
                      go_wp2
                      rw [← hwq]
                      clear hwq h0 h1 h2 h3 h4 h5 h6 h7 h8 h9 h10 h11
                      have HFL : Aside0 (flagAt t j c0 (k + 1) = (flagAt t j c0 k && !la'.any fun a => a.f0 == c0)) := ⟨by rw [HFN.out, if_neg (by rw [d1]; simp)]⟩
                      clear HFN
                      go_wp2
                      go_loopw [11, 87] (fun f i wi => ∃ x : Nat, x ≤ la'.length ∧ i = .int .i64 x ∧ f = .bool (flagAt t j c0 k && !(la'.take x).any fun a => a.f0 == c0) ∧ Aside0 (Below wq.heap.size wq wi)) (fun _ i _ => la'.length - (intOf i).toNat)
                      case atStart => exact ⟨0, Nat.zero_le _, rfl, by simp, ⟨Below.refl _ _⟩⟩
                      case round =>
                        obtain ⟨x, hxl, rfl, rfl, HWx⟩ := hrel
                        by_cases hxt : x < la'.length
                        · obtain ⟨ae, A5, k5, hAe, f0', f1', f2', f3', f4', f5', _, _⟩ := at_T45 (Kd.C_below HE10.out HWx.out) (x : Int) (by omega) (by omega)
                          rw [Int.toNat_natCast] at f0' f1' f2' f3' f4' f5'
                          subst hAe
                          have HXN := Aside0.mk (any_next (fun a : Ans => a.f0 == c0) hxt)
                          have hx3 : la'.length ≤ 2000 := HSM.out
                          have HXT := Aside0.mk hxt
                          have hbi := blk_below HBI.out HWx.out
                          generalize rd_T45 la' (x : Int) = a at HXN f0' f1' f2' f3' f4' f5'
                          obtain ⟨a0, a1, a2, ⟨a3, a4, a5⟩⟩ := a
                          simp only at f0' f1' f2' f3' f4' f5'
                          have hcq : (wr.alloc (.cells #[.int .i64 a0, .int .i64 a1, .int .i64 a2, .bool a3, .string a4, .slice A5 a5.length k5] 45)).cell? ⟨wo.heap.size, 4, none⟩ = some (.int .i64 c0) := (blk_cell (blk_alloc hbi _) 4).trans rfl
                          have HXN2 : Aside0 (((la'.take (x + 1)).any fun a => a.f0 == c0) = (((la'.take x).any fun a => a.f0 == c0) || (a0 == c0))) := ⟨HXN.out⟩
                          have HXA : Aside0 (Below wq.heap.size wq (wr.alloc (.cells #[.int .i64 a0, .int .i64 a1, .int .i64 a2, .bool a3, .string a4, .slice A5 a5.length k5] 45))) := ⟨HWx.out.alloc HWx.out.size _⟩
                          clear HXN hbi
                          generalize ((la'.take x).any fun a => a.f0 == c0) = pv at HXN2 ⊢
                          obtain ⟨ff, hff⟩ : ∃ ff, flagAt t j c0 k = ff := ⟨_, rfl⟩
                          rw [hff]
                          have HFF := Aside0.mk hff
                          clear hff
                          cases ff
                          · go_wp2
                            go_roundw
                            case rel => exact ⟨x + 1, by have := HXT.out; omega, by go_num, rfl, HXA⟩
                            case measure => have := HXT.out; simp [intOf]; omega
                          · cases pv
                            · cases hq : (a0 == c0)
                              · have hqn : (a0 != c0) = true := by unfold bne; rw [hq]; rfl
                                have HXN3 : Aside0 (((la'.take (x + 1)).any fun a => a.f0 == c0) = false) := ⟨by rw [HXN2.out, hq]; rfl⟩
                                clear HXN2
                                go_wp2
                                go_roundw
                                case rel => exact ⟨x + 1, by have := HXT.out; omega, by go_num, by rw [HXN3.out]; rfl, HXA⟩
                                case measure => have := HXT.out; simp [intOf]; omega
                              · have hqn : (a0 != c0) = false := by unfold bne; rw [hq]; rfl
                                have HXN3 : Aside0 (((la'.take (x + 1)).any fun a => a.f0 == c0) = true) := ⟨by rw [HXN2.out, hq]; rfl⟩
                                clear HXN2
                                go_wp2
                                go_roundw
                                case rel => exact ⟨x + 1, by have := HXT.out; omega, by go_num, by rw [HXN3.out]; rfl, HXA⟩
                                case measure => have := HXT.out; simp [intOf]; omega
                            · have HXN3 : Aside0 (((la'.take (x + 1)).any fun a => a.f0 == c0) = true) := ⟨by rw [HXN2.out]; rfl⟩
                              clear HXN2
                              go_wp2
                              go_roundw
                              case rel => exact ⟨x + 1, by have := HXT.out; omega, by go_num, by rw [HXN3.out]; rfl, HXA⟩
                              case measure => have := HXT.out; simp [intOf]; omega
                        · obtain rfl : x = la'.length := by omega
                          rw [show (flagAt t j c0 k && !(la'.take la'.length).any fun a => a.f0 == c0) = flagAt t j c0 (k + 1) by rw [HFL.out, List.take_length]]
                          have HWK : Aside0 (Below wa.heap.size wa wr) := ⟨HBQ.out.trans (HWx.out.mono HBQ.out.size)⟩
                          go_wp2
                          go_roundw
                          case rel => exact ⟨k + 1, by omega, by go_num, rfl, HWK⟩
                          case measure => simp [intOf]; omega
                  · obtain rfl : k = t.length := by omega
                    rw [flag_all t j c0 (by omega)]
                    have HWN2 := HWN
                    have hz := blk_below HBA.out HWk.out
                    have z4 : wp.cell? ⟨wo.heap.size, 4, none⟩ = some (.int .i64 c0) := (blk_cell hz 4).trans rfl
                    have HBk : Aside0 (Below w3.heap.size w3 wp) := ⟨HBa.out.trans (HWk.out.mono HBa.out.size)⟩
                    have HR2 : Aside0 (Kd.R kI 3 wp w3.heap.size (fun _ => True) o (wantAt t j)) := ⟨Kd.R_below HRa.out HWk.out⟩
                    have hwl := want_len t j
                    have HJT := Aside0.mk hjt
                    clear hz
                    generalize (!made (t.take j) c0 && !answd t c0) = fv at HWN2 ⊢
                    cases fv
                    · have HW3 : Aside0 (wantAt t (j + 1) = wantAt t j) := ⟨by rw [HWN2.out]; simp⟩
                      clear HWN2
                      go_wp2
                      go_roundw
                      case rel => exact ⟨j + 1, _, rfl, by have := HJT.out; omega, by go_num, ⟨by rw [HW3.out]; exact HR2.out⟩, HBk⟩
                      case measure => have := HJT.out; simp [intOf]; omega
                    · have HW3 : Aside0 (wantAt t (j + 1) = wantAt t j ++ [c0]) := ⟨by rw [HWN2.out]; rfl⟩
                      clear HWN2
                      go_wp2_with ((with_reducible refine gate_builtin (b := .append) (xs := #[.tmp 104, .tmp 109]) rfl ?_); at_builtin; refine Kd.R_append kI (w0 := w3) w3.heap.size rfl (.tmp 104) (.tmp 109) 29 3 (.int .i64 0) 8 rfl Try.underlying29 infoI rfl (by decide) (by omega) _ (wantAt t j) c0 [.int .i64 c0] (fun _ => True) (fun _ => False) rfl rfl rfl (fun _ hk => hk.elim) (fun _ _ => trivial) HR2.out HBk.out HBk.out.size (by have := want_len t j; have := HTL.out; omega) ?_; intro v1 w9 hR1 hB1 hg1 hv1; rw [← HW3.out] at hR1; have HR1 := Aside0.mk hR1; have HB1 := Aside0.mk hB1; clear hR1 hB1 hg1 hv1)
                      go_roundw
                      case rel => exact ⟨j + 1, _, rfl, by have := HJT.out; omega, by go_num, HR1, HB1⟩
                      case measure => have := HJT.out; simp [intOf]; omega
            · obtain rfl : j = t.length := by omega
              have HR2 := HR.out
              rw [want_open HRU.out] at HR2
              obtain ⟨Aw, cw, rfl, hcw, hCw⟩ := Kd.R_reads HR2
              have HCW := Aside0.mk (And.intro hCw hcw)
              have cO := open_any A c t wo (Kd.C_below (Kd.C_below HCt.out HB3.out) HW.out) HSt.out HOt.out
              rw [HTM.out] at cO
              clear HR2 hcw hCw
              go_wp2_with fail
              refine cO.mono ?_
              rintro e w5 ⟨⟨Ao, co, rfl, hco, hCo⟩, h300, hB⟩
              have HB5 : Aside0 (Below W.heap.size W w5) := ⟨(HB3.out.trans (HW.out.mono HB3.out.size)).trans (hB.mono (HB3.out.trans (HW.out.mono HB3.out.size)).size)⟩
              have cI := ints_any Ao Aw co cw (openV t) w5 hCo hco (Kd.C_below HCW.out.1 hB) HCW.out.2 (by omega)
              clear hco hCo hB cO h300
              go_wp2_with fail
              refine cI.mono ?_
              rintro e w6 ⟨rfl, hB⟩
              have HB6 := Aside0.mk (HB5.out.trans (hB.mono HB5.out.size))
              clear hB cI
              go_wp2_with fail
              refine (cS.out _).mono ?_
              rintro e w7 ⟨rfl, hB⟩
              have HB7 := Aside0.mk (HB6.out.trans (hB.mono HB6.out.size))
              clear hB
              go_wp2
              go_ret
              exact ⟨rfl, HB7.out⟩
    · have ha1 : (ra == 0) = false := by simpa using ha
      have ha2 : (ra != 0) = true := by simpa using ha
      clear ha
      go_wp2_with fail
      refine (cS.out _).mono ?_
      rintro e w4 ⟨rfl, hB⟩
      have HB4 := Aside0.mk (HB3.out.trans (hB.mono HB3.out.size))
      clear hB
      go_wp2
      go_ret
      exact ⟨rfl, HB4.out⟩
  · clear hlb
    go_wp2_with fail
    refine (cS.out _).mono ?_
    rintro e w3 ⟨rfl, hB⟩
    have HB3 := Aside0.mk (HB2.out.trans (hB.mono HB2.out.size))
    clear hB
    go_wp2
    go_ret
    exact ⟨rfl, HB3.out⟩
end Go.Proofs.Ytegfnceepplooaa.TR

set_option linter.unusedVariables false
set_option linter.unusedSimpArgs false
namespace Go.Proofs.Ytegfnceepplooaa.TR
open Go.RowKit Go.Proofs.Ytegfnceepplooaa.FMap Go.Proofs.Ytegfnceepplooaa.PTR Go.Proofs.YtegfnceepplooaaW.PrintWords Go.Proofs.YtegfnceepplooaaW.PrintLast

abbrev UI := Try.underlying3
theorem opE (W : World) : Opens.OpensAt Try.prog W 103 k103 (fun _ => True) :=
  Opens.opens_mono (Opens.opens_struct (ts := [9, 9]) Try.underlying103 rfl (by kernel_rfl) (by kernel_rfl) (Opens.opens_cons (Opens.opens_string Try.underlying9) (Opens.opens_one (Opens.opens_string Try.underlying9))) (fun x : Ent => (x.f0, x.f1)) (fun p => ⟨p.1, p.2⟩) (fun _ => rfl)) (fun a h => trivial)
theorem opO (W : World) : Opens.OpensAt Try.prog W 31 k31 (fun _ => True) :=
  Opens.opens_mono (Opens.opens_struct (ts := [3, 9, 9]) Try.underlying31 rfl (by kernel_rfl) (by kernel_rfl) (Opens.opens_cons (Opens.opens_int Try.underlying3) (Opens.opens_cons (Opens.opens_string Try.underlying9) (Opens.opens_one (Opens.opens_string Try.underlying9)))) (fun x : Opn => (x.f0, x.f1, x.f2)) (fun p => ⟨p.1, p.2.1, p.2.2⟩) (fun _ => rfl)) (fun a h => trivial)
theorem opC (W : World) : Opens.OpensAt Try.prog W 33 k33 (fun x => (Lit.int .i64 x.f0).wf = true) :=
  Opens.opens_mono (Opens.opens_struct (ts := [3, 3, 31]) Try.underlying33 rfl (by kernel_rfl) (by kernel_rfl) (Opens.opens_cons (Opens.opens_int Try.underlying3) (Opens.opens_cons (Opens.opens_int Try.underlying3) (Opens.opens_one (opO W)))) (fun x : Call => (x.f0, x.f1, x.f2)) (fun p => ⟨p.1, p.2.1, p.2.2⟩) (fun _ => rfl)) (fun a h => h.1)
theorem opCh (W : World) : Opens.OpensAt Try.prog W 36 k36 (fun x => (Lit.int .i64 x.f1).wf = true ∧ (Lit.int .i64 x.f4.f0).wf = true) :=
  Opens.opens_mono (Opens.opens_struct (ts := [3, 3, 3, 3, 33, 34]) Try.underlying36 rfl (by kernel_rfl) (by kernel_rfl) (Opens.opens_cons (Opens.opens_int Try.underlying3) (Opens.opens_cons (Opens.opens_int Try.underlying3) (Opens.opens_cons (Opens.opens_int Try.underlying3) (Opens.opens_cons (Opens.opens_int Try.underlying3) (Opens.opens_cons (opC W) (Opens.opens_one (Opens.opens_slice (b := 1) Try.underlying34 (by kernel_rfl) (by kernel_rfl) (Opens.opens_int Try.underlying5)))))))) (fun x : Cho => (x.f0, x.f1, x.f2, x.f3, x.f4, x.f5)) (fun p => ⟨p.1, p.2.1, p.2.2.1, p.2.2.2.1, p.2.2.2.2.1, p.2.2.2.2.2⟩) (fun _ => rfl)) (fun a h => ⟨h.2.1, h.2.2.2.2.1⟩)
theorem opRes (W : World) : Opens.OpensAt Try.prog W 43 k43 (fun _ => True) :=
  Opens.opens_mono (Opens.opens_struct (ts := [4, 9, 41]) Try.underlying43 rfl (by kernel_rfl) (by kernel_rfl) (Opens.opens_cons (Opens.opens_bool Try.underlying4) (Opens.opens_cons (Opens.opens_string Try.underlying9) (Opens.opens_one (Opens.opens_slice (b := 32) Try.underlying41 (by kernel_rfl) (by kernel_rfl) (opE W))))) (fun x : Res => (x.f0, x.f1, x.f2)) (fun p => ⟨p.1, p.2.1, p.2.2⟩) (fun _ => rfl)) (fun a h => trivial)
theorem opA (W : World) : Opens.OpensAt Try.prog W 45 k45 okA :=
  Opens.opens_mono (Opens.opens_struct (ts := [3, 3, 3, 43]) Try.underlying45 rfl (by kernel_rfl) (by kernel_rfl) (Opens.opens_cons (Opens.opens_int Try.underlying3) (Opens.opens_cons (Opens.opens_int Try.underlying3) (Opens.opens_cons (Opens.opens_int Try.underlying3) (Opens.opens_one (opRes W))))) (fun x : Ans => (x.f0, x.f1, x.f2, x.f3)) (fun p => ⟨p.1, p.2.1, p.2.2.1, p.2.2.2⟩) (fun _ => rfl)) (fun a h => ⟨h.1, h.2.1, h.2.2.1⟩)
theorem opR (W : World) : Opens.OpensAt Try.prog W 50 k50 (fun x => (Lit.int .i64 x.f5).wf = true) :=
  Opens.opens_mono (Opens.opens_struct (ts := [3, 3, 3, 3, 3, 3, 9, 9]) Try.underlying50 rfl (by kernel_rfl) (by kernel_rfl) (Opens.opens_cons (Opens.opens_int Try.underlying3) (Opens.opens_cons (Opens.opens_int Try.underlying3) (Opens.opens_cons (Opens.opens_int Try.underlying3) (Opens.opens_cons (Opens.opens_int Try.underlying3) (Opens.opens_cons (Opens.opens_int Try.underlying3) (Opens.opens_cons (Opens.opens_int Try.underlying3) (Opens.opens_cons (Opens.opens_string Try.underlying9) (Opens.opens_one (Opens.opens_string Try.underlying9))))))))) (fun x : Rec => (x.f0, x.f1, x.f2, x.f3, x.f4, x.f5, x.f6, x.f7)) (fun p => ⟨p.1, p.2.1, p.2.2.1, p.2.2.2.1, p.2.2.2.2.1, p.2.2.2.2.2.1, p.2.2.2.2.2.2.1, p.2.2.2.2.2.2.2⟩) (fun _ => rfl)) (fun a h => h.2.2.2.2.2.1)
/-- What is known of a step that came in. -/
def bS (x : Seen) : Prop := okS x ∧ x.f1.length ≤ 140737488351232 ∧ x.f2.length ≤ 140737488351232
theorem opS (W : World) : Opens.OpensAt Try.prog W 40 kS bS :=
  Opens.opens_mono (Opens.opens_struct (ts := [36, 37, 38]) Try.underlying40 rfl (by kernel_rfl) (by kernel_rfl) (Opens.opens_cons (opCh W) (Opens.opens_cons (Opens.opens_slice (b := 72) Try.underlying37 (by kernel_rfl) (by kernel_rfl) (opA W)) (Opens.opens_one (Opens.opens_slice (b := 80) Try.underlying38 (by kernel_rfl) (by kernel_rfl) (opR W))))) (fun x : Seen => (x.f0, x.f1, x.f2)) (fun p => ⟨p.1, p.2.1, p.2.2⟩) (fun _ => rfl)) (fun a h => by
    obtain ⟨h1, ⟨h2, h3⟩, h4, h5⟩ := h
    exact ⟨⟨h1.1, h1.2, h3, h5⟩, by have : a.f1.length * 72 ≤ 140737488351232 := h2; omega, by have : a.f2.length * 80 ≤ 140737488351232 := h4; omega⟩)
theorem opL (W : World) : Opens.OpensAt Try.prog W 22 (Kd.slice 40 kS) (fun l => l.length ≤ 140737488351232 ∧ ∀ s ∈ l, bS s) :=
  Opens.opens_mono (Opens.opens_slice (b := 160) Try.underlying22 (by kernel_rfl) (by kernel_rfl) (opS W)) (fun l h => ⟨by have : l.length * 160 ≤ 140737488351232 := h.1; omega, h.2⟩)
end Go.Proofs.Ytegfnceepplooaa.TR

set_option linter.unusedVariables false
namespace Go.Proofs.Ytegfnceepplooaa.traceOpen
open Go.ChangeShapes Go.WideShapes Go.ChangeAt Go.RowKit
open Go.Proofs.YtegfnceepplooaaW.PrintWords Go.Proofs.Ytegfnceepplooaa.PTR

theorem own : ownKnob Try.prog.godebug = none := by kernel_rfl
theorem laidOut : laidOutB Try.prog = true := by kernel_rfl
set_option maxRecDepth 100000 in
theorem lifted (os : Os) (started : os.Started) (H : Type) (enc : TypeId × Value → H) :
    ReturnsInHanded {} Try.checked os 4 .any (Rows.traceOpenSpec.pre6 enc Try.prog Try.f4 Rows.traceOpenRow.domain false) (Rows.traceOpenSpec.post enc Try.prog Try.f4 false true false false) := by
  refine returnsInHanded_of_change_sized (C := Try.checked) own started (by kernel_rfl) Try.func4
    (ChangeSpec.witness6 (enc := enc) (C := Try.checked) false ⟨#[], #[.slice none 0 0, .int .i64 0], []⟩ 8 (by kernel_rfl) (by kernel_rfl) (by kernel_rfl) (by kernel_rfl)) ?_
  intro W base args ds gs before hval0 hW hcnd hsz0 _
  have hsz : (DataW.weightsEach Try.prog (Try.f4.params.toList ++ Rows.traceOpenSpec.plain.varTypes Try.prog) (ds ++ gs)).all (· ≤ reachBytes) = true := hsz0
  have hval : ∀ (j : Nat) t v, Try.f4.params[j]? = some t → args[j]? = some v → Value.okWide Try.prog W .any base t v := hval0
  have hW' := hW
  obtain ⟨p, q, hA0, hV, rfl, hfz, hnd⟩ := hW
  have hA : DataW.TrodAll enc Try.prog W 0 (fun _ => true) true Try.f4.params.toList args.toList ds p := hA0
  rw [Try.params4] at hA hval hsz
  obtain ⟨v0, vs0, d0, ds0, p0, q0, hargs, rfl, rfl, h0, r0⟩ := trodAll_cons hA
  obtain ⟨v1, vs1, d1, ds1, p1, q1, rfl, rfl, rfl, h1, r1⟩ := trodAll_cons r0
  obtain ⟨rfl, rfl, rfl⟩ := trodAll_nil r1
  obtain rfl : args = #[v0, v1] := by cases args; simp_all
  obtain ⟨rfl, rfl⟩ := trodVars_none hV
  have k0 := h0
  have lt0 : ∀ x ∈ p0, x.block < W.heap.size := by obtain ⟨m, hm⟩ := k0; exact DataW.trod_lt m _ _ _ hm
  obtain ⟨a0, len0, cap0, rfl⟩ := okWide_slice Try.underlying22 (hval 0 22 v0 rfl rfl)
  obtain ⟨x0, ⟨A0, c0, hcs0, hc0, hr0⟩, hb0⟩ := TR.opL W enc _ _ _ _ _ _ h0.choose_spec (Opens.weights_le hsz (j := 0) (t := 22) rfl rfl)
  simp only [Value.cells, List.cons.injEq, and_true, Value.slice.injEq] at hcs0
  obtain ⟨rfl, rfl, rfl⟩ := hcs0
  obtain ⟨hl0, hs0⟩ := hb0
  obtain ⟨x1, rfl, rfl, rfl, w1⟩ := open_int Try.underlying3 (hval 1 3 v1 rfl rfl) h1
  clear hA0 hval0 hsz0 hsz
  refine (TR.opens_law _ _ x0 x1 W hr0 hc0 hl0 (fun s h => (hs0 s h).2) (fun s h => (hs0 s h).1)).mono fun e W' ⟨he, bel⟩ => ?_
  subst he
  exact ⟨_, rfl, _, _, _, [], _, [], hW', trodAll_mk1 (shut_bool Try.underlying4 _), (trodAll_cons_mk (Below.trod laidOut (by kernel_rfl) (of_decide_eq_true (by kernel_rfl)) k0 bel lt0) (trodAll_cons_mk (shut_int Try.underlying3 w1) trodAll_mk0)), rfl, bel.frame _, fun h => by cases h⟩
theorem over : Rows.traceOpenRow.holds Try.pinned (OpenSpec.ofChange Rows.traceOpenSpec) :=
  OpenClaim.holds_of_wide 4 Try.f4 rfl rfl rfl rfl rfl rfl rfl ⟨rfl, rfl, rfl, rfl, rfl⟩ rfl rfl rfl rfl rfl (by kernel_rfl) Try.func4 (by kernel_rfl)
    (of_decide_eq_true (by kernel_rfl)) (by unfold Func.isWrapper; first | (rw [if_pos (by decide +kernel)]; kernel_rfl) | (rw [if_neg (by decide +kernel)]; exact ⟨rfl, rfl⟩))
    (fun os started H enc _ => lifted os started H enc)
theorem proved : Rows.TraceOpenSaid := over
#print axioms proved
end Go.Proofs.Ytegfnceepplooaa.traceOpen
namespace Go.Proofs.Ytegfnceepplooaa
/-- The row, under a short name, for the claim. -/
theorem traceOpen_holds : Rows.TraceOpenSaid := traceOpen.proved
end Go.Proofs.Ytegfnceepplooaa
