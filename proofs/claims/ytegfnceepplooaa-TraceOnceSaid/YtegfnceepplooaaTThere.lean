/- Trace: rule 3 walked: is a write that is acked in the history? -/
import Derived.Test.YtegfnceepplooaaTKnown
import Derived.Test.YtegfnceepplooaaPTRx10
set_option linter.unusedVariables false
set_option linter.unusedSimpArgs false
namespace Go.Proofs.Ytegfnceepplooaa.TR
open Go.RowKit Go.Maps Go.Proofs.Ytegfnceepplooaa.FMap Go.Proofs.Ytegfnceepplooaa.PTR Go.Proofs.YtegfnceepplooaaW.PrintWords Go.Proofs.YtegfnceepplooaaW.PrintLast

theorem write_any (o0 : Int) (o1 o2 : ByteArray) (W : World) : Calls Try.prog 19 #[.agg #[.int .i64 o0, .string o1, .string o2]] W fun e W' => e = .returned (.bool (writeV ⟨o0, o1, o2⟩)) ∧ Below W.heap.size W W' :=
  trace_write.calls o0 o1 o2 _ W (by
    unfold trace_write.f writeV
    by_cases h : o0 = 2
    · rw [if_pos h]; simp [h]
    · rw [if_neg h]
      have : (o0 == 2) = false := by simpa using h
      simp [this])
theorem place_any {w0 W : World} {Ah : Option Addr} {ch : Nat} {h : List Rec} (hC : Kd.C kR W Ah h.length h) (hc : h.length ≤ ch) (hl : h.length ≤ 1099511627776) (req : Int) :
    Calls Try.prog 33 #[.slice Ah h.length ch, .int .i64 req] W fun e W' => e = .returned (.tuple #[.int .i64 (placeV (histV h) req).1, .bool (placeV (histV h) req).2]) ∧ Below W.heap.size W W' := by
  refine fold_Place.calls Ah ch h req _ _ W hC hc ?_
  unfold fold_Place.f fold_History.f
  have := histV_len h
  rw [if_pos hl, Option.bind_some, if_pos (by omega)]

set_option maxHeartbeats 4000000 in
set_option maxRecDepth 100000 in
theorem there_any {w0 W : World} {bw n : Nat} {st : St} {h : List Rec} {bc bd bf : Nat} {vo : Value} {Ab : Option Addr} {cb : Nat} {Ah : Option Addr} {ch : Nat} (H : WAt w0 W bw n st h bc bd bf vo Ab cb Ah ch)
    (hl : h.length ≤ 1099511627776) (a0 a1 a2 : Int) (a3 : Bool) (a4 : ByteArray) (a5 : List Ent) (Ae : Option Addr) (ce : Nat) (hx : (Lit.int .i64 a0).wf = true) (c : Call) (hcall : st.calls a0 = some c) :
    Calls Try.prog 23 #[.pointer (some ⟨bw, 0, none⟩), .agg #[.int .i64 a0, .int .i64 a1, .int .i64 a2, .bool a3, .string a4, .slice Ae a5.length ce]] W fun e W' => e = .returned (.bool (thereV h ⟨a0, a1, a2, ⟨a3, a4, a5⟩⟩ c.f2)) ∧ Below W.heap.size W W' := by
  obtain ⟨W1, hW1⟩ : ∃ W1, W1 = W.alloc (.cells #[.int .i64 a0, .int .i64 a1, .int .i64 a2, .bool a3, .string a4, .slice Ae a5.length ce] 45) := ⟨_, rfl⟩
  have hB : Below W.heap.size W W1 := by rw [hW1]; exact (Below.refl _ W).alloc (Nat.le_refl _) _
  have H1 := H.stay hB
  have hs : W1.heap.size = W.heap.size + 1 := by rw [hW1]; simp
  have x0 : W1.cell? ⟨W.heap.size, 0, none⟩ = some (.int .i64 a0) := by rw [hW1]; simp
  have x2 : W1.cell? ⟨W.heap.size, 2, none⟩ = some (.int .i64 a2) := by rw [hW1]; simp
  have c0' : W1.cell? ⟨bw, 0, none⟩ = some (.map (some bc)) := (blk_cell H1.block 0).trans rfl
  have hl1 := fun nn => lookC (W := W1.drewN nn) (H1.calls.same rfl) hx
  obtain ⟨f0, f1, ⟨o0, o1, o2⟩⟩ := c
  rw [hcall] at hl1
  replace hl1 : ∀ nn, (Instr.lookup 60 (.map (some bc)) (.int .i64 a0) false).run Try.prog (W1.drewN nn) = .ok (.agg #[.int .i64 f0, .int .i64 f1, .int .i64 o0, .string o1, .string o2]) (W1.drewN nn) := hl1
  have hl0 : (Instr.lookup 60 (.map (some bc)) (.int .i64 a0) false).run Try.prog W1 = .ok (.agg #[.int .i64 f0, .int .i64 f1, .int .i64 o0, .string o1, .string o2]) W1 := hl1 0
  have hld : (Instr.lookup 60 (.map (some bc)) (.int .i64 a0) false).run Try.prog W1.drew = .ok (.agg #[.int .i64 f0, .int .i64 f1, .int .i64 o0, .string o1, .string o2]) W1.drew := by
    have := lookC (W := W1.drew) (H1.calls.same rfl) hx
    rw [hcall] at this
    exact this
  have HB := Aside0.mk hB
  have HH := Aside0.mk H1
  have HS := Aside0.mk hs
  have HL := Aside0.mk hl
  have cW := fun W => write_any o0 o1 o2 W
  have hfd : ∀ w : World, (Instr.field 33 (.agg #[.int .i64 f0, .int .i64 f1, .int .i64 o0, .string o1, .string o2]) 2).run Try.prog w = .ok (.agg #[.int .i64 o0, .string o1, .string o2]) w := fun w => by as_aux_lemma => kernel_rfl
  have HT : Aside0 (thereV h ⟨a0, a1, a2, ⟨a3, a4, a5⟩⟩ ⟨o0, o1, o2⟩ = (!((a2 == 1) && writeV ⟨o0, o1, o2⟩) || (placeV (histV h) a0).2)) := ⟨rfl⟩
  clear H H1 hB hs hcall hl
  generalize writeV ⟨o0, o1, o2⟩ = wv at cW HT
  cases h1 : (a2 == 1)
  · have h1n : (a2 != 1) = true := by unfold bne; rw [h1]; rfl
    have HK : Aside0 (thereV h ⟨a0, a1, a2, ⟨a3, a4, a5⟩⟩ ⟨o0, o1, o2⟩ = true) := ⟨by rw [HT.out, h1]; rfl⟩
    clear HT
    go_enter Try.func23, Try.ntmps23
    go_wp2
    rw [← hW1]
    have HWE := Aside0.mk hW1
    clear hW1
    go_quiet (fail)
    go_wp2
    go_ret
    exact ⟨by rw [HK.out]; rfl, pw_below_drewN HB.out _⟩
  · have h1n : (a2 != 1) = false := by unfold bne; rw [h1]; rfl
    cases wv
    · have HK : Aside0 (thereV h ⟨a0, a1, a2, ⟨a3, a4, a5⟩⟩ ⟨o0, o1, o2⟩ = true) := ⟨by rw [HT.out, h1]; rfl⟩
      clear HT
      go_enter Try.func23, Try.ntmps23
      go_wp2
      rw [← hW1]
      have HWE := Aside0.mk hW1
      clear hW1
      go_still_tail 12, (by kernel_rfl)
      change wpList _ _ _ _ _ W1.drew
      generalize hW2 : W1.drew = W2
      have HB2 : Aside0 (Below W.heap.size W W2) := ⟨by rw [← hW2]; exact HB.out.drew⟩
      clear hW2 hl0 hl1 hld x0 x2 c0'
      go_wp2_with fail
      refine (cW _).mono ?_
      rintro e w3 ⟨rfl, hb⟩
      have HB3 := Aside0.mk (HB2.out.trans (hb.mono HB2.out.size))
      clear hb
      go_wp2
      go_ret
      exact ⟨by rw [HK.out]; rfl, HB3.out⟩
    · have HK : Aside0 (thereV h ⟨a0, a1, a2, ⟨a3, a4, a5⟩⟩ ⟨o0, o1, o2⟩ = (placeV (histV h) a0).2) := ⟨by rw [HT.out, h1]; rfl⟩
      clear HT
      go_enter Try.func23, Try.ntmps23
      go_wp2
      rw [← hW1]
      have HWE := Aside0.mk hW1
      clear hW1
      go_still_tail 12, (by kernel_rfl)
      change wpList _ _ _ _ _ W1.drew
      generalize hW2 : W1.drew = W2
      have hB12 : Below W1.heap.size W1 W2 := by rw [← hW2]; exact (Below.refl _ W1).drew
      have HB2 : Aside0 (Below W.heap.size W W2) := ⟨HB.out.trans (hB12.mono HB.out.size)⟩
      have HH2 := Aside0.mk (HH.out.stay hB12)
      have HX0 : Aside0 (∀ w3, Below W2.heap.size W2 w3 → w3.cell? ⟨W.heap.size, 0, none⟩ = some (.int .i64 a0)) := ⟨fun w3 h3 => ((hB12.trans (h3.mono hB12.size)).cell (p := ⟨W.heap.size, 0, none⟩) (by have := HS.out; show W.heap.size < _; omega)).trans x0⟩
      clear hW2 hl0 hl1 hld x0 x2 c0' hB12
      go_wp2_with fail
      refine (cW _).mono ?_
      rintro e w3 ⟨rfl, hb⟩
      have HB3 := Aside0.mk (HB2.out.trans (hb.mono HB2.out.size))
      have H3 := HH2.out.stay hb
      have x0 := HX0.out w3 hb
      have c5 : w3.cell? ⟨bw, 5, none⟩ = some (.slice Ah h.length ch) := (blk_cell H3.block 5).trans rfl
      have cP := fun w4 (h4 : Below w3.heap.size w3 w4) => place_any (w0 := w0) (Kd.C_below (Kd.C_below H3.at_h.1 H3.below) h4) H3.at_h.2 HL.out a0
      clear hb H3
      go_wp2
      have SX : Aside0 (∀ w', Below w3.heap.size w3 w' → w'.cell? ⟨bw, 5, none⟩ = some (.slice Ah h.length ch) ∧ w'.cell? ⟨W.heap.size, 0, none⟩ = some (.int .i64 a0)) := ⟨fun w' hw => ⟨(hw.cell (p := ⟨bw, 5, none⟩) (World.block_lt_of_cell? w3 _ c5)).trans c5, (hw.cell (p := ⟨W.heap.size, 0, none⟩) (World.block_lt_of_cell? w3 _ x0)).trans x0⟩⟩
      have CP := Aside0.mk cP
      clear cP x0 c5
      go_region_held3 (fun w' => w'.cell? ⟨bw, 5, none⟩ = some (.slice Ah h.length ch) ∧ w'.cell? ⟨W.heap.size, 0, none⟩ = some (.int .i64 a0)) (first | exact SX.out _ HWN.out | exact SX.out _ (below_drew (Below.refl _ _)) | exact SX.out _ (Below.refl _ _)) (first | (go_at_call 33; refine (CP.out _ (below_drew (Below.refl _ _))).mono ?_; rintro e w' ⟨rfl, hb⟩; have HWN : Aside0 (Below w3.heap.size w3 w') := ⟨(below_drew (Below.refl _ _)).trans (hb.mono (Nat.le_refl _))⟩; clear hb))
      generalize placeV (histV h) a0 = pv at HK
      obtain ⟨p1, p2⟩ := pv
      go_wp2
      go_ret
      exact ⟨by rw [HK.out]; rfl, HB3.out.trans (HWN.out.mono HB3.out.size)⟩
end Go.Proofs.Ytegfnceepplooaa.TR
