/- Trace: rule 6 walked: does an answer that tells nothing tell nothing? -/
import Derived.Test.YtegfnceepplooaaTThere
set_option linter.unusedVariables false
set_option linter.unusedSimpArgs false
namespace Go.Proofs.Ytegfnceepplooaa.TR
open Go.RowKit Go.Maps Go.Proofs.Ytegfnceepplooaa.FMap Go.Proofs.Ytegfnceepplooaa.PTR Go.Proofs.YtegfnceepplooaaW.PrintWords Go.Proofs.YtegfnceepplooaaW.PrintLast

set_option maxHeartbeats 8000000 in
set_option maxRecDepth 100000 in
theorem empty_any {w0 W : World} {bw n : Nat} {st : St} {h : List Rec} {bc bd bf : Nat} {vo : Value} {Ab : Option Addr} {cb : Nat} {Ah : Option Addr} {ch : Nat} (H : WAt w0 W bw n st h bc bd bf vo Ab cb Ah ch)
    (a0 a1 a2 : Int) (a3 : Bool) (a4 : ByteArray) (a5 : List Ent) (Ae : Option Addr) (ce : Nat) (hx : (Lit.int .i64 a0).wf = true) (c : Call) (hcall : st.calls a0 = some c) :
    Calls Try.prog 25 #[.pointer (some ⟨bw, 0, none⟩), .agg #[.int .i64 a0, .int .i64 a1, .int .i64 a2, .bool a3, .string a4, .slice Ae a5.length ce]] W fun e W' => e = .returned (.bool (emptyV ⟨a0, a1, a2, ⟨a3, a4, a5⟩⟩ c.f2)) ∧ Below W.heap.size W W' := by
  obtain ⟨W1, hW1⟩ : ∃ W1, W1 = (W.alloc (.cells #[.int .i64 a0, .int .i64 a1, .int .i64 a2, .bool a3, .string a4, .slice Ae a5.length ce] 45)).alloc (.cells #[.bool a3, .string a4, .slice Ae a5.length ce] 43) := ⟨_, rfl⟩
  have hB : Below W.heap.size W W1 := by rw [hW1]; exact ((Below.refl _ W).alloc (Nat.le_refl _) _).alloc (by simp) _
  have H1 := H.stay hB
  have hs : W1.heap.size = W.heap.size + 1 + 1 := by rw [hW1]; simp
  have x0 : W1.cell? ⟨W.heap.size, 0, none⟩ = some (.int .i64 a0) := by rw [hW1]; simp
  have x2 : W1.cell? ⟨W.heap.size, 2, none⟩ = some (.int .i64 a2) := by rw [hW1]; simp
  have r0 : W1.cell? ⟨W.heap.size + 1, 0, none⟩ = some (.bool a3) := by
    rw [hW1]
    have := blk_new (W.alloc (.cells #[.int .i64 a0, .int .i64 a1, .int .i64 a2, .bool a3, .string a4, .slice Ae a5.length ce] 45)) (.cells #[.bool a3, .string a4, .slice Ae a5.length ce] 43)
    rw [World.size_alloc] at this
    exact (blk_cell this 0).trans rfl
  have r1 : W1.cell? ⟨W.heap.size + 1, 1, none⟩ = some (.string a4) := by
    rw [hW1]
    have := blk_new (W.alloc (.cells #[.int .i64 a0, .int .i64 a1, .int .i64 a2, .bool a3, .string a4, .slice Ae a5.length ce] 45)) (.cells #[.bool a3, .string a4, .slice Ae a5.length ce] 43)
    rw [World.size_alloc] at this
    exact (blk_cell this 1).trans rfl
  have r2 : W1.cell? ⟨W.heap.size + 1, 2, none⟩ = some (.slice Ae a5.length ce) := by
    rw [hW1]
    have := blk_new (W.alloc (.cells #[.int .i64 a0, .int .i64 a1, .int .i64 a2, .bool a3, .string a4, .slice Ae a5.length ce] 45)) (.cells #[.bool a3, .string a4, .slice Ae a5.length ce] 43)
    rw [World.size_alloc] at this
    exact (blk_cell this 2).trans rfl
  have c0' : W1.cell? ⟨bw, 0, none⟩ = some (.map (some bc)) := (blk_cell H1.block 0).trans rfl
  obtain ⟨f0, f1, ⟨o0, o1, o2⟩⟩ := c
  have hld : (Instr.lookup 60 (.map (some bc)) (.int .i64 a0) false).run Try.prog W1.drew = .ok (.agg #[.int .i64 f0, .int .i64 f1, .int .i64 o0, .string o1, .string o2]) W1.drew := by
    have := lookC (W := W1.drew) (H1.calls.same rfl) hx
    rw [hcall] at this
    exact this
  have HB := Aside0.mk hB
  have cW := fun W => write_any o0 o1 o2 W
  have hfd : ∀ w : World, (Instr.field 33 (.agg #[.int .i64 f0, .int .i64 f1, .int .i64 o0, .string o1, .string o2]) 2).run Try.prog w = .ok (.agg #[.int .i64 o0, .string o1, .string o2]) w := fun w => by as_aux_lemma => kernel_rfl
  have HT : Aside0 (emptyV ⟨a0, a1, a2, ⟨a3, a4, a5⟩⟩ ⟨o0, o1, o2⟩ = (((a2 == 1) && !writeV ⟨o0, o1, o2⟩) || ((a4.toList.isEmpty && ((a5.length : Int) == 0)) && ((a2 == 1) || !a3)))) := ⟨by
    unfold emptyV asksV bareA
    have : a5.isEmpty = ((a5.length : Int) == 0) := by cases a5 <;> simp <;> omega
    rw [← this]⟩
  clear H H1 hB hcall
  generalize writeV ⟨o0, o1, o2⟩ = wv at cW HT
  have h5 : ∀ b, ((a5.length : Int) == 0) = b → (a5.length == 0) = b := fun b hb => by rw [← hb]; cases a5 <;> simp <;> omega
  have HS := Aside0.mk hs
  clear hs
  cases h1 : (a2 == 1)
  · have h1n : (a2 != 1) = true := by unfold bne; rw [h1]; rfl
    have HH1 := Aside0.mk h1
    cases h4 : a4.toList.isEmpty <;> cases hl : ((a5.length : Int) == 0) <;> cases a3
    all_goals
      have hl2 := h5 _ hl
      have HT2 := Aside0.mk (show _ ∧ _ from ⟨h4, hl⟩)
      have h4s : (a4.toList == []) = a4.toList.isEmpty := by cases a4.toList <;> rfl
      rw [h4] at h4s
      clear h5
      go_enter Try.func25, Try.ntmps25
      go_wp2
      rw [← hW1]
      have HWE := Aside0.mk hW1
      clear hW1
      go_quiet (fail)
      go_wp2
      go_ret
      exact ⟨by rw [HT.out, HH1.out, HT2.out.1, HT2.out.2]; rfl, pw_below_drewN HB.out _⟩
  · have h1n : (a2 != 1) = false := by unfold bne; rw [h1]; rfl
    have HH1 := Aside0.mk h1
    have HSX : Aside0 (∀ w', Below W1.heap.size W1 w' → w'.cell? ⟨bw, 0, none⟩ = some (.map (some bc)) ∧ w'.cell? ⟨W.heap.size, 0, none⟩ = some (.int .i64 a0) ∧ w'.cell? ⟨W.heap.size, 2, none⟩ = some (.int .i64 a2) ∧ w'.cell? ⟨W.heap.size + 1, 0, none⟩ = some (.bool a3)) := ⟨fun w' hw => ⟨(hw.cell (p := ⟨bw, 0, none⟩) (World.block_lt_of_cell? W1 _ c0')).trans c0', (hw.cell (p := ⟨W.heap.size, 0, none⟩) (World.block_lt_of_cell? W1 _ x0)).trans x0, (hw.cell (p := ⟨W.heap.size, 2, none⟩) (World.block_lt_of_cell? W1 _ x2)).trans x2, (hw.cell (p := ⟨W.heap.size + 1, 0, none⟩) (World.block_lt_of_cell? W1 _ r0)).trans r0⟩⟩
    cases h4 : a4.toList.isEmpty <;> cases hl : ((a5.length : Int) == 0) <;> cases wv
    all_goals
      have hl2 := h5 _ hl
      have HT2 := Aside0.mk (show _ ∧ _ from ⟨h4, hl⟩)
      have h4s : (a4.toList == []) = a4.toList.isEmpty := by cases a4.toList <;> rfl
      rw [h4] at h4s
      clear h5
      go_enter Try.func25, Try.ntmps25
      go_wp2
      rw [← hW1]
      have HWE := Aside0.mk hW1
      clear hW1
      go_still_tail 12, (by kernel_rfl)
      change wpList _ _ _ _ _ W1.drew
      generalize hW2 : W1.drew = W2
      have HB2 : Aside0 (Below W1.heap.size W1 W2) := ⟨by rw [← hW2]; exact (Below.refl _ W1).drew⟩
      clear hW2 hld c0' x0 x2 r0 r1 r2
      go_wp2_with fail
      refine (cW _).mono ?_
      rintro e w3 ⟨rfl, hb⟩
      have HWN : Aside0 (Below W1.heap.size W1 w3) := ⟨HB2.out.trans (hb.mono HB2.out.size)⟩
      obtain ⟨_, _, y2, y3⟩ := HSX.out w3 HWN.out
      clear hb
      go_wp2
      go_ret
      exact ⟨by rw [HT.out, HH1.out, HT2.out.1, HT2.out.2]; rfl, HB.out.trans (HWN.out.mono HB.out.size)⟩
end Go.Proofs.Ytegfnceepplooaa.TR
