/- Trace: rule 2 walked: is an answer one to a call that was made and not answered? -/
import Derived.Test.YtegfnceepplooaaTMem
import Derived.BigRegion
import Derived.RegionTactic
import Derived.ChangeAlike
import Derived.Deep.RegionHeld3
set_option linter.unusedVariables false
set_option linter.unusedSimpArgs false
namespace Go.Proofs.Ytegfnceepplooaa.TR
open Go.RowKit Go.Maps Go.Proofs.Ytegfnceepplooaa.FMap Go.Proofs.Ytegfnceepplooaa.PTR Go.Proofs.YtegfnceepplooaaW.PrintWords Go.Proofs.YtegfnceepplooaaW.PrintLast

/-- An answer as a value. -/
def valA (a : Ans) (Ae : Option Addr) (ce : Nat) : Value := .agg #[.int .i64 a.f0, .int .i64 a.f1, .int .i64 a.f2, .bool a.f3.f0, .string a.f3.f1, .slice Ae a.f3.f2.length ce]

set_option maxHeartbeats 4000000 in
set_option maxRecDepth 100000 in
theorem known_any {w0 W : World} {bw n : Nat} {st : St} {h : List Rec} {bc bd bf : Nat} {vo : Value} {Ab : Option Addr} {cb : Nat} {Ah : Option Addr} {ch : Nat} (H : WAt w0 W bw n st h bc bd bf vo Ab cb Ah ch)
    (a0 a1 a2 : Int) (a3 : Bool) (a4 : ByteArray) (a5 : List Ent) (Ae : Option Addr) (ce : Nat) (hx : (Lit.int .i64 a0).wf = true) :
    Calls Try.prog 22 #[.pointer (some ⟨bw, 0, none⟩), .agg #[.int .i64 a0, .int .i64 a1, .int .i64 a2, .bool a3, .string a4, .slice Ae a5.length ce]] W fun e W' => e = .returned (.bool (knownV st ⟨a0, a1, a2, ⟨a3, a4, a5⟩⟩)) ∧ Below W.heap.size W W' := by
  obtain ⟨W1, hW1⟩ : ∃ W1, W1 = W.alloc (.cells #[.int .i64 a0, .int .i64 a1, .int .i64 a2, .bool a3, .string a4, .slice Ae a5.length ce] 45) := ⟨_, rfl⟩
  have hB : Below W.heap.size W W1 := by rw [hW1]; exact (Below.refl _ W).alloc (Nat.le_refl _) _
  have H1 := H.stay hB
  have hs : W1.heap.size = W.heap.size + 1 := by rw [hW1]; simp
  have x0 : W1.cell? ⟨W.heap.size, 0, none⟩ = some (.int .i64 a0) := by rw [hW1]; simp
  have x1 : W1.cell? ⟨W.heap.size, 1, none⟩ = some (.int .i64 a1) := by rw [hW1]; simp
  have x2 : W1.cell? ⟨W.heap.size, 2, none⟩ = some (.int .i64 a2) := by rw [hW1]; simp
  have c0' : W1.cell? ⟨bw, 0, none⟩ = some (.map (some bc)) := (blk_cell H1.block 0).trans rfl
  have c1' : W1.cell? ⟨bw, 1, none⟩ = some (.map (some bd)) := (blk_cell H1.block 1).trans rfl
  have hl := lookC_ok (W := W1.drew) (H1.calls.same rfl) hx
  have hl1 := lookC_ok (W := (W1.alloc (.cells #[.int .i64 0, .int .i64 0, .int .i64 0, .string ⟨#[]⟩, .string ⟨#[]⟩] 33)).drew) (H1.calls.same (Below.heap_alloc _ _ _ H1.calls.lt)) hx
  have hl2 := fun W2 (h : Below W1.heap.size W1 W2) => lookI_ok (H1.codes.same (h.block _ H1.codes.lt)) hx
  have hbw : bw < W1.heap.size := blk_lt H1.block
  have hbne : bw ≠ W1.heap.size := Nat.ne_of_lt hbw
  have hwne : W.heap.size ≠ W1.heap.size := by omega
  have z0 : (W1.alloc (.cells #[.int .i64 0, .int .i64 0, .int .i64 0, .string ⟨#[]⟩, .string ⟨#[]⟩] 33)).cell? ⟨bw, 0, none⟩ = some (.map (some bc)) := ((Below.refl W1.heap.size W1).alloc (Nat.le_refl _) _).cell (p := ⟨bw, 0, none⟩) hbw |>.trans c0'
  have z1 : (W1.alloc (.cells #[.int .i64 0, .int .i64 0, .int .i64 0, .string ⟨#[]⟩, .string ⟨#[]⟩] 33)).cell? ⟨W.heap.size, 0, none⟩ = some (.int .i64 a0) := ((Below.refl W1.heap.size W1).alloc (Nat.le_refl _) _).cell (p := ⟨W.heap.size, 0, none⟩) (by show W.heap.size < _; omega) |>.trans x0
  have HB := Aside0.mk hB
  have HS := Aside0.mk hs
  have HH := Aside0.mk H1
  clear H H1 hB hs
  have hK : Aside0 (∀ m c1 d1, (st.calls a0).isSome = m → ((st.calls a0).getD zeroC).f1 = c1 → (st.codes a0).isSome = d1 → knownV st ⟨a0, a1, a2, ⟨a3, a4, a5⟩⟩ = (m && (!d1 && ((a1 == c1) && (decide (1 ≤ a2) && decide (a2 ≤ 8)))))) := ⟨fun m c1 d1 e1 e2 e3 => by
    subst e1 e2 e3
    unfold knownV
    cases st.calls a0 with
    | none => rfl
    | some c => cases st.codes a0 <;> rfl⟩
  generalize hcc : (st.calls a0).getD zeroC = cc at hl hl1
  generalize hm : (st.calls a0).isSome = m at hl hl1
  generalize hd : (st.codes a0).isSome = d at hl2
  generalize hdv : (st.codes a0).getD 0 = dv at hl2
  obtain ⟨c0, c1, ⟨o0, o1, o2⟩⟩ := cc
  have hK2 := Aside0.mk (hK.out m c1 d hm (by rw [hcc]) hd)
  replace hl : (Instr.lookup 60 (.map (some bc)) (.int .i64 a0) true).run Try.prog W1.drew = .ok (.tuple #[.agg #[.int .i64 c0, .int .i64 c1, .int .i64 o0, .string o1, .string o2], .bool m]) W1.drew := hl
  replace hl1 : (Instr.lookup 60 (.map (some bc)) (.int .i64 a0) true).run Try.prog (W1.alloc (.cells #[.int .i64 0, .int .i64 0, .int .i64 0, .string ⟨#[]⟩, .string ⟨#[]⟩] 33)).drew = .ok (.tuple #[.agg #[.int .i64 c0, .int .i64 c1, .int .i64 o0, .string o1, .string o2], .bool m]) (W1.alloc (.cells #[.int .i64 0, .int .i64 0, .int .i64 0, .string ⟨#[]⟩, .string ⟨#[]⟩] 33)).drew := hl1
  clear hcc hm hd hdv hK
  go_enter Try.func22, Try.ntmps22
  go_wp2
  rw [← hW1]
  have HWE := Aside0.mk hW1
  clear hW1
  go_region
  all_goals
    obtain ⟨W2, hW2⟩ : ∃ W2, W2 = (W1.alloc (.cells #[.int .i64 c0, .int .i64 c1, .int .i64 o0, .string o1, .string o2] 33)).drew := ⟨_, rfl⟩
    rw [← hW2]
    have hB2 : Below W1.heap.size W1 W2 := by rw [hW2]; exact below_drew ((Below.refl _ W1).alloc (Nat.le_refl _) _)
    have y1 : W2.cell? ⟨W1.heap.size, 1, none⟩ = some (.int .i64 c1) := by rw [hW2]; simp
    have q0 : W2.cell? ⟨W.heap.size, 0, none⟩ = some (.int .i64 a0) := (hB2.cell (p := ⟨W.heap.size, 0, none⟩) (by have := HS.out; show W.heap.size < _; omega)).trans x0
    have q1 : W2.cell? ⟨W.heap.size, 1, none⟩ = some (.int .i64 a1) := (hB2.cell (p := ⟨W.heap.size, 1, none⟩) (by have := HS.out; show W.heap.size < _; omega)).trans x1
    have q2 : W2.cell? ⟨W.heap.size, 2, none⟩ = some (.int .i64 a2) := (hB2.cell (p := ⟨W.heap.size, 2, none⟩) (by have := HS.out; show W.heap.size < _; omega)).trans x2
    have d1 : W2.cell? ⟨bw, 1, none⟩ = some (.map (some bd)) := (hB2.cell (p := ⟨bw, 1, none⟩) hbw).trans c1'
    have hl3 := fun nn => hl2 (W2.drewN nn) (pw_below_drewN hB2 nn)
    have HB2 : Aside0 (Below W.heap.size W W2) := ⟨HB.out.trans (hB2.mono HB.out.size)⟩
    clear hW2 hB2 x0 x1 x2 c0' c1' z0 z1 hl hl1 hl2 hbw hbne hwne
    go_wp2
    go_quiet (fail)
    have HBN := Aside0.mk (pw_below_drewN HB2.out nq)
    have hk := hK2.out
    clear hl3 d1 q0
    cases m
    · have HK3 : Aside0 (knownV st ⟨a0, a1, a2, ⟨a3, a4, a5⟩⟩ = false) := ⟨hk⟩
      clear hk hK2
      go_wp2
      go_ret
      exact ⟨by rw [HK3.out]; rfl, HBN.out⟩
    · cases d
      · cases h1 : (a1 == c1)
        · have HK3 : Aside0 (knownV st ⟨a0, a1, a2, ⟨a3, a4, a5⟩⟩ = false) := ⟨by rw [hk, h1]; rfl⟩
          clear hk hK2
          go_wp2
          go_ret
          exact ⟨by rw [HK3.out]; rfl, HBN.out⟩
        · by_cases h2 : 1 ≤ a2
          · by_cases h3 : a2 ≤ 8
            · have HK3 : Aside0 (knownV st ⟨a0, a1, a2, ⟨a3, a4, a5⟩⟩ = true) := ⟨by rw [hk, h1, decide_eq_true h2, decide_eq_true h3]; rfl⟩
              clear hk hK2
              go_wp2
              go_ret
              exact ⟨by rw [HK3.out]; rfl, HBN.out⟩
            · have HK3 : Aside0 (knownV st ⟨a0, a1, a2, ⟨a3, a4, a5⟩⟩ = false) := ⟨by rw [hk, decide_eq_false h3]; simp⟩
              clear hk hK2
              go_wp2
              go_ret
              exact ⟨by rw [HK3.out]; rfl, HBN.out⟩
          · have HK3 : Aside0 (knownV st ⟨a0, a1, a2, ⟨a3, a4, a5⟩⟩ = false) := ⟨by rw [hk, decide_eq_false h2]; simp⟩
            have h2' : decide (1 ≤ a2) = false := decide_eq_false h2
            clear hk hK2
            go_wp2
            go_ret
            exact ⟨by rw [HK3.out]; rfl, HBN.out⟩
      · have HK3 : Aside0 (knownV st ⟨a0, a1, a2, ⟨a3, a4, a5⟩⟩ = false) := ⟨hk⟩
        clear hk hK2
        go_wp2
        go_ret
        exact ⟨by rw [HK3.out]; rfl, HBN.out⟩
end Go.Proofs.Ytegfnceepplooaa.TR
