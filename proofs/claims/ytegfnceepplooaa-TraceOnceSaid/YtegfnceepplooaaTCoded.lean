/- Trace: what a step writes into the watcher besides: a code, the history seen, the history before. -/
import Derived.Test.YtegfnceepplooaaTSub
set_option linter.unusedVariables false
set_option linter.unusedSimpArgs false
namespace Go.Proofs.Ytegfnceepplooaa.TR
open Go.RowKit Go.Maps Go.Proofs.Ytegfnceepplooaa.FMap Go.Proofs.Ytegfnceepplooaa.PTR Go.Proofs.YtegfnceepplooaaW.PrintWords Go.Proofs.YtegfnceepplooaaW.PrintLast
section
variable {w0 W W' : World} {bw n : Nat} {st : St} {h : List Rec} {bc bd bf : Nat} {vo : Value} {Ab : Option Addr} {cb : Nat} {Ah : Option Addr} {ch : Nat}
/-- A code has been written. -/
theorem WAt.coded (H : WAt w0 W bw n st h bc bd bf vo Ab cb Ah ch) {x y : Int}
    (hm : MapI RI enI W' bd (n + 1) (upd st.codes x y)) (hg : W.grownBy W' (some bd)) : WAt w0 W' bw (n + 1) { st with codes := upd st.codes x y } h bc bd bf vo Ab cb Ah ch := by
  obtain ⟨es, clock, hb⟩ := H.codes.is_map
  exact {
    below := H.below.grown hg H.below.size (fun k hk => by cases hk; exact H.hbd)
    block := block_map H.block hg hb
    calls := (H.calls.same (hg.block bc H.calls.lt (fun e => H.cd (Option.some.inj e)))).mono (by omega)
    codes := hm
    floors := (H.floors.same (hg.block bf H.floors.lt (fun e => H.df (Option.some.inj e).symm))).mono (by omega)
    order := order_map H.order hg hb
    before := H.before
    at_h := H.at_h
    hbw := H.hbw
    hbc := H.hbc
    hbd := H.hbd
    hbf := H.hbf
    cd := H.cd
    cf := H.cf
    df := H.df }
theorem set_map (H : WAt w0 W bw n st h bc bd bf vo Ab cb Ah ch) (i : Nat) (v : Value) {b : Nat} (hb : ∃ (es : Array MapEntry) (clock : Nat), W.heap[b]? = some (Obj.map es clock)) : (W.setCell ⟨bw, i, none⟩ v).heap[b]? = W.heap[b]? :=
  Below.heap_setCell W ⟨bw, i, none⟩ v b (fun he => by
    obtain ⟨es, clock, hb⟩ := hb
    have : b = bw := he
    subst this
    rw [H.block] at hb
    injection hb with hb
    cases hb)
/-- The history that a step has seen is laid into the watcher. -/
theorem WAt.seen (H : WAt w0 W bw n st h bc bd bf vo Ab cb Ah ch) {h' : List Rec} {A : Option Addr} {c : Nat} (hC : Kd.C kR w0 A h'.length h' ∧ h'.length ≤ c) : WAt w0 (W.setCell ⟨bw, 5, none⟩ (.slice A h'.length c)) bw n st h' bc bd bf vo Ab cb A c := {
    below := H.below.setCell H.hbw _
    block := blk_put H.block 5 _ rfl
    calls := H.calls.same (set_map H 5 _ H.calls.is_map)
    codes := H.codes.same (set_map H 5 _ H.codes.is_map)
    floors := H.floors.same (set_map H 5 _ H.floors.is_map)
    order := order_set H.order H.block 5 _
    before := H.before
    at_h := hC
    hbw := H.hbw
    hbc := H.hbc
    hbd := H.hbd
    hbf := H.hbf
    cd := H.cd
    cf := H.cf
    df := H.df }
/-- It is kept as the one before. -/
theorem WAt.kept (H : WAt w0 W bw n st h bc bd bf vo Ab cb Ah ch) : WAt w0 (W.setCell ⟨bw, 4, none⟩ (.slice Ah h.length ch)) bw n { st with before := h } h bc bd bf vo Ah ch Ah ch := {
    below := H.below.setCell H.hbw _
    block := blk_put H.block 4 _ rfl
    calls := H.calls.same (set_map H 4 _ H.calls.is_map)
    codes := H.codes.same (set_map H 4 _ H.codes.is_map)
    floors := H.floors.same (set_map H 4 _ H.floors.is_map)
    order := order_set H.order H.block 4 _
    before := H.at_h
    at_h := H.at_h
    hbw := H.hbw
    hbc := H.hbc
    hbd := H.hbd
    hbf := H.hbf
    cd := H.cd
    cf := H.cf
    df := H.df }
end
end Go.Proofs.Ytegfnceepplooaa.TR
