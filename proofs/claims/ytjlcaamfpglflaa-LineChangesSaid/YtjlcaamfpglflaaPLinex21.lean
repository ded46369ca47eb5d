-- Printed by wip/tools/myprint.py (over the kit's print.py), with hand-written contracts; Lean checks all of it.
import Derived.Test.YtjlcaamfpglflaaPLinex0
namespace Go.Proofs.Ytjlcaamfpglflaa.PLine
open Go.RowKit Go.Proofs.YtjlcaamfpglflaaW.PrintWords Go.Proofs.YtjlcaamfpglflaaW.PrintLast Go.Proofs.YtjlcaamfpglflaaW.PrintMore
attribute [local go_sem] max2_int min2_int max_two min_two max_three min_three max_four min_four   -- for this text's walks alone
set_option linter.unusedVariables false
set_option linter.unusedSimpArgs false

/-! ### api_Mark_46: function 46 -/
theorem api_Mark_46.info : (Try.prog.info? 53).map (fun i => (i.zero, i.size, i.bytes)) = some (some (.agg #[.int .i64 0, .int .i64 0]), 2, 16) := by kernel_rfl
def api_Mark_46.f (l0 : List S53) : Option (List S53) := if l0.length ≤ 8796093022208 then some l0 else none
set_option maxHeartbeats 8000000 in
set_option maxRecDepth 100000 in
theorem api_Mark_46.calls (A0 : Option Addr) (c0 : Nat) (l0 : List (S53)) (r : List (S53)) (w : World) (hr0 : Kd.C k53 w A0 l0.length l0) (hc0 : l0.length ≤ c0) (h : api_Mark_46.f l0 = some r) :
    Calls Try.prog 46 #[.slice A0 l0.length c0] w fun e w' => ∃ v0_ : Value, e = .returned (v0_) ∧ Kd.R k53 53 w' w.heap.size (fun _ => True) v0_ r ∧ Below w.heap.size w w' := by
  unfold api_Mark_46.f at h
  by_cases hlen : l0.length ≤ 8796093022208
  · rw [if_pos hlen] at h
    obtain rfl := Option.some.inj h
    clear h
    have HR := Aside0.mk hr0
    have HL := Aside0.mk hlen
    clear hc0 hr0 hlen
    cases A0 with
    | none =>
      have hl : l0 = [] := by
        cases l0 with
        | nil => rfl
        | cons x t =>
          obtain ⟨ad, e, _⟩ := HR.out.2.2 (by simp)
          cases e
      subst hl
      have hq := @Lib.run_eql_slice_nil Try.prog
      go_enter Try.func46, Try.ntmps46
      go_wp2
      all_goals try (go_ret; exact ⟨_, rfl, Kd.R_nil _ _ _ _ _, Below.refl _ _⟩)
    | some ad =>
      have hq := @Lib.run_eql_slice_nil Try.prog
      go_enter Try.func46, Try.ntmps46
      go_wp2_with ((with_reducible refine gate_builtin (b := .append) (xs := #[.tmp 5, .tmp 6]) rfl ?_); at_builtin; refine Kd.R_append_rows k53 (w0 := w) (Rr := k53.K _) w.heap.size rfl (.tmp 5) (.tmp 6) 32 53 (.agg #[.int .i64 0, .int .i64 0]) 16 rfl Try.underlying32 api_Mark_46.info rfl (by decide) (by decide) _ [] l0 (some ad) l0.length c0 (fun _ => True) (fun _ => False) rfl rfl (Ext.R_empty k53 53 _ _ _ w.heap.size (MapKept.heap_alloc w _).1 (Nat.le_refl _) trivial) (Kd.C_alloc HR.out _) (fun x cs hx => by obtain rfl := k53_open hx; exact k53_mkM _ _ _ x) (fun k hk => hk.elim) (fun _ _ => trivial) ((Below.refl _ _).alloc (Nat.le_refl _) _) (by simp) (by have := HL.out; simp; omega) ?_; intro v1 w1 hR1 hB1 hg1 hv1; have HR1 := Aside0.mk hR1; have HB1 := Aside0.mk hB1; clear hR1 hB1 hg1 hv1)
      go_ret
      exact ⟨_, rfl, by simpa using HR1.out, HB1.out⟩
  · rw [if_neg hlen] at h
    cases h


end Go.Proofs.Ytjlcaamfpglflaa.PLine
