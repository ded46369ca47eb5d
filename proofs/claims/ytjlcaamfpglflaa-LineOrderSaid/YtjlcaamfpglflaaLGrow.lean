/- Grown timelines: the program's answer as one value. -/
import Derived.Test.YtjlcaamfpglflaaLVals
import Derived.Test.YtjlcaamfpglflaaLMath3
import Derived.Test.YtjlcaamfpglflaaPLinex22
set_option linter.unusedSimpArgs false
set_option linter.unusedVariables false
namespace Go.Proofs.Ytjlcaamfpglflaa.LM
open Go.RowKit Go.Proofs.Ytjlcaamfpglflaa.PLine Go.Proofs.YtjlcaamfpglflaaW.PrintWords Go.Proofs.YtjlcaamfpglflaaW.PrintLast

/-! ### grown -/
def growBad (l : List Mk) (last e n : Int) : Int := if rt l last = true then (if n < 0 ∨ n > 1099511627776 - last ∨ inB e = false then 1 else if e < ep l last then 7 else 0) else 4
def growV (l : List Mk) (last e n : Int) : List Mk × Int × Int := if growBad l last e n = 0 then (growL l last e n, last + n, 0) else ([], 0, growBad l last e n)

theorem grow_zero {l : List Mk} {last e n : Int} : growBad l last e n = 0 ↔ Right l last ∧ 0 ≤ n ∧ n ≤ 1099511627776 - last ∧ inB e = true ∧ ep l last ≤ e := by
  unfold growBad
  rw [← rt_iff]
  cases rt l last
  · simp
  · rw [if_pos rfl]
    by_cases h : n < 0 ∨ n > 1099511627776 - last ∨ inB e = false
    · rw [if_pos h]
      constructor
      · intro h'; omega
      · rintro ⟨_, h1, h2, h3, _⟩
        rcases h with h | h | h
        · omega
        · omega
        · rw [h3] at h; cases h
    · rw [if_neg h]
      have h3 : inB e = true := by
        cases hb : inB e with
        | true => rfl
        | false => exact absurd (Or.inr (Or.inr hb)) h
      by_cases h7 : e < ep l last
      · rw [if_pos h7]
        constructor
        · intro h'; omega
        · rintro ⟨_, _, _, _, h5⟩; omega
      · rw [if_neg h7]
        exact ⟨fun _ => ⟨rfl, by omega, by omega, h3, by omega⟩, fun _ => rfl⟩

theorem in_v (n : Int) : line_in.f n = some (inB n) := by
  unfold line_in.f inB
  by_cases h : n ≥ 0
  · rw [if_pos h, decide_eq_true (show 0 ≤ n from h), Bool.true_and]
  · rw [if_neg h, decide_eq_false (show ¬ 0 ≤ n from h), Bool.false_and]

theorem grow_j0_bad (l : List Mk) (last e n : Int) : Ev (fun k => line_Grow.j0 k e n true l last) ([], 0, 1) := by
  refine Ev.step (fun k => ?_) (Ev.now _)
  simp only [line_Grow.j0]
  rw [if_pos trivial]

theorem grow_v (l : List Mk) (last e n : Int) (hlen : l.length < 8796093022208) : Ev (fun k => line_Grow.f k l last e n) (growV l last e n) := by
  unfold line_Grow.f
  rw [check_rt]
  cases h : rt l last
  · have hb : growBad l last e n = 4 := by unfold growBad; rw [h]; rfl
    have hv : growV l last e n = ([], 0, 4) := by unfold growV; rw [hb]; rfl
    rw [hv]
    refine Ev.congr (fun k => ?_) (Ev.now _)
    rw [Option.bind_some]
    rfl
  · have hr := rt_iff.1 h
    have h0 := hr.last0
    have hM := hr.lastM
    have hw : wrap64 (1099511627776 - last) = 1099511627776 - last := by unfold wrap64; omega
    by_cases hc : n < 0 ∨ n > 1099511627776 - last ∨ inB e = false
    · have hb : growBad l last e n = 1 := by unfold growBad; rw [h, if_pos rfl, if_pos hc]
      have hv : growV l last e n = ([], 0, 1) := by unfold growV; rw [hb]; rfl
      rw [hv]
      refine Ev.congr (fun k => ?_) (grow_j0_bad l last e n)
      rw [Option.bind_some, if_pos rfl, if_pos rfl]
      by_cases h1 : n < 0
      · rw [if_pos h1]
      · rw [if_neg h1, hw]
        by_cases h2 : n > 1099511627776 - last
        · rw [if_pos h2]
        · rw [if_neg h2, in_v, Option.bind_some]
          rcases hc with hc | hc | hc
          · exact absurd hc h1
          · exact absurd hc h2
          · rw [hc]; rfl
    · have hin : inB e = true := by
        cases hb : inB e with
        | true => rfl
        | false => exact absurd (Or.inr (Or.inr hb)) hc
      have h1 : ¬ n < 0 := fun h => hc (.inl h)
      have h2 : ¬ n > 1099511627776 - last := fun h => hc (.inr (.inl h))
      have w1 : wrap64 (last + n) = last + n := by unfold wrap64; omega
      have w2 : wrap64 (last + 1) = last + 1 := by unfold wrap64; omega
      refine Ev.congr (f := fun k => line_Grow.j0 k e n false l last) (fun k => ?_) (Ev.step (f := fun _ => some (growV l last e n)) (fun k => ?_) (Ev.now _))
      · rw [Option.bind_some, if_pos rfl, if_pos rfl, if_neg h1, hw, if_neg h2, in_v, Option.bind_some, hin]; rfl
      · simp only [line_Grow.j0]
        rw [if_neg (by simp), right_at hr, Option.bind_some]
        unfold growV growBad
        rw [h, if_pos rfl, if_neg hc]
        by_cases h7 : e < ep l last
        · rw [if_pos h7, if_pos h7, if_neg (by decide)]
        · rw [if_neg h7, if_neg h7, if_pos rfl]
          have hm : api_Mark_46.f l = some l := by
            unfold api_Mark_46.f
            rw [if_pos (by omega)]
          rw [hm, Option.bind_some, w1, w2]
          unfold growL
          by_cases hn : n > 0
          · rw [if_pos hn]
            by_cases hl : last = 0
            · rw [if_pos hl, if_pos (by omega), if_pos ⟨hn, .inl hl⟩]
            · rw [if_neg hl, Option.bind_some]
              by_cases he : e > ep l last
              · rw [if_pos he, if_pos (by omega), if_pos ⟨hn, .inr he⟩]
              · rw [if_neg he, if_neg (by omega)]
          · rw [if_neg hn, if_neg (by omega)]

end Go.Proofs.Ytjlcaamfpglflaa.LM
