/- Which timeline is newer: the program's answer. -/
import Derived.Test.YtjlcaamfpglflaaLFork
import Derived.Test.YtjlcaamfpglflaaPLinex14
set_option linter.unusedSimpArgs false
set_option linter.unusedVariables false
namespace Go.Proofs.Ytjlcaamfpglflaa.LM
open Go.RowKit Go.Proofs.Ytjlcaamfpglflaa.PLine Go.Proofs.YtjlcaamfpglflaaW.PrintWords Go.Proofs.YtjlcaamfpglflaaW.PrintLast

/-- Of two right timelines: is the first one newer? -/
def newer (a b : List Mk) (la lb : Int) : Bool := decide (ep a la > ep b lb ∨ ep a la = ep b lb ∧ la > lb)

theorem cmp_val (x y : Int) : cmp_Compare_int.f x y = some (if x < y then -1 else if x > y then 1 else 0) := by
  unfold cmp_Compare_int.f cmp_isNaN_int.f
  rw [Option.bind_some, Option.bind_some]
  have hx : (x != x) = false := by simp
  have hy : (y != y) = false := by simp
  rw [hx, hy, if_neg (by simp), if_neg (by simp)]
  by_cases h : x < y
  · rw [if_pos h, if_pos h]
  · rw [if_neg h, if_neg h]
    by_cases h2 : x > y
    · rw [if_pos h2, if_pos h2]
    · rw [if_neg h2, if_neg h2]

theorem or_int_ev (x y : Int) : Ev (fun k => cmp_Or_int.f k [x, y]) (if x = 0 then y else x) := by
  refine Ev.of (k := 4) (fun k => cmp_Or_int.mono _ k) ?_
  by_cases hx : x = 0
  · subst hx
    by_cases hy : y = 0
    · subst hy; simp [cmp_Or_int.f, cmp_Or_int.l0, rd, wrap64]
    · simp [cmp_Or_int.f, cmp_Or_int.l0, rd, wrap64, hy]
  · simp [cmp_Or_int.f, cmp_Or_int.l0, rd, hx]

theorem newer_right {a b : List Mk} {la lb : Int} (ha : Right a la) (hb : Right b lb) : Ev (fun k => line_Newer.f k a la b lb) (newer a b la lb, 0) := by
  refine Ev.congr (f := fun k => (api_Errno.f k [0, 0]).bind fun e => if e = 0 then ((cmp_Or_int.f k [(if ep a la < ep b lb then -1 else if ep a la > ep b lb then 1 else 0), (if la < lb then -1 else if la > lb then 1 else 0)]).bind fun t => some (decide (t > 0), 0)) else some (false, e)) (fun k => ?_) (Ev.bind (or_ev 0 0) ?_)
  · unfold line_Newer.f
    rw [check_val, check_val, Option.bind_some, Option.bind_some, if_pos (right_iff.2 ha), if_pos (right_iff.2 hb), right_at ha, right_at hb]
    simp only [Option.bind_some, cmp_val]
  · refine Ev.congr (f := fun k => (cmp_Or_int.f k [(if ep a la < ep b lb then -1 else if ep a la > ep b lb then 1 else 0), (if la < lb then -1 else if la > lb then 1 else 0)]).bind fun t => some (decide (t > 0), 0)) (fun k => ?_) (Ev.bind (or_int_ev _ _) ?_)
    · rw [if_pos rfl, if_pos rfl]
    · have e : decide ((if (if ep a la < ep b lb then (-1 : Int) else if ep a la > ep b lb then 1 else 0) = 0 then (if la < lb then -1 else if la > lb then 1 else 0) else (if ep a la < ep b lb then -1 else if ep a la > ep b lb then 1 else 0)) > 0) = newer a b la lb := by
        unfold newer
        rw [decide_eq_decide]
        by_cases h1 : ep a la < ep b lb
        · rw [if_pos h1, if_neg (by omega)]
          omega
        · rw [if_neg h1]
          by_cases h2 : ep a la > ep b lb
          · rw [if_pos h2, if_neg (by omega)]
            omega
          · rw [if_neg h2, if_pos rfl]
            by_cases h3 : la < lb
            · rw [if_pos h3]; omega
            · rw [if_neg h3]
              by_cases h4 : la > lb
              · rw [if_pos h4]; omega
              · rw [if_neg h4]; omega
      rw [e]
      exact Ev.now _

theorem newer_wrong {a b : List Mk} {la lb : Int} (h : ¬ (Right a la ∧ Right b lb)) : Ev (fun k => line_Newer.f k a la b lb) (false, 4) := by
  have key : ∀ x y : Int, (x = 0 ∨ x = 4) → (y = 0 ∨ y = 4) → ¬ (x = 0 ∧ y = 0) → (if x = 0 then y else x) = 4 := by
    intro x y h1 h2 h3
    split <;> omega
  have hx : ∀ (l : List Mk) (n : Int), ((if okUpto l n l.length = true then (0 : Int) else 4) = 0 ∨ (if okUpto l n l.length = true then (0 : Int) else 4) = 4) := fun l n => by split <;> simp
  refine Ev.congr (f := fun k => (api_Errno.f k [(if okUpto a la a.length = true then 0 else 4), (if okUpto b lb b.length = true then 0 else 4)]).bind fun e => if e = 0 then ((line_at.f a la la).bind fun t174 => ((line_at.f b lb lb).bind fun t175 => ((cmp_Compare_int.f t174 t175).bind fun t176 => ((cmp_Compare_int.f la lb).bind fun t177 => ((cmp_Or_int.f k (([t176, t177] : List Int))).bind fun t181 => (some (decide (t181 > 0), 0))))))) else some (false, e)) (fun k => ?_) (Ev.bind (or_ev _ _) ?_)
  · unfold line_Newer.f
    rw [check_val, check_val, Option.bind_some, Option.bind_some]
  · rw [key _ _ (hx a la) (hx b lb) (by
      rintro ⟨h1, h2⟩
      refine h ⟨right_iff.1 ?_, right_iff.1 ?_⟩
      · by_cases e : okUpto a la a.length = true
        · exact e
        · rw [if_neg e] at h1; omega
      · by_cases e : okUpto b lb b.length = true
        · exact e
        · rw [if_neg e] at h2; omega)]
    exact Ev.now _

end Go.Proofs.Ytjlcaamfpglflaa.LM
