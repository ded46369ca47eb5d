/- FoldLast: the last write of a key is what the map says. -/
import Derived.Test.YtjhbihhiceimcaaFSpeak
import Derived.Test.YtjhbihhiceimcaaPFoldx19
set_option linter.unusedSimpArgs false
set_option linter.unusedVariables false
namespace Go.Proofs.Ytjhbihhiceimcaa.FM
open Go.RowKit Go.Proofs.Ytjhbihhiceimcaa.FMap Go.Proofs.Ytjhbihhiceimcaa.PFold Go.Proofs.YtjhbihhiceimcaaW.PrintWords Go.Proofs.YtjhbihhiceimcaaW.PrintLast

theorem rdR {l : List Rec} {i : Nat} (h : i < l.length) : rd_T43 l (i : Int) = l[i] := by
  unfold rd_T43
  simp [h]

theorem behind_all {h : List Rec} (hl : h.length ≤ 1099511627776) : fold_Behind.f h ((histV h).length : Int) = some ((behindV (histV h)).map mkE, 0) := by
  have hh : fold_History.f h = some (histV h) := by unfold fold_History.f; rw [if_pos hl]
  unfold fold_Behind.f
  rw [hh, Option.bind_some, if_pos (hist_small hl), if_neg (by omega), if_neg (by omega), Int.toNat_natCast, List.take_length]

theorem lastRec_eq (key : ByteArray) : lastRec key = lastF key := by
  funext st r
  unfold lastRec lastF
  rw [tl, tl]
  by_cases e : kb r.f6 = kb key
  · rw [if_pos e, if_pos (by simpa using e)]
  · rw [if_neg e, if_neg (by simpa using e)]

theorem last_ev (h : List Rec) (key : ByteArray) : Ev (fun k => latticelaw18_FoldLast.f k h key) true := by
  unfold latticelaw18_FoldLast.f
  by_cases hb : (h.length : Int) > 2000
  · exact ev_pos hb speaks_ev
  · refine ev_neg hb ?_
    have hh : fold_History.f h = some (histV h) := by unfold fold_History.f; rw [if_pos (by omega)]
    have hl := histV_len h
    rw [hh, lastRec_eq]
    refine Ev.bind (a := histV h) (Ev.now _) ?_
    rw [behind_all (by omega)]
    refine Ev.bind (a := ((behindV (histV h)).map mkE, (0 : Int))) (Ev.now _) ?_
    refine Ev.bind (answer_ev (histV h) key (by omega) (fun r hr => (List.mem_filter.1 hr).2)) ?_
    exact Ev.bind (result_ev _ _) (ev_pos ⟨rfl, rfl, rfl⟩ speaks_ev)

end Go.Proofs.Ytjhbihhiceimcaa.FM
