/- FoldApart: what the map says of a key depends on that key's records alone. -/
import Derived.Test.YtjhbihhiceimcaaFSpeak
import Derived.Test.YtjhbihhiceimcaaPFoldx20
set_option linter.unusedSimpArgs false
set_option linter.unusedVariables false
namespace Go.Proofs.Ytjhbihhiceimcaa.FM.Apart
open Go.RowKit Go.Proofs.Ytjhbihhiceimcaa.FMap Go.Proofs.Ytjhbihhiceimcaa.FM Go.Proofs.Ytjhbihhiceimcaa.PFold Go.Proofs.YtjhbihhiceimcaaW.PrintWords Go.Proofs.YtjhbihhiceimcaaW.PrintLast

theorem rdR {l : List Rec} {i : Nat} (h : i < l.length) : rd_T43 l (i : Int) = l[i] := by
  unfold rd_T43
  simp [h]

theorem behind_all {h : List Rec} (hl : h.length ≤ 1099511627776) : fold_Behind.f h ((histV h).length : Int) = some ((behindV (histV h)).map mkE, 0) := by
  have hh : fold_History.f h = some (histV h) := by unfold fold_History.f; rw [if_pos hl]
  unfold fold_Behind.f
  rw [hh, Option.bind_some, if_pos (hist_small hl), if_neg (by omega), if_neg (by omega), Int.toNat_natCast, List.take_length]

theorem ownOf_v (key : ByteArray) (h : List Rec) : ownOf key h = h.filter (fun r => decide (kb r.f6 = kb key)) := by
  unfold ownOf
  congr 1
  funext r
  rw [tl, tl]
  by_cases e : kb r.f6 = kb key
  · rw [decide_eq_true e]; simpa using e
  · rw [decide_eq_false e]; simpa using e
theorem own_hist (key : ByteArray) (h : List Rec) : histV (ownOf key h) = ownOf key (histV h) := by
  unfold histV ownOf
  rw [List.filter_filter, List.filter_filter]
  congr 1
  funext r
  exact Bool.and_comm _ _
theorem own_fold (key : ByteArray) : ∀ (l : List Rec) (st : Bool × ByteArray), (ownOf key l).foldl (lastF key) st = l.foldl (lastF key) st
  | [], st => rfl
  | r :: t, st => by
    have ih := own_fold key t
    rw [ownOf_v] at ih ⊢
    by_cases e : kb r.f6 = kb key
    · rw [List.filter_cons_of_pos (by simpa using e), List.foldl_cons, List.foldl_cons]
      exact ih _
    · rw [List.filter_cons_of_neg (by simpa using e), List.foldl_cons]
      have : lastF key st r = st := by unfold lastF; rw [if_neg e]
      rw [this]
      exact ih st

theorem apart_ev (h : List Rec) (key : ByteArray) : Ev (fun k => latticelaw18_FoldApart.f k h key) true := by
  unfold latticelaw18_FoldApart.f
  by_cases hb : (h.length : Int) > 2000
  · exact ev_pos hb speaks_ev
  · refine ev_neg hb ?_
    have hol := ownOf_len key h
    have hh : fold_History.f h = some (histV h) := by unfold fold_History.f; rw [if_pos (by omega)]
    have ho : fold_History.f (ownOf key h) = some (histV (ownOf key h)) := by unfold fold_History.f; rw [if_pos (by omega)]
    have hlh := histV_len h
    have hlo := histV_len (ownOf key h)
    have ha := answer_ev (histV h) key (by omega) (fun r hr => (List.mem_filter.1 hr).2)
    have hbb := answer_ev (histV (ownOf key h)) key (by omega) (fun r hr => (List.mem_filter.1 hr).2)
    have ef : (histV (ownOf key h)).foldl (lastF key) (false, ⟨#[]⟩) = (histV h).foldl (lastF key) (false, ⟨#[]⟩) := by rw [own_hist, own_fold]
    rw [ef] at hbb
    rw [hh]
    refine Ev.bind (a := histV h) (Ev.now _) ?_
    rw [behind_all (by omega)]
    refine Ev.bind (a := ((behindV (histV h)).map mkE, (0 : Int))) (Ev.now _) ?_
    rw [ho]
    refine Ev.bind (a := histV (ownOf key h)) (Ev.now _) ?_
    rw [behind_all (by omega)]
    refine Ev.bind (a := ((behindV (histV (ownOf key h))).map mkE, (0 : Int))) (Ev.now _) ?_
    refine Ev.bind ha (Ev.bind hbb ?_)
    exact Ev.bind (result_ev _ _) (ev_pos ⟨rfl, rfl, rfl, rfl, rfl⟩ speaks_ev)

end Go.Proofs.Ytjhbihhiceimcaa.FM.Apart
