/- speaks answers true: the four records, walked. -/
import Derived.Test.YtjhbihhiceimcaaFHist
import Derived.Test.YtjhbihhiceimcaaPFAx11
import Derived.Test.YtjhbihhiceimcaaPFAx17
set_option linter.unusedSimpArgs false
set_option linter.unusedVariables false
namespace Go.Proofs.Ytjhbihhiceimcaa.FM
open Go.RowKit Go.Proofs.Ytjhbihhiceimcaa.FMap Go.Proofs.Ytjhbihhiceimcaa.PFA Go.Proofs.YtjhbihhiceimcaaW.PrintWords Go.Proofs.YtjhbihhiceimcaaW.PrintLast

theorem given_ev (l : List Rec) (key : ByteArray) (hl : l.length ≤ 1099511627776) :
    Ev (fun k => fold_given.f k ((behindV l).map mkE) 1 key ⟨#[]⟩) ((l.foldl (lastF key) (false, ⟨#[]⟩)).1, (l.foldl (lastF key) (false, ⟨#[]⟩)).2, []) := by
  have hlen := behindV_len _ l rfl
  have hg := given_l0 (behindV l) key (by omega) (behindV l).length 0 (false, ⟨#[]⟩) (by omega)
  rw [List.drop_zero, behind_look key _ l rfl] at hg
  refine Ev.congr (fun k => ?_) hg
  unfold fold_given.f
  rw [List.length_map]
  rfl

theorem ev_pos {α : Type} {c : Prop} [Decidable c] {f g : Nat → Option α} {r : α} (hc : c) (h : Ev f r) : Ev (fun k => if c then f k else g k) r := Ev.congr (fun k => if_pos hc) h
theorem ev_neg {α : Type} {c : Prop} [Decidable c] {f g : Nat → Option α} {r : α} (hc : ¬ c) (h : Ev g r) : Ev (fun k => if c then f k else g k) r := Ev.congr (fun k => if_neg hc) h
theorem entries_nil : Ev (fun k => latticeplain_Entries.f k [] []) true := by
  refine Ev.step (f := fun _ => some true) (fun k => ?_) (Ev.now _)
  rfl
theorem entry_nil : Ev (fun k => api_Entry.f k [] []) true := by
  refine Ev.step (f := fun _ => some true) (fun k => ?_) (Ev.now _)
  rfl
theorem result_ev (a : Bool) (b : ByteArray) : Ev (fun k => latticeplain_Result.f k a b [] a b []) true := by
  unfold latticeplain_Result.f
  exact ev_pos (by simp) (ev_pos rfl (Ev.bind entries_nil (Ev.now _)))
theorem same_yes (a : Bool) (b : ByteArray) : Ev (fun k => fold_same.f k a b [] a b []) true := by
  unfold fold_same.f
  exact ev_pos (by simp) (ev_pos rfl (Ev.bind entry_nil (Ev.now _)))

theorem agrees_no {l : List Rec} {key : ByteArray} {b0 : Bool} {b1 : ByteArray} {d n : Nat} {r : Int × Bool} (hl : l.length ≤ 1099511627776) (hn : n ≤ l.length)
    (hs : Ev (fun k => fold_same.f k ((l.take n).foldl (lastF key) (false, ⟨#[]⟩)).1 ((l.take n).foldl (lastF key) (false, ⟨#[]⟩)).2 [] b0 b1 []) false)
    (h : Ev (fun k => agreesL k l 1 key ⟨#[]⟩ b0 b1 [] 0 d (n + 1)) r) : Ev (fun k => agreesL k l 1 key ⟨#[]⟩ b0 b1 [] 0 (d + 1) n) r := by
  simp only [agreesL]
  exact ev_neg (by omega) (ev_pos (by omega) (Ev.bind (given_ev (l.take n) key (by rw [List.length_take]; omega)) (Ev.bind hs h)))
theorem agrees_yes {l : List Rec} {key : ByteArray} {b0 : Bool} {b1 : ByteArray} {d n : Nat} (hl : l.length ≤ 1099511627776) (hn : n ≤ l.length)
    (hs : (l.take n).foldl (lastF key) (false, ⟨#[]⟩) = (b0, b1)) : Ev (fun k => agreesL k l 1 key ⟨#[]⟩ b0 b1 [] 0 (d + 1) n) ((n : Int), true) := by
  simp only [agreesL]
  refine ev_neg (by omega) (ev_pos (by omega) ?_)
  refine Ev.bind (given_ev (l.take n) key (by rw [List.length_take]; omega)) ?_
  rw [hs]
  exact Ev.bind (same_yes b0 b1) (Ev.now _)

theorem agrees_ev : Ev (fun k => fold_Agrees.f k littleR 1 ⟨#[97]⟩ ⟨#[]⟩ true ⟨#[122]⟩ [] 0) (3, true) := by
  unfold fold_Agrees.f
  rw [little_H]
  refine ev_neg (by decide) (ev_neg (by decide) (Ev.bind (a := littleR) (Ev.now littleR) (ev_pos (f := fun k => agreesL k littleR 1 ⟨#[97]⟩ ⟨#[]⟩ true ⟨#[122]⟩ [] 0 (littleR.length + 2) 0) (g := fun _ => none) little_small ?_)))
  have e1 : (littleR.take 1).foldl (lastF ⟨#[97]⟩) (false, ⟨#[]⟩) = (true, ⟨#[120]⟩) := rfl
  have e2 : (littleR.take 2).foldl (lastF ⟨#[97]⟩) (false, ⟨#[]⟩) = (true, ⟨#[120]⟩) := rfl
  have n0 : ∀ k, fold_same.f k false ⟨#[]⟩ [] true ⟨#[122]⟩ [] = some false := fun k => by
    unfold fold_same.f
    rw [if_neg (by decide)]
  have n1 : ∀ k, fold_same.f k true ⟨#[120]⟩ [] true ⟨#[122]⟩ [] = some false := fun k => by
    unfold fold_same.f
    rw [if_pos (by decide), if_neg (by rw [tl, tl]; decide)]
  refine agrees_no (d := 5) (n := 0) (by decide) (by decide) ?_ (agrees_no (d := 4) (n := 1) (by decide) (by decide) ?_ (agrees_no (d := 3) (n := 2) (by decide) (by decide) ?_ (agrees_yes (d := 2) (n := 3) (by decide) (by decide) rfl)))
  · exact Ev.congr (fun k => n0 k) (Ev.now _)
  · rw [e1]; exact Ev.congr (fun k => n1 k) (Ev.now _)
  · rw [e2]; exact Ev.congr (fun k => n1 k) (Ev.now _)

theorem entries_little : Ev (fun k => latticeplain_Entries.f k littleE littleE) true := by
  refine Ev.step (f := fun k => latticeplain_Entries.l0 k littleE littleE 1 1) (fun k => ?_) (Ev.step (f := fun _ => some true) (fun k => rfl) (Ev.now _))
  show latticeplain_Entries.l0 (k + 1) littleE littleE 1 0 = _
  simp only [latticeplain_Entries.l0]
  rw [if_pos (by decide), if_pos (by decide), if_pos (by decide), if_pos (by decide), if_neg (by simp)]
  show latticeplain_Entries.l0 k littleE littleE 1 (wrap64 (0 + 1)) = _
  rw [show wrap64 (0 + 1) = 1 from by unfold wrap64; omega]

theorem speaks_ev : Ev (fun k => latticelaw18_speaks.f k) true := by
  obtain ⟨K1, h1⟩ := agrees_ev
  obtain ⟨K2, h2⟩ := entries_little
  refine ⟨K1 + K2, fun k hk => ?_⟩
  show latticelaw18_speaks.f k = some true
  unfold latticelaw18_speaks.f
  rw [if_pos (h1 k (by omega)), if_pos (h2 k (by omega))]

end Go.Proofs.Ytjhbihhiceimcaa.FM
