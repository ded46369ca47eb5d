/- FoldAnswers: the program's answer is the reference's, for every map and operation. -/
import Derived.Test.YtjhbihhiceimcaaFAns
import Derived.Test.YtjhbihhiceimcaaPFAx18
set_option linter.unusedSimpArgs false
set_option linter.unusedVariables false
namespace Go.Proofs.Ytjhbihhiceimcaa.FM.Answers
open Go.RowKit Go.Proofs.Ytjhbihhiceimcaa.FMap Go.Proofs.Ytjhbihhiceimcaa.FM Go.Proofs.Ytjhbihhiceimcaa.PFA Go.Proofs.YtjhbihhiceimcaaW.PrintWords Go.Proofs.YtjhbihhiceimcaaW.PrintLast

theorem both (op : Int) (lo hi : ByteArray) (l : List Ent) (hl : l.length ≤ 4398046511104) (hz : ∀ e ∈ l, e.f0.size ≤ 140737488351232) :
    ∃ r : Bool × ByteArray × List Ent × Int, Ev (fun k => fold_Answer.f k l op lo hi) r ∧ Ev (fun k => latticeref18_Answer.f k l op lo hi) r ∧ r.2.2.1.length ≤ l.length := by
  unfold fold_Answer.f latticeref18_Answer.f
  by_cases hg : goodE l = true
  · by_cases h1 : op < 1
    · exact ⟨(false, ⟨#[]⟩, [], 1), ev_pos hl (ev_pos hg (ev_pos h1 (Ev.now _))), ev_pos hl (ev_pos hg (ev_pos h1 (Ev.now _))), by simp⟩
    · by_cases h2 : 4 < op
      · exact ⟨(false, ⟨#[]⟩, [], 1), ev_pos hl (ev_pos hg (ev_neg h1 (ev_pos h2 (Ev.now _)))), ev_pos hl (ev_pos hg (ev_neg h1 (ev_pos h2 (Ev.now _)))), by simp⟩
      · have hlen := given_len op lo hi l (false, ⟨#[]⟩, [])
        refine ⟨((givenV op lo hi l).1, (givenV op lo hi l).2.1, (givenV op lo hi l).2.2, 0), ev_pos hl (ev_pos hg (ev_neg h1 (ev_neg h2 (Ev.bind (fgiven_ev op lo hi l hl) (Ev.now _))))), ev_pos hl (ev_pos hg (ev_neg h1 (ev_neg h2 (Ev.bind (rgiven_ev op lo hi l hl hz) (Ev.now _))))), ?_⟩
        show (givenV op lo hi l).2.2.length ≤ _
        unfold givenV
        simpa using hlen
  · exact ⟨(false, ⟨#[]⟩, [], 4), ev_pos hl (ev_neg hg (Ev.now _)), ev_pos hl (ev_neg hg (Ev.now _)), by simp⟩

theorem answers_ev (l : List Ent) (op : Int) (lo hi : ByteArray) (hl : l.length ≤ 4398046511104) (hz : ∀ e ∈ l, e.f0.size ≤ 140737488351232) : Ev (fun k => latticelaw18_FoldAnswers.f k l op lo hi) true := by
  obtain ⟨r, h1, h2, h3⟩ := both op lo hi l hl hz
  unfold latticelaw18_FoldAnswers.f
  exact Ev.bind h1 (Ev.bind h2 (Ev.bind (result_self _ _ _ (by omega)) (ev_pos rfl (ev_pos rfl (Ev.bind speaks_ev (Ev.now _))))))

end Go.Proofs.Ytjhbihhiceimcaa.FM.Answers
