/- Plain laws of what the printed functions of the quorum statements compute. -/
import Derived.Test.YtjlcaamfpglflaaPQuorumx
import Derived.Test.YtjlcaamfpglflaaQMath
namespace Go.Proofs.Ytjlcaamfpglflaa.QL
open Go.RowKit Go.Proofs.Ytjlcaamfpglflaa.PQuorum Go.Proofs.YtjlcaamfpglflaaW.PrintWords Go.Proofs.YtjlcaamfpglflaaW.PrintLast
open Go.Proofs.Ytjlcaamfpglflaa (QMath.mid QMath.cnt QMath.best)

theorem commit_sort {l s : List Int} (hp : l.Perm s) (hs : s.Pairwise (· ≤ ·)) : QMath.mid l = s.getD (l.length - (l.length / 2 + 1)) 0 := by
  unfold QMath.mid
  rw [QMath.sort_eq hp hs]

theorem com3 : quorum_Commit.f [5, 3, 9] = some (5, 0) := by
  have h : QMath.mid [5, 3, 9] = 5 := by
    rw [commit_sort (s := [3, 5, 9]) (by decide) (by decide)]
    rfl
  unfold quorum_Commit.f CommitC.commit
  rw [if_neg (by decide), h]
theorem com4 : quorum_Commit.f [5, 3, 9, 1] = some (3, 0) := by
  have h : QMath.mid [5, 3, 9, 1] = 3 := by
    rw [commit_sort (s := [1, 3, 5, 9]) (by decide) (by decide)]
    rfl
  unfold quorum_Commit.f CommitC.commit
  rw [if_neg (by decide), h]

theorem maj4 : quorum_Majority.f 10 4 = some (3, 0) := by decide +kernel
theorem has3 : quorum_Has.f 10 3 5 = some (true, 0) := by decide +kernel

theorem speaks_10 : latticelaw21_speaks.f 10 = some true := by
  unfold latticelaw21_speaks.f
  rw [maj4, com3, com4, has3]
  rfl

theorem speaks_ge {k : Nat} (h : 10 ≤ k) : latticelaw21_speaks.f k = some true := by
  induction k with
  | zero => omega
  | succ k ih =>
    by_cases e : k + 1 = 10
    · rw [e]; exact speaks_10
    · exact latticelaw21_speaks.mono k _ (ih (by omega))

end Go.Proofs.Ytjlcaamfpglflaa.QL
