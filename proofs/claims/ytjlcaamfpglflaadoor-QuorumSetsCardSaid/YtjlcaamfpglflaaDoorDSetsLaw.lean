/- QuorumSets: which sets are majorities, their nodes, a set with one more, and what two have in common are what the reference says, for every number of nodes and any two numbers; the tables of math/bits as the program's text lays them (the card ties them). -/
import Derived.Test.YtjlcaamfpglflaaDoorDSetsGood
import Derived.Test.YtjlcaamfpglflaaDoorDSetsBad
import Derived.Test.YtjlcaamfpglflaaDoorDLaid
import Derived.Test.YtjlcaamfpglflaaDoorRows
import Derived.Test.YtjlcaamfpglflaaDoorTie
import Derived.Test.YtjlcaamfpglflaaDoorCards
import Derived.SevenTiedAt
import Derived.WalkKit
import Derived.ProofKit
import Derived.OpenShut
import Derived.ChangeOld
import Derived.Below
import Derived.Stop.Joined
set_option linter.unusedVariables false
namespace Go.Proofs.YtjlcaamfpglflaaDoor.DT
open Go.RowKit
theorem sets_law (n a b : Int) (w : World) (hT : TabAt w) :
    Calls Tryd.prog 4 #[.int .i64 n, .int .i64 a, .int .i64 b] w fun e w' => e = .returned (.bool true) ∧ Below w.heap.size w w' := by
  by_cases h : askV n [a] = 0
  · obtain ⟨hn, hs⟩ := askV_zero h
    obtain ⟨x, rfl, hx, hx8⟩ := okS_nat hn (hs a (by simp))
    obtain ⟨N, rfl⟩ : ∃ N : Nat, n = (N : Int) := ⟨n.toNat, by unfold okN at hn; omega⟩
    rw [Int.toNat_natCast] at hx
    by_cases hf : askV (N : Int) [(x : Int), b] = 0
    · obtain ⟨_, hs2⟩ := askV_zero hf
      obtain ⟨y, rfl, hy, hy8⟩ := okS_nat hn (hs2 b (by simp))
      rw [Int.toNat_natCast] at hy
      have hN : 1 ≤ (N : Int) ∧ (N : Int) ≤ 7 := hn
      have hl := leastU_yes (N - 1) (by omega) x (by rwa [show N - 1 + 1 = N by omega]) y (by rwa [show N - 1 + 1 = N by omega])
      rw [show N - 1 + 1 = N by omega] at hl
      by_cases hz : x &&& y = 0
      · rw [if_pos hz] at hl
        exact sets_good N x y y 0 0 (-1) true false w hT hn hx h hf rfl (fun _ => ⟨rfl, hy8⟩) (fun W hW => meet_none _ x y W hf hx8 hy8 hz) hl (fun e => by cases e) (fun _ => rfl)
      · rw [if_neg hz] at hl
        have ht := tzE_in (x &&& y) (Nat.lt_of_le_of_lt Nat.and_le_left hx8) (Nat.pos_of_ne_zero hz)
        exact sets_good N x y y 0 (tz (x &&& y)) (tz (x &&& y)) true true w hT hn hx h hf rfl (fun _ => ⟨rfl, hy8⟩) (fun W hW => meet_some _ x y W hW hf hx8 hy8 hz) hl (fun _ => ⟨ht.2.2.1, rfl⟩) (fun e => by cases e)
    · exact sets_good N x b 0 (askV (N : Int) [(x : Int), b]) 0 (-1) false false w hT hn hx h rfl (by simpa using hf) (fun e => by cases e) (fun W _ => meet_bad _ _ b W hf) (leastU_no x 0 N) (fun e => by cases e) (fun _ => rfl)
  · exact sets_bad n a b w h
end Go.Proofs.YtjlcaamfpglflaaDoor.DT
namespace Go.Proofs.YtjlcaamfpglflaaDoor.quorumSets
open Go.ChangeShapes Go.WideShapes Go.ChangeAt Go.RowKit
open Go.Proofs.YtjlcaamfpglflaaDoor.DT
theorem own : ownKnob Tryd.prog.godebug = none := by kernel_rfl
set_option maxRecDepth 100000 in
theorem lifted (os : Os) (started : os.Started) (H : Type) (enc : TypeId × Value → H) :
    ReturnsInHanded {} Tryd.checked os 4 .any (fun w args => (Rows.quorumSetsSpec.pre enc Tryd.prog Tryd.f4 [] false w args ∧ laidMetH Tryd.prog laidL w) ∧ sizedMet enc Tryd.prog Tryd.f4 (OpenSpec.ofChange Rows.quorumSetsSpec) false w args)
      (Rows.quorumSetsSpec.post enc Tryd.prog Tryd.f4 false true false false) := by
  refine returnsInHanded_of_change_and (C := Tryd.checked) (X := fun w _ => laidMetH Tryd.prog laidL w) (fun _ _ _ hh h => h.of_heap hh) own started (by kernel_rfl) Tryd.func4
    (ChangeSpec.witness_shaped (enc := enc) (C := Tryd.checked) (os := os) (X := fun w _ => laidMetH Tryd.prog laidL w) false (World.doorLaid Tryd.prog 400 os) #[.int .i64 0, .int .i64 0, .int .i64 0] 8 rfl (World.shaped_of_RefB (by kernel_rfl) (by kernel_rfl)) (by kernel_rfl) (by kernel_rfl) (by kernel_rfl) (door_met os _)) ?_
  intro W base args ds gs before hval0 hW _ _ hL _
  have hval : ∀ (j : Nat) t v, Tryd.f4.params[j]? = some t → args[j]? = some v → Value.okWide Tryd.prog W .any base t v := hval0
  have hW' := hW
  obtain ⟨p, q, hA0, hV, rfl, hfz, hnd⟩ := hW
  have hA : DataW.TrodAll enc Tryd.prog W 0 (fun _ => true) true Tryd.f4.params.toList args.toList ds p := hA0
  rw [Tryd.params4] at hA hval
  obtain ⟨v0, vs0, d0, ds0, p0, q0, hargs, rfl, rfl, h0, r0⟩ := trodAll_cons hA
  obtain ⟨v1, vs1, d1, ds1, p1, q1, rfl, rfl, rfl, h1, r1⟩ := trodAll_cons r0
  obtain ⟨v2, vs2, d2, ds2, p2, q2, rfl, rfl, rfl, h2, r2⟩ := trodAll_cons r1
  obtain ⟨rfl, rfl, rfl⟩ := trodAll_nil r2
  obtain rfl : args = #[v0, v1, v2] := by cases args; simp_all
  obtain ⟨rfl, rfl⟩ := trodVars_none hV
  obtain ⟨x0, rfl, rfl, rfl, w0⟩ := open_int Tryd.underlying3 (hval 0 3 v0 rfl rfl) h0
  obtain ⟨x1, rfl, rfl, rfl, w1⟩ := open_int Tryd.underlying3 (hval 1 3 v1 rfl rfl) h1
  obtain ⟨x2, rfl, rfl, rfl, w2⟩ := open_int Tryd.underlying3 (hval 2 3 v2 rfl rfl) h2
  have hT := tab_of_laid hL
  clear hA0 hval0
  refine (sets_law x0 x1 x2 W hT).mono fun e W' ⟨he, bel⟩ => ?_
  subst he
  exact ⟨_, rfl, _, _, _, [], _, [], hW', trodAll_mk1 (shut_bool Tryd.underlying4 _), (trodAll_cons_mk (shut_int Tryd.underlying3 w0) (trodAll_cons_mk (shut_int Tryd.underlying3 w1) (trodAll_cons_mk (shut_int Tryd.underlying3 w2) trodAll_mk0))), rfl, bel.frame _, fun h => by cases h⟩
theorem over : Rows.QuorumSetsSaid :=
  OpenClaim.holds_of_wide 4 Tryd.f4 rfl rfl rfl rfl rfl rfl rfl ⟨rfl, rfl, rfl, rfl, rfl⟩ rfl rfl rfl rfl rfl (by kernel_rfl) Tryd.func4 (by kernel_rfl)
    (of_decide_eq_true (by kernel_rfl)) (by unfold Func.isWrapper; first | (rw [if_pos (by decide +kernel)]; kernel_rfl) | (rw [if_neg (by decide +kernel)]; exact ⟨rfl, rfl⟩))
    (fun os started H enc _ => lifted os started H enc)
theorem proved : Rows.QuorumSetsCardSaid :=
  Claim7.holds_tied_plain_at .later [] [.data, .data] true (true, "3060ab6586e88d4df575eaa2d0a14efe181d6a8bff2c633898f6c103cc607d79") false
    over (fun _ h => by cases h) (by kernel_rfl) (fun _ h => by cases h) quorumSets_row_tie rfl ⟨rfl, rfl⟩ (by kernel_rfl) rfl
    (fun f fn hf hfn => by
      obtain rfl : f = 4 := Option.some.inj ((show Tryd.prog.funcNamed "lattice/latticelaw21.QuorumSets" = some 4 by kernel_rfl).symm.trans hf) |>.symm
      obtain rfl : fn = Tryd.f4 := (Option.some.inj (Tryd.func4.symm.trans hfn)).symm
      exact ⟨by kernel_rfl, fun j t ht => by
        rw [Tryd.params4] at ht
        have hm : t ∈ [3, 3, 3] := by simpa using Array.mem_of_getElem? ht
        have hall : ([3, 3, 3].all fun u => !Tryd.prog.wantsStandIn u) = true := by kernel_rfl
        exact (show Tryd.prog.wantsStandIn t = false by simpa using List.all_eq_true.1 hall t hm)⟩)
    (by kernel_rfl)
#print axioms proved
end Go.Proofs.YtjlcaamfpglflaaDoor.quorumSets
namespace Go.Proofs.YtjlcaamfpglflaaDoor
/-- The card, under a short name, for the claim. -/
theorem quorumSets_holds : Rows.QuorumSetsCardSaid := quorumSets.proved
end Go.Proofs.YtjlcaamfpglflaaDoor
