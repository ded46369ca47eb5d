/- Words on rows of the call's own that the print lacks: an empty one, and one cut to nothing. -/
import Derived.Test.YtjlcaamfpglflaaWWords
import Derived.Test.YtjlcaamfpglflaaWMore
namespace Go.Proofs.Ytjlcaamfpglflaa.Ext
open Go.RowKit Go.Proofs.YtjlcaamfpglflaaW.PrintWords
theorem R_empty {α : Type} (d : Kd α) (e : Nat) (W : World) (base : Nat) (ok : Nat → Prop) (g : Nat) (hg : W.heap[g]? = some (.cells #[] e (0, 0))) (hb : base ≤ g) (hok : ok g) : Kd.R d e W base ok (.slice (some ⟨g, 0, none⟩) 0 0) [] :=
  ⟨fun k hk => by
    have hk' : some g = some k := hk
    obtain rfl := Option.some.inj hk'
    exact hok, [], ⟨by simp, .inr ⟨g, 0, #[], rfl, hb, hg, Nat.le_refl _, Nat.zero_le _, by simp, by simp⟩⟩, Reps.none _ _⟩


theorem R_cut0 {α : Type} {d : Kd α} {e : Nat} {W : World} {base : Nat} {ok : Nat → Prop} {A : Option Addr} {n c : Nat} {xs : List α} (h : Kd.R d e W base ok (.slice A n c) xs) : Kd.R d e W base ok (.slice A 0 c) [] := by
  obtain ⟨h1, inner, ⟨_, ho⟩, _⟩ := h
  refine ⟨fun k hk => h1 k (by cases A <;> exact hk), [], ⟨by simp, ?_⟩, Reps.none _ _⟩
  rcases ho with ⟨e1, _⟩ | ⟨g, cap, cur, e1, h2, h3, h4, h5, h6, _⟩
  · simp only [Value.slice.injEq] at e1
    obtain ⟨rfl, rfl, rfl⟩ := e1
    exact .inl ⟨rfl, rfl⟩
  · simp only [Value.slice.injEq] at e1
    obtain ⟨rfl, rfl, rfl⟩ := e1
    exact .inr ⟨g, c, cur, rfl, h2, h3, Nat.zero_le _, h5, h6, by simp⟩

end Go.Proofs.Ytjlcaamfpglflaa.Ext
