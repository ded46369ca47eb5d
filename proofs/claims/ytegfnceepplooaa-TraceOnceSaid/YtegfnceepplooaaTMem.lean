/- Trace: the watcher in memory: three maps, the calls' order, the history ahead and the one at hand. -/
import Derived.Test.YtegfnceepplooaaTDef
import Derived.StillTailTactics
import Derived.Maps.OwnOps
set_option linter.unusedVariables false
set_option linter.unusedSimpArgs false
namespace Go.Proofs.Ytegfnceepplooaa.TR
open Go.RowKit Go.Maps Go.Proofs.Ytegfnceepplooaa.FMap Go.Proofs.Ytegfnceepplooaa.PTR Go.Proofs.YtegfnceepplooaaW.PrintWords Go.Proofs.YtegfnceepplooaaW.PrintLast

abbrev kR := k50
abbrev kI : Kd Int := Kd.int .i64

/-! ### maps with whole numbers for keys -/
theorem keyI : Keyed Try.prog 3 := int_keyed Try.underlying3
theorem key_of {x : Int} (hx : (Lit.int .i64 x).wf = true) : keyOf Try.prog 3 (.int .i64 x) = some (.int .i64 x) := keyOf_int_mk Try.underlying3 hx
/-- A map reads as a function. -/
def MapI {α : Type} (R : Value → Option (DataW Unit × List MemPlace)) (en : α → DataW Unit) (W : World) (b n : Nat) (f : Int → Option α) : Prop :=
  ∃ D, W.ownsMap Try.prog 3 R b n D ∧ ∀ x, (Lit.int .i64 x).wf = true → has D (.int .i64 x) = (f x).isSome ∧ ∀ z, D.atKey (.int .i64 x) z = ((f x).map en).getD z
section
variable {α : Type} {R : Value → Option (DataW Unit × List MemPlace)} {en : α → DataW Unit} {W W' : World} {b n : Nat} {f : Int → Option α}
theorem MapI.lt (h : MapI R en W b n f) : b < W.heap.size := by obtain ⟨D, h, _⟩ := h; exact h.lt
theorem MapI.mono (h : MapI R en W b n f) {n' : Nat} (hn : n ≤ n') : MapI R en W b n' f := by obtain ⟨D, h1, h2⟩ := h; exact ⟨D, h1.mono hn, h2⟩
theorem MapI.same (h : MapI R en W b n f) (hb : W'.heap[b]? = W.heap[b]?) : MapI R en W' b n f := by
  obtain ⟨D, ⟨es, clock, h1, h2⟩, h3⟩ := h
  exact ⟨D, ⟨es, clock, hb.trans h1, h2⟩, h3⟩
theorem MapI.is_map (h : MapI R en W b n f) : ∃ es clock, W.heap[b]? = some (.map es clock) := by
  obtain ⟨D, ⟨es, clock, h1, _⟩, _⟩ := h
  exact ⟨es, clock, h1⟩
theorem MapI.made (W : World) : MapI R en (W.alloc (.map #[] 0)) W.heap.size 0 (fun _ => none) := ⟨.map [], World.ownsMap_made W _ _ _, fun x hx => ⟨rfl, fun z => rfl⟩⟩
theorem put_reads {D : DataW Unit} (hD : IsMap D) {f : Int → Option α} (h : ∀ x, (Lit.int .i64 x).wf = true → has D (.int .i64 x) = (f x).isSome ∧ ∀ z, D.atKey (.int .i64 x) z = ((f x).map en).getD z) (k : Int) (v : α) :
    ∀ x, (Lit.int .i64 x).wf = true → has (D.put (.int .i64 k) (en v)) (.int .i64 x) = (upd f k v x).isSome ∧ ∀ z, (D.put (.int .i64 k) (en v)).atKey (.int .i64 x) z = ((upd f k v x).map en).getD z := fun x hx => by
  unfold upd
  by_cases e : x = k
  · subst e
    rw [if_pos rfl]
    exact ⟨has_put_same hD (by trivial) _, fun z => by rw [atKey_put_same hD (by trivial)]; rfl⟩
  · rw [if_neg e]
    obtain ⟨h1, h2⟩ := h x hx
    exact ⟨by rw [has_put_other (by intro h'; injection h' with _ h2; exact e h2)]; exact h1, fun z => by rw [atKey_put_other (by intro h'; injection h' with _ h2; exact e h2)]; exact h2 z⟩
end

/-! ### what the maps hold -/
def valC (c : Call) : Value := .agg #[.int .i64 c.f0, .int .i64 c.f1, .int .i64 c.f2.f0, .string c.f2.f1, .string c.f2.f2]
def enC (c : Call) : DataW Unit := .agg [.lit (.int .i64 c.f0), .lit (.int .i64 c.f1), .lit (.int .i64 c.f2.f0), .lit (.string c.f2.f1.data.toList), .lit (.string c.f2.f2.data.toList)]
def RC : Value → Option (DataW Unit × List MemPlace)
  | .agg ⟨[.int .i64 a, .int .i64 b, .int .i64 k, .string s, .string t]⟩ => some (enC ⟨a, b, ⟨k, s, t⟩⟩, [])
  | _ => none
theorem RC_mk (c : Call) : RC (valC c) = some (enC c, []) := rfl
theorem bytes_eq {s t : ByteArray} (h : s.data.toList = t.data.toList) : s = t := kb_inj h
theorem RC_inv {v : Value} {c : Call} {ps : List MemPlace} (h : RC v = some (enC c, ps)) : v = valC c := by
  unfold RC at h
  split at h
  · simp only [Option.some.injEq, Prod.mk.injEq, enC, DataW.agg.injEq, List.cons.injEq, DataW.lit.injEq, Lit.int.injEq, Lit.string.injEq, true_and, and_true] at h
    obtain ⟨⟨h1, h2, h3, h4, h5⟩, _⟩ := h
    obtain ⟨c0, c1, ⟨o0, o1, o2⟩⟩ := c
    simp only at h1 h2 h3 h4 h5
    rw [h1, h2, h3, bytes_eq h4, bytes_eq h5]
    rfl
  · cases h
def zeroC : Call := ⟨0, 0, ⟨0, ⟨#[]⟩, ⟨#[]⟩⟩⟩
theorem zeroRunC (w : World) : (zeroValue 33).run Try.prog w = .ok (valC zeroC) w := by kernel_rfl
theorem zeroRunI (w : World) : (zeroValue 3).run Try.prog w = .ok (.int .i64 0) w := by kernel_rfl
noncomputable abbrev RI : Value → Option (DataW Unit × List MemPlace) := plainElem Try.prog 3
def enI (n : Int) : DataW Unit := .lit (.int .i64 n)
theorem RI_inv {v : Value} {n : Int} {ps : List MemPlace} (h : RI v = some (enI n, ps)) : v = .int .i64 n := by
  obtain ⟨a, rfl, e, _⟩ := plainElem_int_inv Try.underlying3 h
  simp only [enI, Prod.mk.injEq, DataW.lit.injEq, Lit.int.injEq, true_and] at e
  rw [e.1]

section
variable {W : World} {b n : Nat}
theorem getD_map {α β : Type} (o : Option α) (g : α → β) (z : α) : (o.map g).getD (g z) = g (o.getD z) := by cases o <;> rfl
theorem lookC_ok {f : Int → Option Call} (h : MapI RC enC W b n f) {x : Int} (hx : (Lit.int .i64 x).wf = true) : (Instr.lookup 60 (.map (some b)) (.int .i64 x) true).run Try.prog W = .ok (.tuple #[valC ((f x).getD zeroC), .bool (f x).isSome]) W := by
  obtain ⟨D, hown, hD⟩ := h
  obtain ⟨v, ps, hrun, hv⟩ := hown.look_ok keyI Try.underlying60 (zeroRunC W) (RC_mk zeroC) (key_of hx)
  obtain ⟨h1, h2⟩ := hD x hx
  rw [h2, getD_map] at hv
  rw [hrun, RC_inv hv, h1]
theorem lookC {f : Int → Option Call} (h : MapI RC enC W b n f) {x : Int} (hx : (Lit.int .i64 x).wf = true) : (Instr.lookup 60 (.map (some b)) (.int .i64 x) false).run Try.prog W = .ok (valC ((f x).getD zeroC)) W := by
  obtain ⟨D, hown, hD⟩ := h
  obtain ⟨v, ps, hrun, hv⟩ := hown.lookup keyI Try.underlying60 (zeroRunC W) (RC_mk zeroC) (key_of hx)
  obtain ⟨h1, h2⟩ := hD x hx
  rw [h2, getD_map] at hv
  rw [hrun, RC_inv hv]
theorem RI_zero : RI (.int .i64 0) = some (enI 0, []) := plainElem_int Try.underlying3 (by decide)
theorem lookI_ok {f : Int → Option Int} (h : MapI RI enI W b n f) {x : Int} (hx : (Lit.int .i64 x).wf = true) : (Instr.lookup 61 (.map (some b)) (.int .i64 x) true).run Try.prog W = .ok (.tuple #[.int .i64 ((f x).getD 0), .bool (f x).isSome]) W := by
  obtain ⟨D, hown, hD⟩ := h
  obtain ⟨v, ps, hrun, hv⟩ := hown.look_ok keyI Try.underlying61 (zeroRunI W) RI_zero (key_of hx)
  obtain ⟨h1, h2⟩ := hD x hx
  rw [h2, getD_map] at hv
  rw [hrun, RI_inv hv, h1]
theorem lookI {f : Int → Option Int} (h : MapI RI enI W b n f) {x : Int} (hx : (Lit.int .i64 x).wf = true) : (Instr.lookup 61 (.map (some b)) (.int .i64 x) false).run Try.prog W = .ok (.int .i64 ((f x).getD 0)) W := by
  obtain ⟨D, hown, hD⟩ := h
  obtain ⟨v, ps, hrun, hv⟩ := hown.lookup keyI Try.underlying61 (zeroRunI W) RI_zero (key_of hx)
  obtain ⟨h1, h2⟩ := hD x hx
  rw [h2, getD_map] at hv
  rw [hrun, RI_inv hv]
theorem storeC {f : Int → Option Call} (h : MapI RC enC W b n f) (hn : n < maxLen) {x : Int} (hx : (Lit.int .i64 x).wf = true) (c : Call) : ∃ W', (Instr.mapUpdate 60 (.map (some b)) (.int .i64 x) (valC c)).run Try.prog W = .ok () W' ∧ MapI RC enC W' b (n + 1) (upd f x c) ∧ W.grownBy W' (some b) := by
  obtain ⟨D, hown, hD⟩ := h
  obtain ⟨W', h1, h2, h3⟩ := hown.update keyI Try.underlying60 hn (key_of hx) (RC_mk c)
  exact ⟨W', h1, ⟨_, h2, put_reads hown.isMap hD x c⟩, h3⟩
theorem storeI {f : Int → Option Int} (h : MapI RI enI W b n f) (hn : n < maxLen) {x y : Int} (hx : (Lit.int .i64 x).wf = true) (hy : (Lit.int .i64 y).wf = true) : ∃ W', (Instr.mapUpdate 61 (.map (some b)) (.int .i64 x) (.int .i64 y)).run Try.prog W = .ok () W' ∧ MapI RI enI W' b (n + 1) (upd f x y) ∧ W.grownBy W' (some b) := by
  obtain ⟨D, hown, hD⟩ := h
  obtain ⟨W', h1, h2, h3⟩ := hown.update keyI Try.underlying61 hn (key_of hx) (plainElem_int Try.underlying3 hy)
  exact ⟨W', h1, ⟨_, h2, put_reads hown.isMap hD x y⟩, h3⟩
end

/-! ### the watcher -/
/-- Its block, its maps, its order; the histories are slices of what lay there when all began (world w0). -/
structure WAt (w0 W : World) (bw n : Nat) (st : St) (h : List Rec) (bc bd bf : Nat) (vo : Value) (Ab : Option Addr) (cb : Nat) (Ah : Option Addr) (ch : Nat) : Prop where
  below : Below w0.heap.size w0 W
  block : W.heap[bw]? = some (.cells #[.map (some bc), .map (some bd), vo, .map (some bf), .slice Ab st.before.length cb, .slice Ah h.length ch] 63 (0, 0))
  calls : MapI RC enC W bc n st.calls
  codes : MapI RI enI W bd n st.codes
  floors : MapI RI enI W bf n st.floors
  order : Kd.R kI 3 W w0.heap.size (fun _ => True) vo st.order
  before : Kd.C kR w0 Ab st.before.length st.before ∧ st.before.length ≤ cb
  at_h : Kd.C kR w0 Ah h.length h ∧ h.length ≤ ch
  hbw : w0.heap.size ≤ bw
  hbc : w0.heap.size ≤ bc
  hbd : w0.heap.size ≤ bd
  hbf : w0.heap.size ≤ bf
  cd : bc ≠ bd
  cf : bc ≠ bf
  df : bd ≠ bf

/-- Whatever is neither a watcher, nor a map, nor a row of numbers stays. -/
structure Fr (W W' : World) : Prop where
  size : W.heap.size ≤ W'.heap.size
  keep : ∀ (k : Nat) (cs : Array Value) (t : TypeId) (fz : Nat × Nat), W.heap[k]? = some (Obj.cells cs t fz) → t ≠ 63 → t ≠ 3 → W'.heap[k]? = some (Obj.cells cs t fz)
theorem Fr.refl (W : World) : Fr W W := ⟨Nat.le_refl _, fun _ _ _ _ h _ _ => h⟩
theorem Fr.trans {W W1 W2 : World} (h : Fr W W1) (k : Fr W1 W2) : Fr W W2 := ⟨Nat.le_trans h.size k.size, fun b cs t fz e h1 h2 => k.keep b cs t fz (h.keep b cs t fz e h1 h2) h1 h2⟩
theorem Fr.of_below {W W' : World} (h : Below W.heap.size W W') : Fr W W' := ⟨h.size, fun k cs t fz e _ _ => (h.block k (blk_lt e)).trans e⟩
theorem Fr.of_map {W W' : World} {b : Nat} (hg : W.grownBy W' (some b)) {es : Array MapEntry} {clock : Nat} (hb : W.heap[b]? = some (.map es clock)) : Fr W W' :=
  ⟨hg.size, fun k cs t fz e _ _ => (hg.block k (blk_lt e) (fun he => by
    have : k = b := Option.some.inj he
    subst this
    rw [hb] at e
    injection e with e
    cases e)).trans e⟩
theorem Fr.blk {W W' : World} (h : Fr W W') {k : Nat} {cs : Array Value} {t : TypeId} {fz : Nat × Nat} (e : W.heap[k]? = some (.cells cs t fz)) (h1 : t ≠ 63) (h2 : t ≠ 3) : W'.heap[k]? = some (.cells cs t fz) := h.keep k cs t fz e h1 h2

theorem WAt.stay {w0 W W' : World} {bw n : Nat} {st : St} {h : List Rec} {bc bd bf : Nat} {vo : Value} {Ab : Option Addr} {cb : Nat} {Ah : Option Addr} {ch : Nat} (H : WAt w0 W bw n st h bc bd bf vo Ab cb Ah ch) (hb : Below W.heap.size W W') : WAt w0 W' bw n st h bc bd bf vo Ab cb Ah ch where
  below := H.below.trans (hb.mono H.below.size)
  block := (hb.block bw (blk_lt H.block)).trans H.block
  calls := H.calls.same (hb.block bc H.calls.lt)
  codes := H.codes.same (hb.block bd H.codes.lt)
  floors := H.floors.same (hb.block bf H.floors.lt)
  order := Kd.R_below H.order hb
  before := H.before
  at_h := H.at_h
  hbw := H.hbw
  hbc := H.hbc
  hbd := H.hbd
  hbf := H.hbf
  cd := H.cd
  cf := H.cf
  df := H.df
/-- A map has been written: the other parts stay. -/
theorem order_map {W W' : World} {b base : Nat} {vo : Value} {xs : List Int} (h : Kd.R kI 3 W base (fun _ => True) vo xs) (hg : W.grownBy W' (some b)) {es : Array MapEntry} {clock : Nat} (hb : W.heap[b]? = some (.map es clock)) : Kd.R kI 3 W' base (fun _ => True) vo xs :=
  Kd.R_mono (Kd.R_move (Kd.R_bound h) (fun k hk => by
    obtain ⟨_, _, hlt, q, _, cells, hc⟩ := hk
    exact hg.block k hlt (fun he => by
      have : k = b := Option.some.inj he
      subst this
      rw [hb] at hc
      injection hc with hc
      cases hc))) (fun _ _ => trivial)
theorem block_map {W W' : World} {b bw : Nat} {cs : Array Value} {t : TypeId} (h : W.heap[bw]? = some (.cells cs t (0, 0))) (hg : W.grownBy W' (some b)) {es : Array MapEntry} {clock : Nat} (hb : W.heap[b]? = some (.map es clock)) : W'.heap[bw]? = some (.cells cs t (0, 0)) :=
  blk_grown h hg (fun he => by
    have : bw = b := Option.some.inj he
    subst this
    rw [hb] at h
    injection h with h
    cases h)

end Go.Proofs.Ytegfnceepplooaa.TR
