/- Trace: the call of a choice is noted; a crash or a new node lays its floor down. -/
import Derived.Test.YtegfnceepplooaaTAgrees
import Derived.Deep.RegionLaw
set_option linter.unusedVariables false
set_option linter.unusedSimpArgs false
namespace Go.Proofs.Ytegfnceepplooaa.TR
open Go.RowKit Go.Maps Go.Proofs.Ytegfnceepplooaa.FMap Go.Proofs.Ytegfnceepplooaa.PTR Go.Proofs.YtegfnceepplooaaW.PrintWords Go.Proofs.YtegfnceepplooaaW.PrintLast

/-- A call has been noted. -/
theorem WAt.called {w0 W W' : World} {bw n : Nat} {st : St} {h : List Rec} {bc bd bf : Nat} {vo : Value} {Ab : Option Addr} {cb : Nat} {Ah : Option Addr} {ch : Nat} (H : WAt w0 W bw n st h bc bd bf vo Ab cb Ah ch) {x : Int} {y : Call}
    (hm : MapI RC enC W' bc (n + 1) (upd st.calls x y)) (hg : W.grownBy W' (some bc)) : WAt w0 W' bw (n + 1) { st with calls := upd st.calls x y } h bc bd bf vo Ab cb Ah ch := by
  obtain ⟨es, clock, hb⟩ := H.calls.is_map
  exact {
    below := H.below.grown hg H.below.size (fun k hk => by cases hk; exact H.hbc)
    block := block_map H.block hg hb
    calls := hm
    codes := (H.codes.same (hg.block bd H.codes.lt (fun e => H.cd (Option.some.inj e).symm))).mono (by omega)
    floors := (H.floors.same (hg.block bf H.floors.lt (fun e => H.cf (Option.some.inj e).symm))).mono (by omega)
    order := order_map H.order hg hb
    before := H.before
    at_h := H.at_h
    hbw := H.hbw
    hbc := H.hbc
    hbd := H.hbd
    hbf := H.hbf
    cd := H.cd
    cf := H.cf
    df := H.df }
theorem infoI : (Try.prog.info? 3).map (fun i => (i.zero, i.size, i.bytes)) = some (some (.int .i64 0), 1, 8) := by kernel_rfl
theorem own_ne {W : World} {base : Nat} {ok : Nat → Prop} {vo : Value} {xs : List Int} (h : Kd.R kI 3 W base ok vo xs) {k : Nat} {cs : Array Value} {t : TypeId} {fz : Nat × Nat} (hk : W.heap[k]? = some (.cells cs t fz)) (ht : t ≠ 3) : some k ≠ vo.ownBlock := by
  obtain ⟨_, inner, ho, _⟩ := h
  intro e
  obtain ⟨cells, hc⟩ := own_typed ho k e.symm
  rw [hk] at hc
  injection hc with hc
  injection hc with _ hc
  exact ht hc
theorem own_ne_map {W : World} {base : Nat} {ok : Nat → Prop} {vo : Value} {xs : List Int} (h : Kd.R kI 3 W base ok vo xs) {k : Nat} (hk : ∃ (es : Array MapEntry) (clock : Nat), W.heap[k]? = some (Obj.map es clock)) : some k ≠ vo.ownBlock := by
  obtain ⟨_, inner, ho, _⟩ := h
  obtain ⟨es, clock, hk⟩ := hk
  intro e
  obtain ⟨cells, hc⟩ := own_typed ho k e.symm
  rw [hk] at hc
  injection hc with hc
  cases hc
theorem R_slice {W : World} {base : Nat} {ok : Nat → Prop} {vo : Value} {xs : List Int} (h : Kd.R kI 3 W base ok vo xs) : ∃ A n c, vo = .slice A n c := by
  obtain ⟨_, inner, ho, _⟩ := h
  rcases ho.2 with ⟨rfl, _⟩ | ⟨g, cap, cur, rfl, _⟩ <;> exact ⟨_, _, _, rfl⟩
theorem Fr.of_own {W W' : World} {base : Nat} {ok : Nat → Prop} {vo : Value} {xs : List Int} (h : Kd.R kI 3 W base ok vo xs) (hg : W.grownBy W' vo.ownBlock) : Fr W W' :=
  ⟨hg.size, fun k cs t fz e _ h2 => (hg.block k (blk_lt e) (own_ne h e h2)).trans e⟩
theorem Fr.of_set {W : World} {bw : Nat} {cs : Array Value} (h : W.heap[bw]? = some (.cells cs 63 (0, 0))) (i : Nat) (v : Value) : Fr W (W.setCell ⟨bw, i, none⟩ v) :=
  ⟨by simp [World.setCell], fun k ds t fz e h1 _ => (Below.heap_setCell W ⟨bw, i, none⟩ v k (fun he => by
    have : k = bw := he
    subst this
    rw [h] at e
    injection e with e
    injection e with _ e
    exact h1 e.symm)).trans e⟩
theorem order_set {W : World} {base bw : Nat} {vo : Value} {xs : List Int} (h : Kd.R kI 3 W base (fun _ => True) vo xs) {cs : Array Value} (hb : W.heap[bw]? = some (.cells cs 63 (0, 0))) (i : Nat) (v : Value) : Kd.R kI 3 (W.setCell ⟨bw, i, none⟩ v) base (fun _ => True) vo xs :=
  Kd.R_mono (Kd.R_move (Kd.R_bound h) (fun k hk => by
    obtain ⟨_, _, hlt, q, hq, cells, hc⟩ := hk
    refine Below.heap_setCell W ⟨bw, i, none⟩ v k (fun he => ?_)
    have : k = bw := he
    subst this
    rw [hb] at hc
    injection hc with hc
    injection hc with _ hc
    subst hc
    revert hq
    decide)) (fun _ _ => trivial)
/-- A request has been put behind the order. -/
theorem WAt.ordered {w0 W W' : World} {bw n : Nat} {st : St} {h : List Rec} {bc bd bf : Nat} {vo v1 : Value} {Ab : Option Addr} {cb : Nat} {Ah : Option Addr} {ch : Nat} (H : WAt w0 W bw n st h bc bd bf vo Ab cb Ah ch) {x : Int}
    (hR : Kd.R kI 3 W' w0.heap.size (fun _ => True) v1 (st.order ++ [x])) (hB : Below w0.heap.size w0 W') (hg : W.grownBy W' vo.ownBlock) : WAt w0 (W'.setCell ⟨bw, 2, none⟩ v1) bw n { st with order := st.order ++ [x] } h bc bd bf v1 Ab cb Ah ch := by
  have hw := blk_grown H.block hg (own_ne H.order H.block (by decide))
  have hm : ∀ b, (∃ (es : Array MapEntry) (clock : Nat), W.heap[b]? = some (Obj.map es clock)) → (W'.setCell ⟨bw, 2, none⟩ v1).heap[b]? = W.heap[b]? := fun b hb => by
    refine (Below.heap_setCell W' ⟨bw, 2, none⟩ v1 b (fun he => ?_)).trans (hg.block b ?_ (own_ne_map H.order hb))
    · obtain ⟨es, clock, hb⟩ := hb
      have : b = bw := he
      subst this
      rw [H.block] at hb
      injection hb with hb
      cases hb
    · obtain ⟨es, clock, hb⟩ := hb
      exact blk_lt hb
  exact {
    below := hB.setCell H.hbw v1
    block := blk_put hw 2 v1 rfl
    calls := H.calls.same (hm bc H.calls.is_map)
    codes := H.codes.same (hm bd H.codes.is_map)
    floors := H.floors.same (hm bf H.floors.is_map)
    order := order_set hR hw 2 v1
    before := H.before
    at_h := H.at_h
    hbw := H.hbw
    hbc := H.hbc
    hbd := H.hbd
    hbf := H.hbf
    cd := H.cd
    cf := H.cf
    df := H.df }
theorem choice_one (st : St) {c : Cho} (h : c.f0 = 1) {y : Call} (hc : st.calls c.f4.f0 = some y) : choiceV st c = st := by
  unfold choiceV; rw [if_pos h, hc]
theorem choice_new (st : St) {c : Cho} (h : c.f0 = 1) (hc : st.calls c.f4.f0 = none) : choiceV st c = { st with calls := upd st.calls c.f4.f0 c.f4, order := st.order ++ [c.f4.f0] } := by
  unfold choiceV; rw [if_pos h, hc]
theorem choice_floor (st : St) {c : Cho} (h : c.f0 = 8 ∨ c.f0 = 9) : choiceV st c = { st with floors := upd st.floors c.f1 0 } := by
  unfold choiceV; rw [if_neg (by omega), if_pos h]
theorem choice_else (st : St) {c : Cho} (h1 : c.f0 ≠ 1) (h8 : c.f0 ≠ 8) (h9 : c.f0 ≠ 9) : choiceV st c = st := by
  unfold choiceV; rw [if_neg h1, if_neg (by omega)]
/-- Nothing stays behind unseen: whatever is not the watcher, its two maps, its order stays. -/
structure FrN (bw bc bf : Nat) (vo : Value) (W W' : World) : Prop where
  size : W.heap.size ≤ W'.heap.size
  keep : ∀ k, k < W.heap.size → k ≠ bw → k ≠ bc → k ≠ bf → some k ≠ vo.ownBlock → W'.heap[k]? = W.heap[k]?
section
variable {bw bc bf : Nat} {vo : Value} {W W1 W' : World}
theorem FrN.trans (h : FrN bw bc bf vo W W1) (k : FrN bw bc bf vo W1 W') : FrN bw bc bf vo W W' := ⟨Nat.le_trans h.size k.size, fun b h0 h1 h2 h3 h4 => (k.keep b (Nat.lt_of_lt_of_le h0 h.size) h1 h2 h3 h4).trans (h.keep b h0 h1 h2 h3 h4)⟩
theorem FrN.of_below (h : Below W.heap.size W W') : FrN bw bc bf vo W W' := ⟨h.size, fun k h0 _ _ _ _ => h.block k h0⟩
theorem FrN.of_map {b : Nat} (hg : W.grownBy W' (some b)) (hb : b = bc ∨ b = bf) : FrN bw bc bf vo W W' := ⟨hg.size, fun k h0 _ h2 h3 _ => hg.block k h0 (fun he => by
  have : k = b := Option.some.inj he
  subst this
  rcases hb with rfl | rfl
  · exact h2 rfl
  · exact h3 rfl)⟩
theorem FrN.of_own (hg : W.grownBy W' vo.ownBlock) : FrN bw bc bf vo W W' := ⟨hg.size, fun k h0 _ _ _ h4 => hg.block k h0 h4⟩
theorem FrN.of_set (i : Nat) (v : Value) : FrN bw bc bf vo W (W.setCell ⟨bw, i, none⟩ v) := ⟨by simp [World.setCell], fun k _ h1 _ _ _ => Below.heap_setCell W ⟨bw, i, none⟩ v k (fun he => h1 he)⟩
theorem FrN.fr {w0 : World} {n : Nat} {st : St} {h : List Rec} {bd : Nat} {Ab : Option Addr} {cb : Nat} {Ah : Option Addr} {ch : Nat} (hf : FrN bw bc bf vo W W') (H : WAt w0 W bw n st h bc bd bf vo Ab cb Ah ch) : Fr W W' := ⟨hf.size, fun k cs t fz e h1 h2 => by
  refine (hf.keep k (blk_lt e) ?_ ?_ ?_ (own_ne H.order e h2)).trans e
  · intro he
    subst he
    rw [H.block] at e
    injection e with e
    injection e with _ e
    exact h1 e.symm
  · intro he
    subst he
    obtain ⟨es, cl, hb⟩ := H.calls.is_map
    rw [hb] at e
    injection e with e
    cases e
  · intro he
    subst he
    obtain ⟨es, cl, hb⟩ := H.floors.is_map
    rw [hb] at e
    injection e with e
    cases e⟩
end
/-- The order is where it was, or in a new place. -/
def OwnT (vo v1 : Value) (W : World) : Prop := v1.ownBlock = vo.ownBlock ∨ ∃ b, v1.ownBlock = some b ∧ W.heap.size ≤ b

abbrev choA (p0 p1 p2 p3 c0 c1 o0 : Int) (o1 o2 : ByteArray) (v9 : Value) : Array Value := #[.int .i64 p0, .int .i64 p1, .int .i64 p2, .int .i64 p3, .int .i64 c0, .int .i64 c1, .int .i64 o0, .string o1, .string o2, v9]

set_option maxHeartbeats 8000000 in
set_option maxRecDepth 100000 in
/-- A choice that is no call. -/
theorem choice_apart {w0 W : World} {bw n : Nat} {st : St} {h : List Rec} {bc bd bf : Nat} {vo : Value} {Ab : Option Addr} {cb : Nat} {Ah : Option Addr} {ch : Nat} (H : WAt w0 W bw n st h bc bd bf vo Ab cb Ah ch) (hn : n < maxLen)
    (p0 p1 p2 p3 c0 c1 o0 : Int) (o1 o2 : ByteArray) (v9 : Value) (l9 : List Int) (hx1 : (Lit.int .i64 p1).wf = true) (h1 : p0 ≠ 1) :
    Calls Try.prog 18 #[.pointer (some ⟨bw, 0, none⟩), .agg #[.int .i64 p0, .int .i64 p1, .int .i64 p2, .int .i64 p3, .int .i64 c0, .int .i64 c1, .int .i64 o0, .string o1, .string o2, v9]] W fun e W' => e = .returned (.tuple #[]) ∧ FrN bw bc bf vo W W' ∧ WAt w0 W' bw (n + 1) (choiceV st ⟨p0, p1, p2, p3, ⟨c0, c1, ⟨o0, o1, o2⟩⟩, l9⟩) h bc bd bf vo Ab cb Ah ch := by
  obtain ⟨W1, hW1⟩ : ∃ W1, W1 = W.alloc (.cells #[.int .i64 p0, .int .i64 p1, .int .i64 p2, .int .i64 p3, .int .i64 c0, .int .i64 c1, .int .i64 o0, .string o1, .string o2, v9] 36) := ⟨_, rfl⟩
  have hB : Below W.heap.size W W1 := by rw [hW1]; exact (Below.refl _ W).alloc (Nat.le_refl _) _
  have H1 := H.stay hB
  have x0 : W1.cell? ⟨W.heap.size, 0, none⟩ = some (.int .i64 p0) := by rw [hW1]; simp
  have x1 : W1.cell? ⟨W.heap.size, 1, none⟩ = some (.int .i64 p1) := by rw [hW1]; simp
  have c3 : W1.cell? ⟨bw, 3, none⟩ = some (.map (some bf)) := (blk_cell H1.block 3).trans rfl
  have HFR : Aside0 (FrN bw bc bf vo W W1) := ⟨FrN.of_below hB⟩
  have HH := Aside0.mk H1
  have HX1 := Aside0.mk hx1
  have HN := Aside0.mk hn
  have hp1 : (p0 == 1) = false := by simpa using h1
  clear H H1 hB hx1 hn
  cases h8 : (p0 == 8)
  · cases h9 : (p0 == 9)
    · have HK : Aside0 (choiceV st ⟨p0, p1, p2, p3, ⟨c0, c1, ⟨o0, o1, o2⟩⟩, l9⟩ = st) := ⟨choice_else st h1 (by simpa using h8) (by simpa using h9)⟩
      clear h1
      go_enter Try.func18, Try.ntmps18
      go_wp2
      rw [← hW1]
      clear hW1
      go_wp2
      refine bodyPost_end (results_none rfl _ _ _) rfl ?_
      exact ⟨rfl, HFR.out, by rw [HK.out]; exact HH.out.raise (Nat.le_succ _)⟩
    · have HK : Aside0 (choiceV st ⟨p0, p1, p2, p3, ⟨c0, c1, ⟨o0, o1, o2⟩⟩, l9⟩ = { st with floors := upd st.floors p1 0 }) := ⟨choice_floor st (Or.inr (by simpa using h9))⟩
      clear h1
      obtain ⟨w5, hup, hm, hg⟩ := storeI (W := W1.drew) (HH.out.floors.same rfl) HN.out HX1.out (y := 0) (by decide)
      have HU := Aside0.mk (And.intro hm hg)
      clear hm hg
      go_enter Try.func18, Try.ntmps18
      go_wp2
      rw [← hW1]
      clear hW1
      go_wp2
      go_still_tail 6, (by kernel_rfl)
      go_wp2
      refine bodyPost_end (results_none rfl _ _ _) rfl ?_
      have HD := HH.out.stay (W' := W1.drew) (Below.refl _ W1).drew
      obtain ⟨es, clock, hb⟩ := HD.floors.is_map
      exact ⟨rfl, (HFR.out.trans (FrN.of_below (W' := W1.drew) (Below.refl _ W1).drew)).trans (FrN.of_map HU.out.2 (Or.inr rfl)), by rw [HK.out]; exact HD.floored HU.out.1 HU.out.2⟩
  · have HK : Aside0 (choiceV st ⟨p0, p1, p2, p3, ⟨c0, c1, ⟨o0, o1, o2⟩⟩, l9⟩ = { st with floors := upd st.floors p1 0 }) := ⟨choice_floor st (Or.inl (by simpa using h8))⟩
    clear h1
    obtain ⟨w5, hup, hm, hg⟩ := storeI (W := W1.drew) (HH.out.floors.same rfl) HN.out HX1.out (y := 0) (by decide)
    have HU := Aside0.mk (And.intro hm hg)
    clear hm hg
    go_enter Try.func18, Try.ntmps18
    go_wp2
    rw [← hW1]
    clear hW1
    go_wp2
    go_still_tail 6, (by kernel_rfl)
    go_wp2
    refine bodyPost_end (results_none rfl _ _ _) rfl ?_
    have HD := HH.out.stay (W' := W1.drew) (Below.refl _ W1).drew
    obtain ⟨es, clock, hb⟩ := HD.floors.is_map
    exact ⟨rfl, (HFR.out.trans (FrN.of_below (W' := W1.drew) (Below.refl _ W1).drew)).trans (FrN.of_map HU.out.2 (Or.inr rfl)), by rw [HK.out]; exact HD.floored HU.out.1 HU.out.2⟩

set_option maxHeartbeats 8000000 in
set_option maxRecDepth 100000 in
/-- A call that is there already. -/
theorem choice_known {w0 W : World} {bw n : Nat} {st : St} {h : List Rec} {bc bd bf : Nat} {vo : Value} {Ab : Option Addr} {cb : Nat} {Ah : Option Addr} {ch : Nat} (H : WAt w0 W bw n st h bc bd bf vo Ab cb Ah ch) (hn : n < maxLen)
    (p0 p1 p2 p3 c0 c1 o0 : Int) (o1 o2 : ByteArray) (v9 : Value) (l9 : List Int) (hx : (Lit.int .i64 c0).wf = true) (h1 : p0 = 1) (y0 y1 y2 : Int) (y3 y4 : ByteArray) (hc : st.calls c0 = some ⟨y0, y1, ⟨y2, y3, y4⟩⟩) :
    Calls Try.prog 18 #[.pointer (some ⟨bw, 0, none⟩), .agg #[.int .i64 p0, .int .i64 p1, .int .i64 p2, .int .i64 p3, .int .i64 c0, .int .i64 c1, .int .i64 o0, .string o1, .string o2, v9]] W fun e W' => e = .returned (.tuple #[]) ∧ FrN bw bc bf vo W W' ∧ WAt w0 W' bw (n + 1) (choiceV st ⟨p0, p1, p2, p3, ⟨c0, c1, ⟨o0, o1, o2⟩⟩, l9⟩) h bc bd bf vo Ab cb Ah ch := by
  obtain ⟨W1, hW1⟩ : ∃ W1, W1 = W.alloc (.cells #[.int .i64 p0, .int .i64 p1, .int .i64 p2, .int .i64 p3, .int .i64 c0, .int .i64 c1, .int .i64 o0, .string o1, .string o2, v9] 36) := ⟨_, rfl⟩
  have hB : Below W.heap.size W W1 := by rw [hW1]; exact (Below.refl _ W).alloc (Nat.le_refl _) _
  have H1 := H.stay hB
  have hs : W1.heap.size = W.heap.size + 1 := by rw [hW1]; simp
  have x0 : W1.cell? ⟨W.heap.size, 0, none⟩ = some (.int .i64 p0) := by rw [hW1]; simp
  have x4 : W1.cell? ⟨W.heap.size, 4, none⟩ = some (.int .i64 c0) := by rw [hW1]; simp
  have c0' : W1.cell? ⟨bw, 0, none⟩ = some (.map (some bc)) := (blk_cell H1.block 0).trans rfl
  have hbw : bw < W1.heap.size := blk_lt H1.block
  have hbne : bw ≠ W1.heap.size := Nat.ne_of_lt hbw
  have hL := fun w (hw : w.heap[bc]? = W1.heap[bc]?) => lookC_ok (W := w) (H1.calls.same hw) hx
  rw [hc] at hL
  simp only [Option.getD_none, Option.getD_some, Option.isSome_none, Option.isSome_some, valC, zeroC] at hL
  have hl0 := hL W1.drew rfl
  have hl1 := hL (W1.alloc (.cells #[.int .i64 0, .int .i64 0, .int .i64 0, .string ⟨#[]⟩, .string ⟨#[]⟩] 33)).drew (Below.heap_alloc _ _ _ H1.calls.lt)
  have z0 : (W1.alloc (.cells #[.int .i64 0, .int .i64 0, .int .i64 0, .string ⟨#[]⟩, .string ⟨#[]⟩] 33)).cell? ⟨bw, 0, none⟩ = some (.map (some bc)) := (((Below.refl W1.heap.size W1).alloc (Nat.le_refl _) _).cell (p := ⟨bw, 0, none⟩) hbw).trans c0'
  have z4 : (W1.alloc (.cells #[.int .i64 0, .int .i64 0, .int .i64 0, .string ⟨#[]⟩, .string ⟨#[]⟩] 33)).cell? ⟨W.heap.size, 4, none⟩ = some (.int .i64 c0) := (((Below.refl W1.heap.size W1).alloc (Nat.le_refl _) _).cell (p := ⟨W.heap.size, 4, none⟩) (by show W.heap.size < _; omega)).trans x4
  have hp1 : (p0 == 1) = true := by simpa using h1
  have HFR : Aside0 (FrN bw bc bf vo W W1) := ⟨FrN.of_below hB⟩
  have HBB := Aside0.mk hB
  have HH := Aside0.mk H1
  have HN := Aside0.mk hn
  have HX := Aside0.mk hx
  have HC := Aside0.mk hc
  have HP := Aside0.mk h1
  have HS := Aside0.mk hs
  have HWE := Aside0.mk hW1
  clear H H1 hB hn hx hL hc h1 hs
  have HK : Aside0 (choiceV st ⟨p0, p1, p2, p3, ⟨c0, c1, ⟨o0, o1, o2⟩⟩, l9⟩ = st) := ⟨choice_one st HP.out HC.out⟩
  go_enter Try.func18, Try.ntmps18
  go_wp2
  rw [← hW1]
  clear hW1
  go_wp2
  go_region
  all_goals
    go_wp2
    refine bodyPost_end (results_none rfl _ _ _) rfl ?_
    have hd : ∀ X, Below W1.heap.size W1 (W1.alloc X).drew := fun X => ((Below.refl _ W1).alloc (Nat.le_refl _) X).drew
    exact ⟨rfl, HFR.out.trans (FrN.of_below (hd _)), by rw [HK.out]; exact (HH.out.stay (hd _)).raise (Nat.le_succ _)⟩

set_option maxHeartbeats 8000000 in
set_option maxRecDepth 100000 in
/-- A call that is new. -/
theorem choice_call {w0 W : World} {bw n : Nat} {st : St} {h : List Rec} {bc bd bf : Nat} {vo : Value} {Ab : Option Addr} {cb : Nat} {Ah : Option Addr} {ch : Nat} (H : WAt w0 W bw n st h bc bd bf vo Ab cb Ah ch) (hn : n < maxLen)
    (p0 p1 p2 p3 c0 c1 o0 : Int) (o1 o2 : ByteArray) (v9 : Value) (l9 : List Int) (hx : (Lit.int .i64 c0).wf = true) (h1 : p0 = 1) (hc : st.calls c0 = none) (hlen : st.order.length < 1099511627776) :
    Calls Try.prog 18 #[.pointer (some ⟨bw, 0, none⟩), .agg #[.int .i64 p0, .int .i64 p1, .int .i64 p2, .int .i64 p3, .int .i64 c0, .int .i64 c1, .int .i64 o0, .string o1, .string o2, v9]] W fun e W' => e = .returned (.tuple #[]) ∧ FrN bw bc bf vo W W' ∧ ∃ vo', OwnT vo vo' W ∧ WAt w0 W' bw (n + 1) (choiceV st ⟨p0, p1, p2, p3, ⟨c0, c1, ⟨o0, o1, o2⟩⟩, l9⟩) h bc bd bf vo' Ab cb Ah ch := by
  obtain ⟨W1, hW1⟩ : ∃ W1, W1 = W.alloc (.cells #[.int .i64 p0, .int .i64 p1, .int .i64 p2, .int .i64 p3, .int .i64 c0, .int .i64 c1, .int .i64 o0, .string o1, .string o2, v9] 36) := ⟨_, rfl⟩
  have hB : Below W.heap.size W W1 := by rw [hW1]; exact (Below.refl _ W).alloc (Nat.le_refl _) _
  have H1 := H.stay hB
  have hs : W1.heap.size = W.heap.size + 1 := by rw [hW1]; simp
  have x0 : W1.cell? ⟨W.heap.size, 0, none⟩ = some (.int .i64 p0) := by rw [hW1]; simp
  have x4 : W1.cell? ⟨W.heap.size, 4, none⟩ = some (.int .i64 c0) := by rw [hW1]; simp
  have c0' : W1.cell? ⟨bw, 0, none⟩ = some (.map (some bc)) := (blk_cell H1.block 0).trans rfl
  have hbw : bw < W1.heap.size := blk_lt H1.block
  have hbne : bw ≠ W1.heap.size := Nat.ne_of_lt hbw
  have hL := fun w (hw : w.heap[bc]? = W1.heap[bc]?) => lookC_ok (W := w) (H1.calls.same hw) hx
  rw [hc] at hL
  simp only [Option.getD_none, Option.getD_some, Option.isSome_none, Option.isSome_some, valC, zeroC] at hL
  have hl0 := hL W1.drew rfl
  have hl1 := hL (W1.alloc (.cells #[.int .i64 0, .int .i64 0, .int .i64 0, .string ⟨#[]⟩, .string ⟨#[]⟩] 33)).drew (Below.heap_alloc _ _ _ H1.calls.lt)
  have z0 : (W1.alloc (.cells #[.int .i64 0, .int .i64 0, .int .i64 0, .string ⟨#[]⟩, .string ⟨#[]⟩] 33)).cell? ⟨bw, 0, none⟩ = some (.map (some bc)) := (((Below.refl W1.heap.size W1).alloc (Nat.le_refl _) _).cell (p := ⟨bw, 0, none⟩) hbw).trans c0'
  have z4 : (W1.alloc (.cells #[.int .i64 0, .int .i64 0, .int .i64 0, .string ⟨#[]⟩, .string ⟨#[]⟩] 33)).cell? ⟨W.heap.size, 4, none⟩ = some (.int .i64 c0) := (((Below.refl W1.heap.size W1).alloc (Nat.le_refl _) _).cell (p := ⟨W.heap.size, 4, none⟩) (by show W.heap.size < _; omega)).trans x4
  have hp1 : (p0 == 1) = true := by simpa using h1
  have HFR : Aside0 (FrN bw bc bf vo W W1) := ⟨FrN.of_below hB⟩
  have HBB := Aside0.mk hB
  have HH := Aside0.mk H1
  have HN := Aside0.mk hn
  have HX := Aside0.mk hx
  have HC := Aside0.mk hc
  have HP := Aside0.mk h1
  have HS := Aside0.mk hs
  have HA : Aside0 (∀ w', Below W1.heap.size W1 w' → w'.heap[W.heap.size]? = some (.cells #[.int .i64 p0, .int .i64 p1, .int .i64 p2, .int .i64 p3, .int .i64 c0, .int .i64 c1, .int .i64 o0, .string o1, .string o2, v9] 36 (0, 0))) := ⟨fun w' hw => blk_below (by rw [hW1]; exact blk_new _ _) hw⟩
  have HWE := Aside0.mk hW1
  clear H H1 hB hn hx hL hc h1 hs
  have HK := Aside0.mk (choice_new st (c := ⟨p0, p1, p2, p3, ⟨c0, c1, ⟨o0, o1, o2⟩⟩, l9⟩) HP.out HC.out)
  go_enter Try.func18, Try.ntmps18
  go_wp2
  rw [← hW1]
  clear hW1
  go_wp2
  go_region
  all_goals
    go_wp2
    obtain ⟨W2, hW2⟩ : ∃ W2, W2 = (W1.alloc (.cells #[.int .i64 0, .int .i64 0, .int .i64 0, .string ⟨#[]⟩, .string ⟨#[]⟩] 33)).drew := ⟨_, rfl⟩
    rw [← hW2]
    have hB2 : Below W1.heap.size W1 W2 := by rw [hW2]; exact ((Below.refl _ W1).alloc (Nat.le_refl _) _).drew
    clear hW2 x0 x4 c0' z0 z4 hl0 hl1 hbw hbne hp1
    have h2 := HH.out.stay hB2
    have c0' : W2.cell? ⟨bw, 0, none⟩ = some (.map (some bc)) := (blk_cell h2.block 0).trans rfl
    have ba := HA.out W2 hB2
    have x4 := (blk_cell ba 4).trans rfl
    have x5 := (blk_cell ba 5).trans rfl
    have x6 := (blk_cell ba 6).trans rfl
    have x7 := (blk_cell ba 7).trans rfl
    have x8 := (blk_cell ba 8).trans rfl
    obtain ⟨w5, hup, hm, hg⟩ := storeC (W := W2.drew) (h2.calls.same rfl) HN.out HX.out ⟨c0, c1, ⟨o0, o1, o2⟩⟩
    simp only [valC] at hup
    have hd := h2.stay (W' := W2.drew) (Below.refl _ W2).drew
    have H5 := Aside0.mk (hd.called hm hg)
    obtain ⟨es, clock, hb⟩ := hd.calls.is_map
    have hf5 := Fr.of_map hg hb
    have HF5 : Aside0 (FrN bw bc bf vo W w5) := ⟨(HFR.out.trans (FrN.of_below hB2)).trans ((FrN.of_below (W' := W2.drew) (Below.refl _ W2).drew).trans (FrN.of_map hg (Or.inl rfl)))⟩
    have BA := Aside0.mk (hf5.blk (show W2.drew.heap[W.heap.size]? = _ from ba) (by decide) (by decide))
    clear hm hg hd hb hf5 ba h2 hB2
    go_still_tail 9, (by kernel_rfl)
    go_wp2
    clear c0' x4 x5 x6 x7 x8 hup
    have b5 := H5.out.block
    have c2 := (blk_cell b5 2).trans rfl
    have x4 := (blk_cell BA.out 4).trans rfl
    have z2 : (w5.alloc (.cells #[.int .i64 c0] 3)).cell? ⟨bw, 2, none⟩ = some vo := (blk_cell (blk_alloc b5 _) 2).trans rfl
    clear b5
    have HO := Aside0.mk (Kd.R_drew H5.out.order)
    have HB5 := Aside0.mk H5.out.below.drew
    have HLN := Aside0.mk hlen
    clear hlen
    go_region_law (refine Kd.R_append_step kI (w0 := w0) w0.heap.size rfl (.tmp 36) (.tmp 40) 29 3 (.int .i64 0) 8 rfl Try.underlying29 infoI rfl (by decide) (by omega) vo st.order c0 [.int .i64 c0] (fun _ => True) (fun _ => False) rfl rfl rfl (fun _ hk => hk.elim) (fun _ _ => trivial) HO.out HB5.out HB5.out.size (by have := HLN.out; omega) ?_; intro v1 w6 hR1 hB1 hg1 hv1; obtain ⟨A1, n1, k1, rfl⟩ := R_slice hR1; have HR1 := Aside0.mk (And.intro hR1 (And.intro hB1 hg1)); have HV1 := Aside0.mk hv1; have hw6 := blk_grown (w := w5.drew) H5.out.block hg1 (own_ne HO.out (W := w5.drew) H5.out.block (by decide)); have s2 : w6.cell? ⟨bw, 2, none⟩ = some vo := (blk_cell hw6 2).trans rfl; have f2 : w6.frozen? ⟨bw, 2, none⟩ = false := blk_frozen hw6 2; clear hR1 hB1 hg1 hv1 hw6)
    all_goals
      go_wp2
      refine bodyPost_end (results_none rfl _ _ _) rfl ?_
      have hD := H5.out.stay (W' := w5.drew) (Below.refl _ w5).drew
      have hS := hD.ordered HR1.out.1 HR1.out.2.1 HR1.out.2.2
      have hw6 := blk_grown hD.block HR1.out.2.2 (own_ne hD.order hD.block (by decide))
      exact ⟨rfl, HF5.out.trans (((FrN.of_below (W' := w5.drew) (Below.refl _ w5).drew).trans (FrN.of_own HR1.out.2.2)).trans (FrN.of_set 2 _)), _, HV1.out.imp_right (fun ⟨b, h1, h2⟩ => ⟨b, h1, Nat.le_trans HF5.out.size h2⟩), by rw [HK.out]; exact hS⟩
/-- A choice, whichever. -/
theorem choice_full {w0 W : World} {bw n : Nat} {st : St} {h : List Rec} {bc bd bf : Nat} {vo : Value} {Ab : Option Addr} {cb : Nat} {Ah : Option Addr} {ch : Nat} (H : WAt w0 W bw n st h bc bd bf vo Ab cb Ah ch) (hn : n < maxLen) (hlen : st.order.length < 1099511627776)
    (p0 p1 p2 p3 c0 c1 o0 : Int) (o1 o2 : ByteArray) (v9 : Value) (l9 : List Int) (hx : (Lit.int .i64 c0).wf = true) (hx1 : (Lit.int .i64 p1).wf = true) :
    Calls Try.prog 18 #[.pointer (some ⟨bw, 0, none⟩), .agg #[.int .i64 p0, .int .i64 p1, .int .i64 p2, .int .i64 p3, .int .i64 c0, .int .i64 c1, .int .i64 o0, .string o1, .string o2, v9]] W fun e W' => e = .returned (.tuple #[]) ∧ FrN bw bc bf vo W W' ∧ ∃ vo', OwnT vo vo' W ∧ WAt w0 W' bw (n + 1) (choiceV st ⟨p0, p1, p2, p3, ⟨c0, c1, ⟨o0, o1, o2⟩⟩, l9⟩) h bc bd bf vo' Ab cb Ah ch := by
  by_cases h1 : p0 = 1
  · cases hc : st.calls c0 with
    | none => exact choice_call H hn p0 p1 p2 p3 c0 c1 o0 o1 o2 v9 l9 hx h1 hc hlen
    | some y => exact (choice_known H hn p0 p1 p2 p3 c0 c1 o0 o1 o2 v9 l9 hx h1 y.f0 y.f1 y.f2.f0 y.f2.f1 y.f2.f2 hc).mono fun e W' h => ⟨h.1, h.2.1, _, Or.inl rfl, h.2.2⟩
  · exact (choice_apart H hn p0 p1 p2 p3 c0 c1 o0 o1 o2 v9 l9 hx1 h1).mono fun e W' h => ⟨h.1, h.2.1, _, Or.inl rfl, h.2.2⟩
theorem choice_any {w0 W : World} {bw n : Nat} {st : St} {h : List Rec} {bc bd bf : Nat} {vo : Value} {Ab : Option Addr} {cb : Nat} {Ah : Option Addr} {ch : Nat} (H : WAt w0 W bw n st h bc bd bf vo Ab cb Ah ch) (hn : n < maxLen) (hlen : st.order.length < 1099511627776)
    (p0 p1 p2 p3 c0 c1 o0 : Int) (o1 o2 : ByteArray) (v9 : Value) (l9 : List Int) (hx : (Lit.int .i64 c0).wf = true) (hx1 : (Lit.int .i64 p1).wf = true) :
    Calls Try.prog 18 #[.pointer (some ⟨bw, 0, none⟩), .agg #[.int .i64 p0, .int .i64 p1, .int .i64 p2, .int .i64 p3, .int .i64 c0, .int .i64 c1, .int .i64 o0, .string o1, .string o2, v9]] W fun e W' => e = .returned (.tuple #[]) ∧ Fr W W' ∧ ∃ vo', WAt w0 W' bw (n + 1) (choiceV st ⟨p0, p1, p2, p3, ⟨c0, c1, ⟨o0, o1, o2⟩⟩, l9⟩) h bc bd bf vo' Ab cb Ah ch :=
  (choice_full H hn hlen p0 p1 p2 p3 c0 c1 o0 o1 o2 v9 l9 hx hx1).mono fun e W' h => ⟨h.1, h.2.1.fr H, h.2.2.imp fun _ h => h.2⟩
end Go.Proofs.Ytegfnceepplooaa.TR
