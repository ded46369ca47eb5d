/- Trace: rule 5 walked: does what was read agree with some beginning of the history, not behind the node's floor? -/
import Derived.Test.YtegfnceepplooaaTThere
import Derived.Test.YtegfnceepplooaaTAg
set_option linter.unusedVariables false
set_option linter.unusedSimpArgs false
namespace Go.Proofs.Ytegfnceepplooaa.TR
open Go.RowKit Go.Maps Go.Proofs.Ytegfnceepplooaa.FMap Go.Proofs.Ytegfnceepplooaa.PTR Go.Proofs.YtegfnceepplooaaW.PrintWords Go.Proofs.YtegfnceepplooaaW.PrintLast

abbrev kE := k103
theorem agL_in (k : Nat) (l : List Rec) (op : Int) (lo hi : ByteArray) (x0 : Bool) (x1 : ByteArray) (x2 : List Ent) (fr : Int) : ∀ (d n : Nat) (r : Int × Bool), agreesL k l op lo hi x0 x1 x2 fr d n = some r → 0 ≤ r.1 ∧ r.1 ≤ (l.length : Int)
  | 0, n, r, h => by simp [agreesL] at h
  | d + 1, n, r, h => by
    simp only [agreesL] at h
    by_cases h1 : l.length < n
    · rw [if_pos h1] at h
      obtain rfl := Option.some.inj h
      exact ⟨by simp, by simp⟩
    · rw [if_neg h1] at h
      by_cases h2 : fr ≤ (n : Int)
      · rw [if_pos h2] at h
        obtain ⟨g, _, h⟩ := Option.bind_eq_some_iff.1 h
        obtain ⟨t, _, h⟩ := Option.bind_eq_some_iff.1 h
        by_cases h3 : t = true
        · rw [if_pos h3] at h
          obtain rfl := Option.some.inj h
          exact ⟨by show (0 : Int) ≤ n; omega, by show (n : Int) ≤ _; omega⟩
        · rw [if_neg h3] at h
          exact agL_in k l op lo hi x0 x1 x2 fr d (n + 1) r h
      · rw [if_neg h2] at h
        exact agL_in k l op lo hi x0 x1 x2 fr d (n + 1) r h
theorem ag_in {k : Nat} {h : List Rec} {op : Int} {lo hi : ByteArray} {x0 : Bool} {x1 : ByteArray} {x2 : List Ent} {fr : Int} {r : Int × Bool} (hk : fold_Agrees.f k h op lo hi x0 x1 x2 fr = some r) : 0 ≤ r.1 ∧ r.1 ≤ (h.length : Int) := by
  unfold fold_Agrees.f at hk
  by_cases h1 : op < 1
  · rw [if_pos h1] at hk
    obtain rfl := Option.some.inj hk
    exact ⟨by simp, by simp⟩
  · rw [if_neg h1] at hk
    by_cases h2 : 4 < op
    · rw [if_pos h2] at hk
      obtain rfl := Option.some.inj hk
      exact ⟨by simp, by simp⟩
    · rw [if_neg h2] at hk
      obtain ⟨l, hl, hk⟩ := Option.bind_eq_some_iff.1 hk
      by_cases h3 : smallR l = true
      · rw [if_pos h3] at hk
        have := agL_in _ _ _ _ _ _ _ _ _ _ _ _ hk
        unfold fold_History.f at hl
        by_cases h4 : h.length ≤ 1099511627776
        · rw [if_pos h4] at hl
          obtain rfl := Option.some.inj hl
          have := histV_len h
          omega
        · rw [if_neg h4] at hl
          cases hl
      · rw [if_neg h3] at hk
        cases hk
theorem agrees_f {w0 W : World} {Ah : Option Addr} {ch : Nat} {h : List Rec} (hC : Kd.C kR W Ah h.length h) (hc : h.length ≤ ch) (hl : h.length ≤ 1099511627775) (o0 : Int) (o1 o2 : ByteArray) (a3 : Bool) (a4 : ByteArray) (a5 : List Ent) (Ae : Option Addr) (ce : Nat) (hE : Kd.C kE W Ae a5.length a5) (hce : a5.length ≤ ce) (fl : Int) :
    Calls Try.prog 34 #[.slice Ah h.length ch, .agg #[.int .i64 o0, .string o1, .string o2], .agg #[.bool a3, .string a4, .slice Ae a5.length ce], .int .i64 fl] W fun e W' => e = .returned (.tuple #[.int .i64 (agR h ⟨o0, o1, o2⟩ ⟨a3, a4, a5⟩ fl).1, .bool (agR h ⟨o0, o1, o2⟩ ⟨a3, a4, a5⟩ fl).2]) ∧ Below W.heap.size W W' := by
  obtain ⟨k, r, hk⟩ := FM.ag_total h o0 o1 o2 a3 a4 a5 fl hl
  have e : agR h ⟨o0, o1, o2⟩ ⟨a3, a4, a5⟩ fl = r := agR_of (op := ⟨o0, o1, o2⟩) (r := ⟨a3, a4, a5⟩) hk
  rw [e]
  exact fold_Agrees.calls k Ah ch h o0 o1 o2 a3 a4 Ae ce a5 fl r.1 r.2 W hC hc hE hce hk
theorem agR_wf {h : List Rec} (hl : h.length ≤ 1099511627775) (o0 : Int) (o1 o2 : ByteArray) (a3 : Bool) (a4 : ByteArray) (a5 : List Ent) (fl : Int) : (Lit.int .i64 (agR h ⟨o0, o1, o2⟩ ⟨a3, a4, a5⟩ fl).1).wf = true := by
  obtain ⟨k, r, hk⟩ := FM.ag_total h o0 o1 o2 a3 a4 a5 fl hl
  have e : agR h ⟨o0, o1, o2⟩ ⟨a3, a4, a5⟩ fl = r := agR_of (op := ⟨o0, o1, o2⟩) (r := ⟨a3, a4, a5⟩) hk
  rw [e]
  have := ag_in hk
  exact WalkArith.wf_i64 (by omega)

theorem WAt.raise {w0 W : World} {bw n : Nat} {st : St} {h : List Rec} {bc bd bf : Nat} {vo : Value} {Ab : Option Addr} {cb : Nat} {Ah : Option Addr} {ch : Nat} (H : WAt w0 W bw n st h bc bd bf vo Ab cb Ah ch) {n' : Nat} (hn : n ≤ n') : WAt w0 W bw n' st h bc bd bf vo Ab cb Ah ch :=
  { H with calls := H.calls.mono hn, codes := H.codes.mono hn, floors := H.floors.mono hn }
/-- A floor has been written. -/
theorem WAt.floored {w0 W W' : World} {bw n : Nat} {st : St} {h : List Rec} {bc bd bf : Nat} {vo : Value} {Ab : Option Addr} {cb : Nat} {Ah : Option Addr} {ch : Nat} (H : WAt w0 W bw n st h bc bd bf vo Ab cb Ah ch) {x y : Int}
    (hm : MapI RI enI W' bf (n + 1) (upd st.floors x y)) (hg : W.grownBy W' (some bf)) : WAt w0 W' bw (n + 1) { st with floors := upd st.floors x y } h bc bd bf vo Ab cb Ah ch := by
  obtain ⟨es, clock, hb⟩ := H.floors.is_map
  exact {
    below := H.below.grown hg H.below.size (fun k hk => by cases hk; exact H.hbf)
    block := block_map H.block hg hb
    calls := (H.calls.same (hg.block bc H.calls.lt (fun e => H.cf (Option.some.inj e)))).mono (by omega)
    codes := (H.codes.same (hg.block bd H.codes.lt (fun e => H.df (Option.some.inj e)))).mono (by omega)
    floors := hm
    order := order_map H.order hg hb
    before := H.before
    at_h := H.at_h
    hbw := H.hbw
    hbc := H.hbc
    hbd := H.hbd
    hbf := H.hbf
    cd := H.cd
    cf := H.cf
    df := H.df }

/-- What agrees leaves behind. -/
def agSt (st : St) (ask rok : Bool) (a1 rn : Int) : St := match ask, rok with
  | true, true => { st with floors := upd st.floors a1 rn }
  | _, _ => st
theorem agSt_no (st : St) (rok : Bool) (a1 rn : Int) : agSt st false rok a1 rn = st := by cases rok <;> rfl
theorem agSt_fell (st : St) (a1 rn : Int) : agSt st true false a1 rn = st := rfl
theorem agSt_ok (st : St) (a1 rn : Int) : agSt st true true a1 rn = { st with floors := upd st.floors a1 rn } := rfl

set_option maxHeartbeats 8000000 in
set_option maxRecDepth 100000 in
theorem agrees_any {w0 W : World} {bw n : Nat} {st : St} {h : List Rec} {bc bd bf : Nat} {vo : Value} {Ab : Option Addr} {cb : Nat} {Ah : Option Addr} {ch : Nat} (H : WAt w0 W bw n st h bc bd bf vo Ab cb Ah ch) (hn : n < maxLen) (hl : h.length ≤ 1099511627775)
    (a0 a1 a2 : Int) (a3 : Bool) (a4 : ByteArray) (a5 : List Ent) (Ae : Option Addr) (ce : Nat) (hx : (Lit.int .i64 a0).wf = true) (hx1 : (Lit.int .i64 a1).wf = true) (hE : Kd.C kE W Ae a5.length a5) (hce : a5.length ≤ ce) (f0 f1 o0 : Int) (o1 o2 : ByteArray) (hcall : st.calls a0 = some ⟨f0, f1, ⟨o0, o1, o2⟩⟩) (ask rok : Bool) (rn : Int)
    (hask : asksV ⟨a0, a1, a2, ⟨a3, a4, a5⟩⟩ ⟨o0, o1, o2⟩ = ask) (hag : agR h ⟨o0, o1, o2⟩ ⟨a3, a4, a5⟩ ((st.floors a1).getD 0) = (rn, rok)) :
    Calls Try.prog 24 #[.pointer (some ⟨bw, 0, none⟩), .agg #[.int .i64 a0, .int .i64 a1, .int .i64 a2, .bool a3, .string a4, .slice Ae a5.length ce]] W fun e W' => e = .returned (.bool (!ask || rok)) ∧ Fr W W' ∧ WAt w0 W' bw (n + 1) (agSt st ask rok a1 rn) h bc bd bf vo Ab cb Ah ch := by
  obtain ⟨W1, hW1⟩ : ∃ W1, W1 = W.alloc (.cells #[.int .i64 a0, .int .i64 a1, .int .i64 a2, .bool a3, .string a4, .slice Ae a5.length ce] 45) := ⟨_, rfl⟩
  have hB : Below W.heap.size W W1 := by rw [hW1]; exact (Below.refl _ W).alloc (Nat.le_refl _) _
  have H1 := H.stay hB
  have hs : W1.heap.size = W.heap.size + 1 := by rw [hW1]; simp
  have x0 : W1.cell? ⟨W.heap.size, 0, none⟩ = some (.int .i64 a0) := by rw [hW1]; simp
  have x1 : W1.cell? ⟨W.heap.size, 1, none⟩ = some (.int .i64 a1) := by rw [hW1]; simp
  have x2 : W1.cell? ⟨W.heap.size, 2, none⟩ = some (.int .i64 a2) := by rw [hW1]; simp
  have x3 : W1.cell? ⟨W.heap.size, 3, none⟩ = some (.bool a3) := by rw [hW1]; simp
  have x4 : W1.cell? ⟨W.heap.size, 4, none⟩ = some (.string a4) := by rw [hW1]; simp
  have x5 : W1.cell? ⟨W.heap.size, 5, none⟩ = some (.slice Ae a5.length ce) := by
    rw [hW1]
    exact (blk_cell (blk_new W (.cells #[.int .i64 a0, .int .i64 a1, .int .i64 a2, .bool a3, .string a4, .slice Ae a5.length ce] 45)) 5).trans rfl
  have c0' : W1.cell? ⟨bw, 0, none⟩ = some (.map (some bc)) := (blk_cell H1.block 0).trans rfl
  have hbw : bw < W1.heap.size := blk_lt H1.block
  have hbne : bw ≠ W1.heap.size := Nat.ne_of_lt hbw
  have hl0 : (Instr.lookup 60 (.map (some bc)) (.int .i64 a0) false).run Try.prog W1.drew = .ok (.agg #[.int .i64 f0, .int .i64 f1, .int .i64 o0, .string o1, .string o2]) W1.drew := by
    have := lookC (W := W1.drew) (H1.calls.same rfl) hx
    rw [hcall] at this
    exact this
  have hl1 : (Instr.lookup 60 (.map (some bc)) (.int .i64 a0) false).run Try.prog (W1.alloc (.cells #[.int .i64 0, .string ⟨#[]⟩, .string ⟨#[]⟩] 31)).drew = .ok (.agg #[.int .i64 f0, .int .i64 f1, .int .i64 o0, .string o1, .string o2]) (W1.alloc (.cells #[.int .i64 0, .string ⟨#[]⟩, .string ⟨#[]⟩] 31)).drew := by
    have := lookC (W := (W1.alloc (.cells #[.int .i64 0, .string ⟨#[]⟩, .string ⟨#[]⟩] 31)).drew) (H1.calls.same (Below.heap_alloc _ _ _ H1.calls.lt)) hx
    rw [hcall] at this
    exact this
  have hfd : ∀ w : World, (Instr.field 33 (.agg #[.int .i64 f0, .int .i64 f1, .int .i64 o0, .string o1, .string o2]) 2).run Try.prog w = .ok (.agg #[.int .i64 o0, .string o1, .string o2]) w := fun w => by as_aux_lemma => kernel_rfl
  have z0 : (W1.alloc (.cells #[.int .i64 0, .string ⟨#[]⟩, .string ⟨#[]⟩] 31)).cell? ⟨bw, 0, none⟩ = some (.map (some bc)) := (((Below.refl W1.heap.size W1).alloc (Nat.le_refl _) _).cell (p := ⟨bw, 0, none⟩) hbw).trans c0'
  have z1 : (W1.alloc (.cells #[.int .i64 0, .string ⟨#[]⟩, .string ⟨#[]⟩] 31)).cell? ⟨W.heap.size, 0, none⟩ = some (.int .i64 a0) := (((Below.refl W1.heap.size W1).alloc (Nat.le_refl _) _).cell (p := ⟨W.heap.size, 0, none⟩) (by show W.heap.size < _; omega)).trans x0
  have cW := fun W => write_any o0 o1 o2 W
  have HA : Aside0 (asksV ⟨a0, a1, a2, ⟨a3, a4, a5⟩⟩ ⟨o0, o1, o2⟩ = ((a2 == 1) && !writeV ⟨o0, o1, o2⟩)) := ⟨rfl⟩
  rw [hask] at HA
  generalize writeV ⟨o0, o1, o2⟩ = wv at cW HA
  have HX : Aside0 (∀ w', Below W1.heap.size W1 w' → w'.cell? ⟨W.heap.size, 1, none⟩ = some (.int .i64 a1) ∧ w'.cell? ⟨W.heap.size, 2, none⟩ = some (.int .i64 a2) ∧ w'.cell? ⟨W.heap.size, 3, none⟩ = some (.bool a3) ∧ w'.cell? ⟨W.heap.size, 4, none⟩ = some (.string a4) ∧ w'.cell? ⟨W.heap.size, 5, none⟩ = some (.slice Ae a5.length ce)) := ⟨fun w' hw => ⟨(hw.cell (p := ⟨W.heap.size, 1, none⟩) (World.block_lt_of_cell? W1 _ x1)).trans x1, (hw.cell (p := ⟨W.heap.size, 2, none⟩) (World.block_lt_of_cell? W1 _ x2)).trans x2, (hw.cell (p := ⟨W.heap.size, 3, none⟩) (World.block_lt_of_cell? W1 _ x3)).trans x3, (hw.cell (p := ⟨W.heap.size, 4, none⟩) (World.block_lt_of_cell? W1 _ x4)).trans x4, (hw.cell (p := ⟨W.heap.size, 5, none⟩) (World.block_lt_of_cell? W1 _ x5)).trans x5⟩⟩
  have HEn := Aside0.mk hE
  have HCE := Aside0.mk hce
  have HFR := Aside0.mk (Fr.of_below hB)
  have HBB := Aside0.mk hB
  have HH := Aside0.mk H1
  have HN := Aside0.mk hn
  have HL := Aside0.mk hl
  have HX1 := Aside0.mk hx1
  have HAG := Aside0.mk hag
  clear H H1 hB hs hcall x1 x2 x3 x4 x5 hE hce hn hl hx1 hx hag hask
  go_enter Try.func24, Try.ntmps24
  go_wp2
  rw [← hW1]
  have HWE := Aside0.mk hW1
  clear hW1
  go_region
  all_goals
    obtain ⟨W2, hW2⟩ : ∃ W2, W2 = (W1.alloc (.cells #[.int .i64 o0, .string o1, .string o2] 31)).drew := ⟨_, rfl⟩
    rw [← hW2]
    have hB2 : Below W1.heap.size W1 W2 := by rw [hW2]; exact below_drew ((Below.refl _ W1).alloc (Nat.le_refl _) _)
    have y0 : W2.cell? ⟨W1.heap.size, 0, none⟩ = some (.int .i64 o0) := by rw [hW2]; simp
    have y1 : W2.cell? ⟨W1.heap.size, 1, none⟩ = some (.string o1) := by rw [hW2]; simp
    have y2 : W2.cell? ⟨W1.heap.size, 2, none⟩ = some (.string o2) := by rw [hW2]; simp
    obtain ⟨_, q2, _, _, _⟩ := HX.out W2 hB2
    have HB2 := Aside0.mk hB2
    clear hW2 hB2 x0 c0' z0 z1 hl0 hl1 hfd hbw hbne
    cases h1 : (a2 == 1)
    · have h1n : (a2 != 1) = true := by unfold bne; rw [h1]; rfl
      have HK : Aside0 (ask = false) := ⟨by rw [HA.out, h1]; rfl⟩
      clear HA
      go_wp2
      go_ret
      exact ⟨by rw [HK.out]; rfl, HFR.out.trans (Fr.of_below HB2.out), by rw [HK.out, agSt_no]; exact (HH.out.stay HB2.out).raise (Nat.le_succ _)⟩
    · have h1n : (a2 != 1) = false := by unfold bne; rw [h1]; rfl
      cases wv
      · have HK : Aside0 (ask = true) := ⟨by rw [HA.out, h1]; rfl⟩
        clear HA
        go_wp2_with fail
        refine (cW _).mono ?_
        rintro e w3 ⟨rfl, hb⟩
        have HB3 := Aside0.mk (HB2.out.trans (hb.mono HB2.out.size))
        have H3 := HH.out.stay HB3.out
        obtain ⟨q1, q2, q3, q4, q5⟩ := HX.out w3 HB3.out
        have r0 := (hb.cell (p := ⟨W1.heap.size, 0, none⟩) (World.block_lt_of_cell? W2 _ y0)).trans y0
        have r1 := (hb.cell (p := ⟨W1.heap.size, 1, none⟩) (World.block_lt_of_cell? W2 _ y1)).trans y1
        have r2 := (hb.cell (p := ⟨W1.heap.size, 2, none⟩) (World.block_lt_of_cell? W2 _ y2)).trans y2
        have c5 : w3.cell? ⟨bw, 5, none⟩ = some (.slice Ah h.length ch) := (blk_cell H3.block 5).trans rfl
        have c3 : w3.cell? ⟨bw, 3, none⟩ = some (.map (some bf)) := (blk_cell H3.block 3).trans rfl
        have hlI : (Instr.lookup 61 (.map (some bf)) (.int .i64 a1) false).run Try.prog w3.drew = .ok (.int .i64 ((st.floors a1).getD 0)) w3.drew := lookI (W := w3.drew) (H3.floors.same rfl) HX1.out
        have CP : Aside0 (∀ w4, Below w3.heap.size w3 w4 → Calls Try.prog 34 #[.slice Ah h.length ch, .agg #[.int .i64 o0, .string o1, .string o2], .agg #[.bool a3, .string a4, .slice Ae a5.length ce], .int .i64 ((st.floors a1).getD 0)] w4 fun e W' => e = .returned (.tuple #[.int .i64 rn, .bool rok]) ∧ Below w4.heap.size w4 W') := ⟨fun w4 h4 => by
          have := agrees_f (w0 := w0) (Kd.C_below (Kd.C_below H3.at_h.1 H3.below) h4) H3.at_h.2 HL.out o0 o1 o2 a3 a4 a5 Ae ce (Kd.C_below (Kd.C_below (Kd.C_below HEn.out HBB.out) HB3.out) h4) HCE.out ((st.floors a1).getD 0)
          rw [HAG.out] at this
          exact this⟩
        have HRN : Aside0 ((Lit.int .i64 rn).wf = true) := ⟨by
          have := agR_wf HL.out o0 o1 o2 a3 a4 a5 ((st.floors a1).getD 0)
          rw [HAG.out] at this
          exact this⟩
        have HH3 := Aside0.mk H3
        clear hb H3 HB2 y0 y1 y2 q2
        generalize hfl : (st.floors a1).getD 0 = fl at hlI CP
        clear hfl
        have SX : Aside0 (∀ w', Below w3.heap.size w3 w' → w'.cell? ⟨bw, 5, none⟩ = some (.slice Ah h.length ch) ∧ w'.cell? ⟨W1.heap.size, 0, none⟩ = some (.int .i64 o0) ∧ w'.cell? ⟨W1.heap.size, 1, none⟩ = some (.string o1) ∧ w'.cell? ⟨W1.heap.size, 2, none⟩ = some (.string o2) ∧ w'.cell? ⟨W.heap.size, 3, none⟩ = some (.bool a3) ∧ w'.cell? ⟨W.heap.size, 4, none⟩ = some (.string a4) ∧ w'.cell? ⟨W.heap.size, 5, none⟩ = some (.slice Ae a5.length ce) ∧ w'.cell? ⟨bw, 3, none⟩ = some (.map (some bf)) ∧ w'.cell? ⟨W.heap.size, 1, none⟩ = some (.int .i64 a1)) := ⟨fun w' hw => ⟨(hw.cell (p := ⟨bw, 5, none⟩) (World.block_lt_of_cell? w3 _ c5)).trans c5, (hw.cell (p := ⟨W1.heap.size, 0, none⟩) (World.block_lt_of_cell? w3 _ r0)).trans r0, (hw.cell (p := ⟨W1.heap.size, 1, none⟩) (World.block_lt_of_cell? w3 _ r1)).trans r1, (hw.cell (p := ⟨W1.heap.size, 2, none⟩) (World.block_lt_of_cell? w3 _ r2)).trans r2, (hw.cell (p := ⟨W.heap.size, 3, none⟩) (World.block_lt_of_cell? w3 _ q3)).trans q3, (hw.cell (p := ⟨W.heap.size, 4, none⟩) (World.block_lt_of_cell? w3 _ q4)).trans q4, (hw.cell (p := ⟨W.heap.size, 5, none⟩) (World.block_lt_of_cell? w3 _ q5)).trans q5, (hw.cell (p := ⟨bw, 3, none⟩) (World.block_lt_of_cell? w3 _ c3)).trans c3, (hw.cell (p := ⟨W.heap.size, 1, none⟩) (World.block_lt_of_cell? w3 _ q1)).trans q1⟩⟩
        clear r0 r1 r2 q1 q3 q4 q5 c3 c5
        go_wp2
        go_region_held3 (fun w' => w'.cell? ⟨bw, 5, none⟩ = some (.slice Ah h.length ch) ∧ w'.cell? ⟨W1.heap.size, 0, none⟩ = some (.int .i64 o0) ∧ w'.cell? ⟨W1.heap.size, 1, none⟩ = some (.string o1) ∧ w'.cell? ⟨W1.heap.size, 2, none⟩ = some (.string o2) ∧ w'.cell? ⟨W.heap.size, 3, none⟩ = some (.bool a3) ∧ w'.cell? ⟨W.heap.size, 4, none⟩ = some (.string a4) ∧ w'.cell? ⟨W.heap.size, 5, none⟩ = some (.slice Ae a5.length ce) ∧ w'.cell? ⟨bw, 3, none⟩ = some (.map (some bf)) ∧ w'.cell? ⟨W.heap.size, 1, none⟩ = some (.int .i64 a1)) (first | exact SX.out _ HWN.out | exact SX.out _ (below_drew (Below.refl _ _)) | exact SX.out _ (Below.refl _ _)) (first | (go_at_call 34; refine (CP.out _ (below_drew (Below.refl _ _))).mono ?_; rintro e w' ⟨rfl, hb⟩; have HWN : Aside0 (Below w3.heap.size w3 w') := ⟨(below_drew (Below.refl _ _)).trans (hb.mono (Nat.le_refl _))⟩; clear hb))
        have HB4 := Aside0.mk (HB3.out.trans (HWN.out.mono HB3.out.size))
        have H4 := HH3.out.stay HWN.out
        obtain ⟨_, _, _, _, _, _, _, c3, x1⟩ := SX.out w' HWN.out
        cases rok
        · clear c3 x1 hlI
          go_wp2
          go_ret
          exact ⟨by rw [HK.out]; rfl, HFR.out.trans (Fr.of_below HB4.out), by rw [HK.out, agSt_fell]; exact H4.raise (Nat.le_succ _)⟩
        · obtain ⟨w5, hup, hm, hg⟩ := storeI (W := w'.drew) (H4.floors.same rfl) HN.out HX1.out HRN.out
          have HU := Aside0.mk (And.intro hm hg)
          have HH4 := Aside0.mk H4
          clear hm hg H4 hlI
          go_wp2
          go_still_tail 7, (by kernel_rfl)
          have HB5 := HFR.out.trans (Fr.of_below HB4.out)
          go_wp2
          go_ret
          have HD := HH4.out.stay (W' := w'.drew) (Below.refl _ w').drew
          obtain ⟨es, clock, hb⟩ := HD.floors.is_map
          exact ⟨by rw [HK.out]; rfl, (HB5.trans (Fr.of_below (W' := w'.drew) (Below.refl _ w').drew)).trans (Fr.of_map HU.out.2 hb), by rw [HK.out, agSt_ok]; exact HD.floored HU.out.1 HU.out.2⟩
      · have HK : Aside0 (ask = false) := ⟨by rw [HA.out, h1]; rfl⟩
        clear HA
        go_wp2_with fail
        refine (cW _).mono ?_
        rintro e w3 ⟨rfl, hb⟩
        have HB3 := Aside0.mk (HB2.out.trans (hb.mono HB2.out.size))
        clear hb
        go_wp2
        go_ret
        exact ⟨by rw [HK.out]; rfl, HFR.out.trans (Fr.of_below HB3.out), by rw [HK.out, agSt_no]; exact (HH.out.stay HB3.out).raise (Nat.le_succ _)⟩
end Go.Proofs.Ytegfnceepplooaa.TR
