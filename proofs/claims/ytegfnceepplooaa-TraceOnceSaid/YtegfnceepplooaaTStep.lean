/- Trace: a step walked: its choice, its answers by the four rules, its history. -/
import Derived.Test.YtegfnceepplooaaTAns
import Derived.Laws.EntriesVeiled
set_option linter.unusedVariables false
set_option linter.unusedSimpArgs false
namespace Go.Proofs.Ytegfnceepplooaa.TR
open Go.RowKit Go.Maps Go.Proofs.Ytegfnceepplooaa.FMap Go.Proofs.Ytegfnceepplooaa.PTR Go.Proofs.YtegfnceepplooaaW.PrintWords Go.Proofs.YtegfnceepplooaaW.PrintLast

abbrev FK := 22
abbrev FT := 23
abbrev FA := 24
abbrev FE := 25
/-- The four rules, as they lie in memory. -/
abbrev rulesB (bw : Nat) : Array Value := #[.int .i64 2, .func (.func 22) #[.pointer (some ⟨bw, 0, none⟩)] #[], .int .i64 3, .func (.func 23) #[.pointer (some ⟨bw, 0, none⟩)] #[], .int .i64 5, .func (.func 24) #[.pointer (some ⟨bw, 0, none⟩)] #[], .int .i64 6, .func (.func 25) #[.pointer (some ⟨bw, 0, none⟩)] #[]]

set_option maxHeartbeats 16000000 in
set_option maxRecDepth 100000 in
theorem step_any {w0 W : World} {bw n : Nat} {st : St} {h : List Rec} {bc bd bf : Nat} {vo : Value} {Ab : Option Addr} {cb : Nat} {Ah : Option Addr} {ch : Nat} (H : WAt w0 W bw n st h bc bd bf vo Ab cb Ah ch)
    (p0 p1 p2 p3 c0 c1 o0 : Int) (o1 o2 : ByteArray) (l9 : List Int) (la : List Ans) (hh : List Rec) (v9 : Value) (A10 : Option Addr) (k10 : Nat) (A11 : Option Addr) (k11 : Nat)
    (hx : (Lit.int .i64 c0).wf = true) (hx1 : (Lit.int .i64 p1).wf = true) (hA : ∀ a ∈ la, okA a) (hR : ∀ r ∈ hh, (Lit.int .i64 r.f5).wf = true)
    (g10 : Kd.C k45 w0 A10 la.length la ∧ la.length ≤ k10) (g11 : Kd.C kR w0 A11 hh.length hh ∧ hh.length ≤ k11)
    (hn : n + 1 + 2 * la.length < maxLen) (hlen : st.order.length < 1099511627776) (hla : la.length ≤ 1099511627776) (hl : hh.length ≤ 1099511627775) (hlb : st.before.length ≤ 1099511627775) :
    Calls Try.prog 17 #[.pointer (some ⟨bw, 0, none⟩), .agg #[.int .i64 p0, .int .i64 p1, .int .i64 p2, .int .i64 p3, .int .i64 c0, .int .i64 c1, .int .i64 o0, .string o1, .string o2, v9, .slice A10 la.length k10, .slice A11 hh.length k11]] W fun e W' =>
      e = .returned (.int .i64 (stepV st ⟨⟨p0, p1, p2, p3, ⟨c0, c1, ⟨o0, o1, o2⟩⟩, l9⟩, la, hh⟩).1) ∧ Fr W W' ∧ Below w0.heap.size w0 W' ∧ ((stepV st ⟨⟨p0, p1, p2, p3, ⟨c0, c1, ⟨o0, o1, o2⟩⟩, l9⟩, la, hh⟩).1 = 0 → ∃ vo', WAt w0 W' bw (n + 1 + 2 * la.length) (stepV st ⟨⟨p0, p1, p2, p3, ⟨c0, c1, ⟨o0, o1, o2⟩⟩, l9⟩, la, hh⟩).2 hh bc bd bf vo' A11 k11 A11 k11) := by
  have HSF : Aside0 (∀ r, answersV hh (choiceV st ⟨p0, p1, p2, p3, ⟨c0, c1, ⟨o0, o1, o2⟩⟩, l9⟩) la = r → r.1 ≠ 0 → stepV st ⟨⟨p0, p1, p2, p3, ⟨c0, c1, ⟨o0, o1, o2⟩⟩, l9⟩, la, hh⟩ = r) := ⟨fun r h1 h2 => step_fell h1 h2⟩
  have HSP : Aside0 (∀ st', answersV hh (choiceV st ⟨p0, p1, p2, p3, ⟨c0, c1, ⟨o0, o1, o2⟩⟩, l9⟩) la = (0, st') → stepV st ⟨⟨p0, p1, p2, p3, ⟨c0, c1, ⟨o0, o1, o2⟩⟩, l9⟩, la, hh⟩ = if onceV (histV hh) = true ∧ extB (histV hh) (histV st'.before) = true then (if subV { st' with before := hh } hh = true then (0, { st' with before := hh }) else (4, { st' with before := hh })) else (1, st')) := ⟨fun st' h1 => step_past h1⟩
  have HBF := Aside0.mk (choice_before st ⟨p0, p1, p2, p3, ⟨c0, c1, ⟨o0, o1, o2⟩⟩, l9⟩)
  generalize stepV st ⟨⟨p0, p1, p2, p3, ⟨c0, c1, ⟨o0, o1, o2⟩⟩, l9⟩, la, hh⟩ = sv at HSF HSP ⊢
  obtain ⟨W1, hW1⟩ : ∃ W1, W1 = W.alloc (.cells #[.int .i64 p0, .int .i64 p1, .int .i64 p2, .int .i64 p3, .int .i64 c0, .int .i64 c1, .int .i64 o0, .string o1, .string o2, v9, .slice A10 la.length k10, .slice A11 hh.length k11] 40) := ⟨_, rfl⟩
  have hB : Below W.heap.size W W1 := by rw [hW1]; exact (Below.refl _ W).alloc (Nat.le_refl _) _
  have H1 := H.stay hB
  have bs : W1.heap[W.heap.size]? = some (.cells #[.int .i64 p0, .int .i64 p1, .int .i64 p2, .int .i64 p3, .int .i64 c0, .int .i64 c1, .int .i64 o0, .string o1, .string o2, v9, .slice A10 la.length k10, .slice A11 hh.length k11] 40 (0, 0)) := by rw [hW1]; exact blk_new _ _
  have cC := choice_any H1 (by omega) hlen p0 p1 p2 p3 c0 c1 o0 o1 o2 v9 l9 hx hx1
  have x0 := (blk_cell bs 0).trans rfl
  have x1 := (blk_cell bs 1).trans rfl
  have x2 := (blk_cell bs 2).trans rfl
  have x3 := (blk_cell bs 3).trans rfl
  have x4 := (blk_cell bs 4).trans rfl
  have x5 := (blk_cell bs 5).trans rfl
  have x6 := (blk_cell bs 6).trans rfl
  have x7 := (blk_cell bs 7).trans rfl
  have x8 := (blk_cell bs 8).trans rfl
  have x9 := (blk_cell bs 9).trans rfl
  have HF1 := Aside0.mk (Fr.of_below hB)
  have HBS := Aside0.mk bs
  have HA := Aside0.mk hA
  have HR := Aside0.mk hR
  have HG10 := Aside0.mk g10
  have HG11 := Aside0.mk g11
  have HN := Aside0.mk hn
  have HL := Aside0.mk hl
  have HLB := Aside0.mk hlb
  clear H H1 hB bs hA hR g10 g11 hn hl hlb hlen hx hx1
  generalize choiceV st ⟨p0, p1, p2, p3, ⟨c0, c1, ⟨o0, o1, o2⟩⟩, l9⟩ = st1 at cC HSF HSP HBF
  go_enter Try.func17, Try.ntmps17
  go_wp2_with fail
  rw [← hW1]
  refine cC.mono ?_
  rintro e w2 ⟨rfl, hF, vo2, H2⟩
  have bs2 := hF.blk HBS.out (by decide) (by decide)
  have HF2 := Aside0.mk (HF1.out.trans hF)
  have HH2 := Aside0.mk (H2.seen HG11.out)
  have s5 : w2.cell? ⟨bw, 5, none⟩ = some (.slice Ah h.length ch) := (blk_cell H2.block 5).trans rfl
  have f5 : w2.frozen? ⟨bw, 5, none⟩ = false := blk_frozen H2.block 5
  have y11 : w2.cell? ⟨W.heap.size, 11, none⟩ = some (.slice A11 hh.length k11) := (blk_cell bs2 11).trans rfl
  have HFS := Aside0.mk (Fr.of_set H2.block 5 (.slice A11 hh.length k11))
  have HBS2 := Aside0.mk (HFS.out.blk bs2 (by decide) (by decide))
  have z10 : (w2.setCell ⟨bw, 5, none⟩ (.slice A11 hh.length k11)).cell? ⟨W.heap.size, 10, none⟩ = some (.slice A10 la.length k10) := (blk_cell HBS2.out 10).trans rfl
  obtain ⟨w3, hw3⟩ : ∃ w3, w3 = w2.setCell ⟨bw, 5, none⟩ (.slice A11 hh.length k11) := ⟨_, rfl⟩
  have HF3 : Aside0 (Fr W w3) := ⟨by rw [hw3]; exact HF2.out.trans HFS.out⟩
  have HH3 : Aside0 (WAt w0 w3 bw (n + 1) st1 hh bc bd bf vo2 Ab cb A11 k11) := ⟨by rw [hw3]; exact HH2.out⟩
  have HBS3 : Aside0 (w3.heap[W.heap.size]? = some (.cells #[.int .i64 p0, .int .i64 p1, .int .i64 p2, .int .i64 p3, .int .i64 c0, .int .i64 c1, .int .i64 o0, .string o1, .string o2, v9, .slice A10 la.length k10, .slice A11 hh.length k11] 40 (0, 0))) := ⟨by rw [hw3]; exact HBS2.out⟩
  clear cC hF H2 bs2 HH2 HFS HBS2 HF2 x0 x1 x2 x3 x4 x5 x6 x7 x8 x9 HBS HF1 hW1
  go_wp2
  rw [← hw3]
  clear hw3 z10 s5 f5 y11
  go_loopw [21] (fun i wr => ∃ (j : Nat) (st' : St), j ≤ la.length ∧ i = .int .i64 j ∧ Aside0 (answersV hh st1 la = answersV hh st' (la.drop j)) ∧ Aside0 (st'.before = st1.before) ∧ Aside0 (WAt w0 wr bw (n + 1 + 2 * j) st' hh bc bd bf vo2 Ab cb A11 k11) ∧ Aside0 (Fr w3 wr)) (fun i _ => la.length - (intOf i).toNat)
  case atStart => exact ⟨0, st1, Nat.zero_le _, rfl, ⟨by rw [List.drop_zero]⟩, ⟨rfl⟩, HH3, ⟨Fr.refl _⟩⟩
  case round =>
    obtain ⟨j, st', hj, rfl, HE, HBE, HW, HFW⟩ := hrel
    obtain ⟨wo, hwo⟩ : ∃ wo, wo = wr := ⟨_, rfl⟩
    subst hwo
    by_cases hlt : j < la.length
    · obtain ⟨ad, A5, k5, hAd, g0, g1, g2, g3, g4, g5, gl, gE⟩ := at_T45 HG10.out.1 (j : Int) (by omega) (by omega)
      rw [Int.toNat_natCast] at g0 g1 g2 g3 g4 g5
      subst hAd
      have cv := fun p v (g : w0.cell? p = some v) => (HW.out.below.cell (p := p) (World.block_lt_of_cell? w0 _ g)).trans g
      replace g0 := cv _ _ g0
      replace g1 := cv _ _ g1
      replace g2 := cv _ _ g2
      replace g3 := cv _ _ g3
      replace g4 := cv _ _ g4
      replace g5 := cv _ _ g5
      have hxA := HA.out _ (rdA_mem hlt)
      have HEN : Aside0 (answersV hh st1 la = if (answerV st' hh (rd_T45 la (j : Int))).1 = 0 then answersV hh (answerV st' hh (rd_T45 la (j : Int))).2 (la.drop (j + 1)) else answerV st' hh (rd_T45 la (j : Int))) := ⟨HE.out.trans (answers_drop hh st' hlt)⟩
      clear cv HE
      generalize rd_T45 la (j : Int) = a at HEN g0 g1 g2 g3 g4 g5 gl gE hxA
      obtain ⟨a0, a1, a2, ⟨a3, a4, a5⟩⟩ := a
      simp only at g0 g1 g2 g3 g4 g5 gl gE
      have HXA := Aside0.mk hxA
      have HGE := Aside0.mk (And.intro gE gl)
      clear hxA gE gl
      obtain ⟨wb, hwb⟩ : ∃ wb, wb = (wo.alloc (.cells #[.int .i64 a0, .int .i64 a1, .int .i64 a2, .bool a3, .string a4, .slice A5 a5.length k5] 45)).alloc (.cells (rulesB bw) 69) := ⟨_, rfl⟩
      have hBw : Below wo.heap.size wo wb := by rw [hwb]; exact ((Below.refl _ wo).alloc (Nat.le_refl _) _).alloc (by simp) _
      have HBA : Aside0 (wb.heap[wo.heap.size]? = some (.cells #[.int .i64 a0, .int .i64 a1, .int .i64 a2, .bool a3, .string a4, .slice A5 a5.length k5] 45 (0, 0))) := ⟨by rw [hwb]; exact blk_alloc (blk_new _ _) _⟩
      have HBQ : Aside0 (wb.heap[wo.heap.size + 1]? = some (.cells (rulesB bw) 69 (0, 0))) := ⟨by
        rw [hwb]
        have := blk_new (wo.alloc (.cells #[.int .i64 a0, .int .i64 a1, .int .i64 a2, .bool a3, .string a4, .slice A5 a5.length k5] 45)) (.cells (rulesB bw) 69)
        rw [World.size_alloc] at this
        exact this⟩
      have HWb := Aside0.mk (HW.out.stay hBw)
      have HFb : Aside0 (Fr w3 wb) := ⟨HFW.out.trans (Fr.of_below hBw)⟩
      clear hBw HW HFW
      go_wp2
      rw [← hwb]
      clear hwb g0 g1 g2 g3 g4 g5
      have e22 : ∀ args w, (callFunc 22 args).run Try.prog w = .ok (.enter 22 args) w := enters_of Try.func22 (by kernel_rfl) rfl
      have e23 : ∀ args w, (callFunc 23 args).run Try.prog w = .ok (.enter 23 args) w := enters_of Try.func23 (by kernel_rfl) rfl
      have e24 : ∀ args w, (callFunc 24 args).run Try.prog w = .ok (.enter 24 args) w := enters_of Try.func24 (by kernel_rfl) rfl
      have e25 : ∀ args w, (callFunc 25 args).run Try.prog w = .ok (.enter 25 args) w := enters_of Try.func25 (by kernel_rfl) rfl
      cases hk : knownV st' ⟨a0, a1, a2, ⟨a3, a4, a5⟩⟩
      · have HRES : Aside0 (sv = (2, st')) := ⟨HSF.out _ (by rw [HEN.out, ans_unknown st' hh hk]; rfl) (by simp)⟩
        have CK : Aside0 (∀ W, Below wb.heap.size wb W → Calls Try.prog 22 #[.pointer (some ⟨bw, 0, none⟩), .agg #[.int .i64 a0, .int .i64 a1, .int .i64 a2, .bool a3, .string a4, .slice A5 a5.length k5]] W fun e W' => e = .returned (.bool false) ∧ Below W.heap.size W W') := ⟨fun W hW => by
          have := known_any (HWb.out.stay hW) a0 a1 a2 a3 a4 a5 A5 k5 HXA.out.1
          rwa [hk] at this⟩
        clear hk HEN
        go_loopw [39] (fun i wi => i = .int .i64 0 ∧ wi = wb) (fun _ _ => 0)
        case atStart => exact ⟨rfl, rfl⟩
        case round =>
          obtain ⟨rfl, hwi⟩ := hrel
          subst hwi
          have ba2 := blk_alloc HBA.out (.cells #[.int .i64 2, .func (.func 22) #[.pointer (some ⟨bw, 0, none⟩)] #[]] 69)
          have d0 : (wr.alloc (.cells #[.int .i64 2, .func (.func 22) #[.pointer (some ⟨bw, 0, none⟩)] #[]] 69)).cell? ⟨wo.heap.size, 0, none⟩ = some (.int .i64 a0) := (blk_cell ba2 0).trans rfl
          have d1 : (wr.alloc (.cells #[.int .i64 2, .func (.func 22) #[.pointer (some ⟨bw, 0, none⟩)] #[]] 69)).cell? ⟨wo.heap.size, 1, none⟩ = some (.int .i64 a1) := (blk_cell ba2 1).trans rfl
          have d2 : (wr.alloc (.cells #[.int .i64 2, .func (.func 22) #[.pointer (some ⟨bw, 0, none⟩)] #[]] 69)).cell? ⟨wo.heap.size, 2, none⟩ = some (.int .i64 a2) := (blk_cell ba2 2).trans rfl
          have d3 : (wr.alloc (.cells #[.int .i64 2, .func (.func 22) #[.pointer (some ⟨bw, 0, none⟩)] #[]] 69)).cell? ⟨wo.heap.size, 3, none⟩ = some (.bool a3) := (blk_cell ba2 3).trans rfl
          have d4 : (wr.alloc (.cells #[.int .i64 2, .func (.func 22) #[.pointer (some ⟨bw, 0, none⟩)] #[]] 69)).cell? ⟨wo.heap.size, 4, none⟩ = some (.string a4) := (blk_cell ba2 4).trans rfl
          have d5 : (wr.alloc (.cells #[.int .i64 2, .func (.func 22) #[.pointer (some ⟨bw, 0, none⟩)] #[]] 69)).cell? ⟨wo.heap.size, 5, none⟩ = some (.slice A5 a5.length k5) := (blk_cell ba2 5).trans rfl
          have q0 : wr.cell? ⟨wo.heap.size + 1, 0, none⟩ = some (.int .i64 2) := (blk_cell HBQ.out 0).trans rfl
          have q1 : wr.cell? ⟨wo.heap.size + 1, 1, none⟩ = some (.func (.func 22) #[.pointer (some ⟨bw, 0, none⟩)] #[]) := (blk_cell HBQ.out 1).trans rfl
          have hne := Nat.ne_of_lt (blk_lt HBA.out)
          clear ba2
          go_wp2_with (go_at_fn 22; refine (CK.out _ ((Below.refl _ _).alloc (Nat.le_refl _) _)).mono ?_; rintro e w5 ⟨rfl, hb⟩; have r0 : w5.cell? ⟨wr.heap.size, 0, none⟩ = some (.int .i64 2) := (hb.cell (p := ⟨wr.heap.size, 0, none⟩) (by simp)).trans (by simp); have HB5 := Aside0.mk (((Below.refl _ wr).alloc (Nat.le_refl _) _).trans (hb.mono (by simp))); clear hb)
          go_ret
          exact ⟨by rw [HRES.out]; rfl, (HF3.out.trans HFb.out).trans (Fr.of_below HB5.out), HWb.out.below.trans (HB5.out.mono HWb.out.below.size), fun h0 => by rw [HRES.out] at h0; exact absurd h0 (by simp)⟩
      · obtain ⟨⟨f0, f1, ⟨m0, m1, m2⟩⟩, hcall⟩ := known_call hk
        obtain ⟨⟨rn, rok⟩, hag⟩ : ∃ r, agR hh ⟨m0, m1, m2⟩ ⟨a3, a4, a5⟩ ((st'.floors a1).getD 0) = r := ⟨_, rfl⟩
        obtain ⟨ask, hask⟩ : ∃ x, asksV ⟨a0, a1, a2, ⟨a3, a4, a5⟩⟩ ⟨m0, m1, m2⟩ = x := ⟨_, rfl⟩
        obtain ⟨tv, htv⟩ : ∃ x, thereV hh ⟨a0, a1, a2, ⟨a3, a4, a5⟩⟩ ⟨m0, m1, m2⟩ = x := ⟨_, rfl⟩
        obtain ⟨ev, hev⟩ : ∃ x, emptyV ⟨a0, a1, a2, ⟨a3, a4, a5⟩⟩ ⟨m0, m1, m2⟩ = x := ⟨_, rfl⟩
        have R3 : Aside0 (tv = false → sv = (3, st')) := ⟨fun h1 => HSF.out _ (by rw [HEN.out, ans_nothere hcall hk (htv.trans h1)]; rfl) (by simp)⟩
        have R5 : Aside0 (tv = true → (!ask || rok) = false → sv = (5, st')) := ⟨fun h1 h2 => HSF.out _ (by rw [HEN.out, ans_noagree hcall hk (htv.trans h1) hask hag h2]; rfl) (by simp)⟩
        have R6 : Aside0 (tv = true → ev = false → sv = (6, st')) := ⟨fun h1 h2 => HSF.out _ (by rw [HEN.out, ans_noempty hcall hk (htv.trans h1) (hev.trans h2)]; rfl) (by simp)⟩
        have RP : Aside0 (tv = true → (!ask || rok) = true → ev = true → answersV hh st1 la = answersV hh { agSt st' ask rok a1 rn with codes := upd (agSt st' ask rok a1 rn).codes a0 a2 } (la.drop (j + 1))) := ⟨fun h1 h2 h3 => by rw [HEN.out, ans_pass hcall hk (htv.trans h1) hask hag h2 (hev.trans h3)]; rfl⟩
        have CK : Aside0 (∀ W, Below wb.heap.size wb W → Calls Try.prog 22 #[.pointer (some ⟨bw, 0, none⟩), .agg #[.int .i64 a0, .int .i64 a1, .int .i64 a2, .bool a3, .string a4, .slice A5 a5.length k5]] W fun e W' => e = .returned (.bool true) ∧ Below W.heap.size W W') := ⟨fun W hW => by
          have := known_any (HWb.out.stay hW) a0 a1 a2 a3 a4 a5 A5 k5 HXA.out.1
          rwa [hk] at this⟩
        have CT : Aside0 (∀ W, WAt w0 W bw (n + 1 + 2 * j) st' hh bc bd bf vo2 Ab cb A11 k11 → Calls Try.prog 23 #[.pointer (some ⟨bw, 0, none⟩), .agg #[.int .i64 a0, .int .i64 a1, .int .i64 a2, .bool a3, .string a4, .slice A5 a5.length k5]] W fun e W' => e = .returned (.bool tv) ∧ Below W.heap.size W W') := ⟨fun W hW => by
          have := there_any hW (Nat.le_succ_of_le HL.out) a0 a1 a2 a3 a4 a5 A5 k5 HXA.out.1 _ hcall
          rwa [htv] at this⟩
        have CA : Aside0 (∀ W, WAt w0 W bw (n + 1 + 2 * j) st' hh bc bd bf vo2 Ab cb A11 k11 → Calls Try.prog 24 #[.pointer (some ⟨bw, 0, none⟩), .agg #[.int .i64 a0, .int .i64 a1, .int .i64 a2, .bool a3, .string a4, .slice A5 a5.length k5]] W fun e W' => e = .returned (.bool (!ask || rok)) ∧ Fr W W' ∧ WAt w0 W' bw (n + 1 + 2 * j + 1) (agSt st' ask rok a1 rn) hh bc bd bf vo2 Ab cb A11 k11) := ⟨fun W hW =>
          agrees_any hW (by have := HN.out; omega) HL.out a0 a1 a2 a3 a4 a5 A5 k5 HXA.out.1 HXA.out.2.1 (Kd.C_below HGE.out.1 hW.below) HGE.out.2 f0 f1 m0 m1 m2 hcall ask rok rn hask hag⟩
        have hcall2 : (agSt st' ask rok a1 rn).calls a0 = some ⟨f0, f1, ⟨m0, m1, m2⟩⟩ := by
          rw [show (agSt st' ask rok a1 rn).calls = st'.calls by cases ask <;> cases rok <;> rfl]
          exact hcall
        have CE : Aside0 (∀ W, WAt w0 W bw (n + 1 + 2 * j + 1) (agSt st' ask rok a1 rn) hh bc bd bf vo2 Ab cb A11 k11 → Calls Try.prog 25 #[.pointer (some ⟨bw, 0, none⟩), .agg #[.int .i64 a0, .int .i64 a1, .int .i64 a2, .bool a3, .string a4, .slice A5 a5.length k5]] W fun e W' => e = .returned (.bool ev) ∧ Below W.heap.size W W') := ⟨fun W hW => by
          have := empty_any hW a0 a1 a2 a3 a4 a5 A5 k5 HXA.out.1 _ hcall2
          rwa [hev] at this⟩
        clear hk HEN hcall hcall2 hag hask htv hev
        go_loopw [39] (fun i wi => ∃ q : Int, (q = 0 ∨ q = 1 ∨ q = 2 ∨ q = 3 ∨ q = 4) ∧ i = .int .i64 q ∧ Aside0 (Fr wb wi) ∧ Aside0 ((q ≤ 2 → WAt w0 wi bw (n + 1 + 2 * j) st' hh bc bd bf vo2 Ab cb A11 k11) ∧ (2 < q → WAt w0 wi bw (n + 1 + 2 * j + 1) (agSt st' ask rok a1 rn) hh bc bd bf vo2 Ab cb A11 k11)) ∧ Aside0 ((q = 0 → Below wb.heap.size wb wi) ∧ (2 ≤ q → tv = true) ∧ (3 ≤ q → (!ask || rok) = true) ∧ (4 ≤ q → ev = true))) (fun i _ => 4 - (intOf i).toNat)
        case atStart => exact ⟨0, Or.inl rfl, rfl, ⟨Fr.refl _⟩, ⟨fun _ => HWb.out, fun h => absurd h (by decide)⟩, ⟨fun _ => Below.refl _ _, fun h => absurd h (by decide), fun h => absurd h (by decide), fun h => absurd h (by decide)⟩⟩
        case round =>
          obtain ⟨q, hq, rfl, HFi, HWi, HQ⟩ := hrel
          have hba := HFi.out.blk HBA.out (by decide) (by decide)
          have hbq := HFi.out.blk HBQ.out (by decide) (by decide)
          rcases hq with rfl | rfl | rfl | rfl | rfl
          · -- rule 2
            have ba2 := blk_alloc hba (.cells #[.int .i64 2, .func (.func 22) #[.pointer (some ⟨bw, 0, none⟩)] #[]] 69)
            have d0 : (wr.alloc (.cells #[.int .i64 2, .func (.func 22) #[.pointer (some ⟨bw, 0, none⟩)] #[]] 69)).cell? ⟨wo.heap.size, 0, none⟩ = some (.int .i64 a0) := (blk_cell ba2 0).trans rfl
            have d1 : (wr.alloc (.cells #[.int .i64 2, .func (.func 22) #[.pointer (some ⟨bw, 0, none⟩)] #[]] 69)).cell? ⟨wo.heap.size, 1, none⟩ = some (.int .i64 a1) := (blk_cell ba2 1).trans rfl
            have d2 : (wr.alloc (.cells #[.int .i64 2, .func (.func 22) #[.pointer (some ⟨bw, 0, none⟩)] #[]] 69)).cell? ⟨wo.heap.size, 2, none⟩ = some (.int .i64 a2) := (blk_cell ba2 2).trans rfl
            have d3 : (wr.alloc (.cells #[.int .i64 2, .func (.func 22) #[.pointer (some ⟨bw, 0, none⟩)] #[]] 69)).cell? ⟨wo.heap.size, 3, none⟩ = some (.bool a3) := (blk_cell ba2 3).trans rfl
            have d4 : (wr.alloc (.cells #[.int .i64 2, .func (.func 22) #[.pointer (some ⟨bw, 0, none⟩)] #[]] 69)).cell? ⟨wo.heap.size, 4, none⟩ = some (.string a4) := (blk_cell ba2 4).trans rfl
            have d5 : (wr.alloc (.cells #[.int .i64 2, .func (.func 22) #[.pointer (some ⟨bw, 0, none⟩)] #[]] 69)).cell? ⟨wo.heap.size, 5, none⟩ = some (.slice A5 a5.length k5) := (blk_cell ba2 5).trans rfl
            have q0 : wr.cell? ⟨wo.heap.size + 1, 0, none⟩ = some (.int .i64 2) := (blk_cell hbq 0).trans rfl
            have q1 : wr.cell? ⟨wo.heap.size + 1, 1, none⟩ = some (.func (.func 22) #[.pointer (some ⟨bw, 0, none⟩)] #[]) := (blk_cell hbq 1).trans rfl
            have hne := Nat.ne_of_lt (blk_lt hba)
            clear ba2
            clear hba hbq
            go_wp2_with (go_at_fn 22; refine (CK.out _ ((HQ.out.1 rfl).trans (((Below.refl _ wr).alloc (Nat.le_refl _) _).mono (HQ.out.1 rfl).size))).mono ?_; rintro e w5 ⟨rfl, hb⟩; have HB5 := Aside0.mk (((Below.refl _ wr).alloc (Nat.le_refl _) _).trans (hb.mono (by simp))); clear hb)
            go_roundw
            case rel => exact ⟨1, Or.inr (Or.inl rfl), rfl, ⟨HFi.out.trans (Fr.of_below HB5.out)⟩, ⟨fun _ => (HWi.out.1 (by decide)).stay HB5.out, fun h => absurd h (by decide)⟩, ⟨fun h => absurd h (by decide), fun h => absurd h (by decide), fun h => absurd h (by decide), fun h => absurd h (by decide)⟩⟩
            case measure => simp [intOf]
          · -- rule 3
            have ba2 := blk_alloc hba (.cells #[.int .i64 3, .func (.func 23) #[.pointer (some ⟨bw, 0, none⟩)] #[]] 69)
            have d0 : (wr.alloc (.cells #[.int .i64 3, .func (.func 23) #[.pointer (some ⟨bw, 0, none⟩)] #[]] 69)).cell? ⟨wo.heap.size, 0, none⟩ = some (.int .i64 a0) := (blk_cell ba2 0).trans rfl
            have d1 : (wr.alloc (.cells #[.int .i64 3, .func (.func 23) #[.pointer (some ⟨bw, 0, none⟩)] #[]] 69)).cell? ⟨wo.heap.size, 1, none⟩ = some (.int .i64 a1) := (blk_cell ba2 1).trans rfl
            have d2 : (wr.alloc (.cells #[.int .i64 3, .func (.func 23) #[.pointer (some ⟨bw, 0, none⟩)] #[]] 69)).cell? ⟨wo.heap.size, 2, none⟩ = some (.int .i64 a2) := (blk_cell ba2 2).trans rfl
            have d3 : (wr.alloc (.cells #[.int .i64 3, .func (.func 23) #[.pointer (some ⟨bw, 0, none⟩)] #[]] 69)).cell? ⟨wo.heap.size, 3, none⟩ = some (.bool a3) := (blk_cell ba2 3).trans rfl
            have d4 : (wr.alloc (.cells #[.int .i64 3, .func (.func 23) #[.pointer (some ⟨bw, 0, none⟩)] #[]] 69)).cell? ⟨wo.heap.size, 4, none⟩ = some (.string a4) := (blk_cell ba2 4).trans rfl
            have d5 : (wr.alloc (.cells #[.int .i64 3, .func (.func 23) #[.pointer (some ⟨bw, 0, none⟩)] #[]] 69)).cell? ⟨wo.heap.size, 5, none⟩ = some (.slice A5 a5.length k5) := (blk_cell ba2 5).trans rfl
            have q0 : wr.cell? ⟨wo.heap.size + 1, 2, none⟩ = some (.int .i64 3) := (blk_cell hbq 2).trans rfl
            have q1 : wr.cell? ⟨wo.heap.size + 1, 3, none⟩ = some (.func (.func 23) #[.pointer (some ⟨bw, 0, none⟩)] #[]) := (blk_cell hbq 3).trans rfl
            have hne := Nat.ne_of_lt (blk_lt hba)
            clear ba2
            clear hba hbq
            have HC := Aside0.mk (CT.out)
            obtain ⟨bv, hbv⟩ : ∃ x, tv = x := ⟨_, rfl⟩
            rw [hbv] at HC
            cases bv
            · have HRES : Aside0 (sv = (3, st')) := ⟨R3.out hbv⟩
              clear hbv
              go_wp2_with (go_at_fn 23; refine (HC.out _ ((HWi.out.1 (by decide)).stay ((Below.refl _ wr).alloc (Nat.le_refl _) _))).mono ?_; rintro e w5 ⟨rfl, hb⟩; have r0 : w5.cell? ⟨wr.heap.size, 0, none⟩ = some (.int .i64 3) := (hb.cell (p := ⟨wr.heap.size, 0, none⟩) (by simp)).trans (by simp); have HF5 := Aside0.mk (Fr.of_below (((Below.refl _ wr).alloc (Nat.le_refl _) _).trans (hb.mono (by simp)))); have HW5 := Aside0.mk ((HWi.out.1 (by decide)).stay (((Below.refl _ wr).alloc (Nat.le_refl _) _).trans (hb.mono (by simp)))); clear hb)
              go_ret
              exact ⟨by rw [HRES.out]; rfl, ((HF3.out.trans HFb.out).trans HFi.out).trans HF5.out, HW5.out.below, fun h0 => by rw [HRES.out] at h0; exact absurd h0 (by simp)⟩
            · have HBV := Aside0.mk hbv
              clear hbv
              go_wp2_with (go_at_fn 23; refine (HC.out _ ((HWi.out.1 (by decide)).stay ((Below.refl _ wr).alloc (Nat.le_refl _) _))).mono ?_; rintro e w5 ⟨rfl, hb⟩; have HF5 := Aside0.mk (Fr.of_below (((Below.refl _ wr).alloc (Nat.le_refl _) _).trans (hb.mono (by simp)))); have HW5 := Aside0.mk ((HWi.out.1 (by decide)).stay (((Below.refl _ wr).alloc (Nat.le_refl _) _).trans (hb.mono (by simp)))); clear hb)
              go_roundw
              case rel => exact ⟨2, Or.inr (Or.inr (Or.inl rfl)), rfl, ⟨HFi.out.trans HF5.out⟩, ⟨fun _ => HW5.out, fun h => absurd h (by decide)⟩, ⟨fun h => absurd h (by decide), fun _ => HBV.out, fun h => absurd h (by decide), fun h => absurd h (by decide)⟩⟩
              case measure => simp [intOf]
          · -- rule 5
            have ba2 := blk_alloc hba (.cells #[.int .i64 5, .func (.func 24) #[.pointer (some ⟨bw, 0, none⟩)] #[]] 69)
            have d0 : (wr.alloc (.cells #[.int .i64 5, .func (.func 24) #[.pointer (some ⟨bw, 0, none⟩)] #[]] 69)).cell? ⟨wo.heap.size, 0, none⟩ = some (.int .i64 a0) := (blk_cell ba2 0).trans rfl
            have d1 : (wr.alloc (.cells #[.int .i64 5, .func (.func 24) #[.pointer (some ⟨bw, 0, none⟩)] #[]] 69)).cell? ⟨wo.heap.size, 1, none⟩ = some (.int .i64 a1) := (blk_cell ba2 1).trans rfl
            have d2 : (wr.alloc (.cells #[.int .i64 5, .func (.func 24) #[.pointer (some ⟨bw, 0, none⟩)] #[]] 69)).cell? ⟨wo.heap.size, 2, none⟩ = some (.int .i64 a2) := (blk_cell ba2 2).trans rfl
            have d3 : (wr.alloc (.cells #[.int .i64 5, .func (.func 24) #[.pointer (some ⟨bw, 0, none⟩)] #[]] 69)).cell? ⟨wo.heap.size, 3, none⟩ = some (.bool a3) := (blk_cell ba2 3).trans rfl
            have d4 : (wr.alloc (.cells #[.int .i64 5, .func (.func 24) #[.pointer (some ⟨bw, 0, none⟩)] #[]] 69)).cell? ⟨wo.heap.size, 4, none⟩ = some (.string a4) := (blk_cell ba2 4).trans rfl
            have d5 : (wr.alloc (.cells #[.int .i64 5, .func (.func 24) #[.pointer (some ⟨bw, 0, none⟩)] #[]] 69)).cell? ⟨wo.heap.size, 5, none⟩ = some (.slice A5 a5.length k5) := (blk_cell ba2 5).trans rfl
            have q0 : wr.cell? ⟨wo.heap.size + 1, 4, none⟩ = some (.int .i64 5) := (blk_cell hbq 4).trans rfl
            have q1 : wr.cell? ⟨wo.heap.size + 1, 5, none⟩ = some (.func (.func 24) #[.pointer (some ⟨bw, 0, none⟩)] #[]) := (blk_cell hbq 5).trans rfl
            have hne := Nat.ne_of_lt (blk_lt hba)
            clear ba2
            clear hba hbq
            have HC := Aside0.mk (CA.out)
            obtain ⟨bv, hbv⟩ : ∃ x, (!ask || rok) = x := ⟨_, rfl⟩
            rw [hbv] at HC
            cases bv
            · have HRES : Aside0 (sv = (5, st')) := ⟨R5.out (HQ.out.2.1 (by decide)) hbv⟩
              clear hbv
              go_wp2_with (go_at_fn 24; refine (HC.out _ ((HWi.out.1 (by decide)).stay ((Below.refl _ wr).alloc (Nat.le_refl _) _))).mono ?_; rintro e w5 ⟨rfl, hf, hw5⟩; have r0 : w5.cell? ⟨wr.heap.size, 0, none⟩ = some (.int .i64 5) := (blk_cell (hf.blk (blk_new wr (.cells #[.int .i64 5, .func (.func 24) #[.pointer (some ⟨bw, 0, none⟩)] #[]] 69)) (by decide) (by decide)) 0).trans rfl; have HF5 := Aside0.mk ((Fr.of_below ((Below.refl _ wr).alloc (Nat.le_refl _) _)).trans hf); have HW5 := Aside0.mk hw5; clear hf hw5)
              go_ret
              exact ⟨by rw [HRES.out]; rfl, ((HF3.out.trans HFb.out).trans HFi.out).trans HF5.out, HW5.out.below, fun h0 => by rw [HRES.out] at h0; exact absurd h0 (by simp)⟩
            · have HBV := Aside0.mk hbv
              clear hbv
              go_wp2_with (go_at_fn 24; refine (HC.out _ ((HWi.out.1 (by decide)).stay ((Below.refl _ wr).alloc (Nat.le_refl _) _))).mono ?_; rintro e w5 ⟨rfl, hf, hw5⟩; have HF5 := Aside0.mk ((Fr.of_below ((Below.refl _ wr).alloc (Nat.le_refl _) _)).trans hf); have HW5 := Aside0.mk hw5; clear hf hw5)
              go_roundw
              case rel => exact ⟨3, Or.inr (Or.inr (Or.inr (Or.inl rfl))), rfl, ⟨HFi.out.trans HF5.out⟩, ⟨fun h => absurd h (by decide), fun _ => HW5.out⟩, ⟨fun h => absurd h (by decide), fun _ => HQ.out.2.1 (by decide), fun _ => HBV.out, fun h => absurd h (by decide)⟩⟩
              case measure => simp [intOf]
          · -- rule 6
            have ba2 := blk_alloc hba (.cells #[.int .i64 6, .func (.func 25) #[.pointer (some ⟨bw, 0, none⟩)] #[]] 69)
            have d0 : (wr.alloc (.cells #[.int .i64 6, .func (.func 25) #[.pointer (some ⟨bw, 0, none⟩)] #[]] 69)).cell? ⟨wo.heap.size, 0, none⟩ = some (.int .i64 a0) := (blk_cell ba2 0).trans rfl
            have d1 : (wr.alloc (.cells #[.int .i64 6, .func (.func 25) #[.pointer (some ⟨bw, 0, none⟩)] #[]] 69)).cell? ⟨wo.heap.size, 1, none⟩ = some (.int .i64 a1) := (blk_cell ba2 1).trans rfl
            have d2 : (wr.alloc (.cells #[.int .i64 6, .func (.func 25) #[.pointer (some ⟨bw, 0, none⟩)] #[]] 69)).cell? ⟨wo.heap.size, 2, none⟩ = some (.int .i64 a2) := (blk_cell ba2 2).trans rfl
            have d3 : (wr.alloc (.cells #[.int .i64 6, .func (.func 25) #[.pointer (some ⟨bw, 0, none⟩)] #[]] 69)).cell? ⟨wo.heap.size, 3, none⟩ = some (.bool a3) := (blk_cell ba2 3).trans rfl
            have d4 : (wr.alloc (.cells #[.int .i64 6, .func (.func 25) #[.pointer (some ⟨bw, 0, none⟩)] #[]] 69)).cell? ⟨wo.heap.size, 4, none⟩ = some (.string a4) := (blk_cell ba2 4).trans rfl
            have d5 : (wr.alloc (.cells #[.int .i64 6, .func (.func 25) #[.pointer (some ⟨bw, 0, none⟩)] #[]] 69)).cell? ⟨wo.heap.size, 5, none⟩ = some (.slice A5 a5.length k5) := (blk_cell ba2 5).trans rfl
            have q0 : wr.cell? ⟨wo.heap.size + 1, 6, none⟩ = some (.int .i64 6) := (blk_cell hbq 6).trans rfl
            have q1 : wr.cell? ⟨wo.heap.size + 1, 7, none⟩ = some (.func (.func 25) #[.pointer (some ⟨bw, 0, none⟩)] #[]) := (blk_cell hbq 7).trans rfl
            have hne := Nat.ne_of_lt (blk_lt hba)
            clear ba2
            clear hba hbq
            have HC := Aside0.mk (CE.out)
            obtain ⟨bv, hbv⟩ : ∃ x, ev = x := ⟨_, rfl⟩
            rw [hbv] at HC
            cases bv
            · have HRES : Aside0 (sv = (6, st')) := ⟨R6.out (HQ.out.2.1 (by decide)) hbv⟩
              clear hbv
              go_wp2_with (go_at_fn 25; refine (HC.out _ ((HWi.out.2 (by decide)).stay ((Below.refl _ wr).alloc (Nat.le_refl _) _))).mono ?_; rintro e w5 ⟨rfl, hb⟩; have r0 : w5.cell? ⟨wr.heap.size, 0, none⟩ = some (.int .i64 6) := (hb.cell (p := ⟨wr.heap.size, 0, none⟩) (by simp)).trans (by simp); have HF5 := Aside0.mk (Fr.of_below (((Below.refl _ wr).alloc (Nat.le_refl _) _).trans (hb.mono (by simp)))); have HW5 := Aside0.mk ((HWi.out.2 (by decide)).stay (((Below.refl _ wr).alloc (Nat.le_refl _) _).trans (hb.mono (by simp)))); clear hb)
              go_ret
              exact ⟨by rw [HRES.out]; rfl, ((HF3.out.trans HFb.out).trans HFi.out).trans HF5.out, HW5.out.below, fun h0 => by rw [HRES.out] at h0; exact absurd h0 (by simp)⟩
            · have HBV := Aside0.mk hbv
              clear hbv
              go_wp2_with (go_at_fn 25; refine (HC.out _ ((HWi.out.2 (by decide)).stay ((Below.refl _ wr).alloc (Nat.le_refl _) _))).mono ?_; rintro e w5 ⟨rfl, hb⟩; have HF5 := Aside0.mk (Fr.of_below (((Below.refl _ wr).alloc (Nat.le_refl _) _).trans (hb.mono (by simp)))); have HW5 := Aside0.mk ((HWi.out.2 (by decide)).stay (((Below.refl _ wr).alloc (Nat.le_refl _) _).trans (hb.mono (by simp)))); clear hb)
              go_roundw
              case rel => exact ⟨4, Or.inr (Or.inr (Or.inr (Or.inr rfl))), rfl, ⟨HFi.out.trans HF5.out⟩, ⟨fun h => absurd h (by decide), fun _ => HW5.out⟩, ⟨fun h => absurd h (by decide), fun _ => HQ.out.2.1 (by decide), fun _ => HQ.out.2.2.1 (by decide), fun _ => HBV.out⟩⟩
              case measure => simp [intOf]
          · -- all rules are kept: the code is noted
            have H4 := HWi.out.2 (by decide)
            have c1 : wr.cell? ⟨bw, 1, none⟩ = some (.map (some bd)) := (blk_cell H4.block 1).trans rfl
            have d0 : wr.cell? ⟨wo.heap.size, 0, none⟩ = some (.int .i64 a0) := (blk_cell hba 0).trans rfl
            have d2 : wr.cell? ⟨wo.heap.size, 2, none⟩ = some (.int .i64 a2) := (blk_cell hba 2).trans rfl
            obtain ⟨w5, hup, hm, hg⟩ := storeI (W := wr.drew) (H4.codes.same rfl) (by have := HN.out; omega) HXA.out.1 HXA.out.2.2
            have hd := H4.stay (W' := wr.drew) (Below.refl _ wr).drew
            obtain ⟨es, clock, hb⟩ := hd.codes.is_map
            have HW5 := Aside0.mk (hd.coded hm hg)
            have HF5 := Aside0.mk ((Fr.of_below (W' := wr.drew) (Below.refl _ wr).drew).trans (Fr.of_map hg hb))
            clear hba hbq H4 hm hg hd hb
            go_wp2
            go_still_tail 8, (by kernel_rfl)
            go_wp2
            go_roundw
            case rel => exact ⟨j + 1, _, by omega, by go_num, ⟨RP.out (HQ.out.2.1 (by decide)) (HQ.out.2.2.1 (by decide)) (HQ.out.2.2.2 (by decide))⟩, ⟨(agSt_before st' ask rok a1 rn).trans HBE.out⟩, ⟨by rw [show n + 1 + 2 * (j + 1) = n + 1 + 2 * j + 1 + 1 by omega]; exact HW5.out⟩, ⟨(HFb.out.trans HFi.out).trans HF5.out⟩⟩
            case measure => simp [intOf]; omega
    · obtain rfl : j = la.length := by omega
      have HSV : Aside0 (sv = if onceV (histV hh) = true ∧ extB (histV hh) (histV st'.before) = true then (if subV { st' with before := hh } hh = true then (0, { st' with before := hh }) else (4, { st' with before := hh })) else (1, st')) := ⟨HSP.out st' (by have := HE.out; rw [List.drop_length] at this; exact this)⟩
      obtain ⟨ov, hov⟩ : ∃ x, onceV (histV hh) = x := ⟨_, rfl⟩
      obtain ⟨xv, hxv⟩ : ∃ x, extB (histV hh) (histV st'.before) = x := ⟨_, rfl⟩
      have hbl : st'.before.length ≤ 1099511627775 := by rw [HBE.out, HBF.out]; exact HLB.out
      have hl1 := histV_len hh
      have hl2 := histV_len st'.before
      have hl := HL.out
      have CO : Aside0 (∀ W, Below wo.heap.size wo W → Calls Try.prog 26 #[.slice A11 hh.length k11] W fun e W' => e = .returned (.bool ov) ∧ Below W.heap.size W W') := ⟨fun W hW => by
        rw [← hov]
        exact fold_Once.calls A11 k11 hh _ W (Kd.C_below HG11.out.1 (HW.out.stay hW).below) HG11.out.2 (by unfold fold_Once.f fold_History.f; rw [if_pos (by omega), Option.bind_some, if_pos (ok_req HR.out (by omega))])⟩
      have CX : Aside0 (∀ W, Below wo.heap.size wo W → Calls Try.prog 27 #[.slice A11 hh.length k11, .slice Ab st'.before.length cb] W fun e W' => e = .returned (.bool xv) ∧ Below W.heap.size W W') := ⟨fun W hW => by
        rw [← hxv]
        exact fold_Extends.calls A11 k11 hh Ab cb st'.before _ W (Kd.C_below HG11.out.1 (HW.out.stay hW).below) HG11.out.2 (Kd.C_below HW.out.before.1 (HW.out.stay hW).below) HW.out.before.2 (by unfold fold_Extends.f fold_History.f; rw [if_pos (by omega), Option.bind_some, if_pos (by omega), Option.bind_some, if_pos ⟨by omega, by omega⟩])⟩
      have HV1 : Aside0 (ov = false → sv = (1, st')) := ⟨fun h1 => by rw [HSV.out, hov, h1, if_neg (by simp)]⟩
      have HV2 : Aside0 (xv = false → sv = (1, st')) := ⟨fun h1 => by rw [HSV.out, hxv, h1, if_neg (by simp)]⟩
      have HV3 : Aside0 (ov = true → xv = true → sv = if subV { st' with before := hh } hh = true then (0, { st' with before := hh }) else (4, { st' with before := hh })) := ⟨fun h1 h2 => by rw [HSV.out, hov, hxv, h1, h2, if_pos ⟨rfl, rfl⟩]⟩
      have HBO := Aside0.mk (HFW.out.blk HBS3.out (by decide) (by decide))
      have KC : Aside0 (∀ w', Below wo.heap.size wo w' → w'.cell? ⟨W.heap.size, 11, none⟩ = some (.slice A11 hh.length k11) ∧ w'.cell? ⟨bw, 4, none⟩ = some (.slice Ab st'.before.length cb)) := ⟨fun w' hw => ⟨(blk_cell (blk_below HBO.out hw) 11).trans rfl, (blk_cell (HW.out.stay hw).block 4).trans rfl⟩⟩
      have y11 := (KC.out wo (Below.refl _ _)).1
      clear hov hxv hbl hl1 hl2 hl HSV
      cases ov
      · have HRES := Aside0.mk (HV1.out rfl)
        go_wp2
        first | (go_region_with (first | (go_at_call 26; refine (CO.out _ ?_).mono ?_; (first | exact Below.refl _ _ | exact below_drew (Below.refl _ _)); rintro e w5 ⟨rfl, hb⟩; have HB5 : Aside0 (Below wo.heap.size wo w5) := ⟨(below_drew (Below.refl _ _)).trans (hb.mono (Nat.le_refl _))⟩; clear hb))) | fail "no"
        all_goals
          go_wp2
          go_ret
          exact ⟨by rw [HRES.out]; rfl, (HF3.out.trans HFW.out).trans (Fr.of_below HB5.out), (HW.out.stay HB5.out).below, fun h0 => by rw [HRES.out] at h0; exact absurd h0 (by simp)⟩
      · cases xv
        · have HRES := Aside0.mk (HV2.out rfl)
          go_wp2
          first | (go_region_with (first | (go_at_call 26; refine (CO.out _ ?_).mono ?_; (first | exact Below.refl _ _ | exact below_drew (Below.refl _ _)); rintro e w5 ⟨rfl, hb⟩; have HB5 : Aside0 (Below wo.heap.size wo w5) := ⟨(below_drew (Below.refl _ _)).trans (hb.mono (Nat.le_refl _))⟩; obtain ⟨z11, z4⟩ := KC.out w5 HB5.out; clear hb) | (go_at_call 27; refine (CX.out _ HB5.out).mono ?_; rintro e w6 ⟨rfl, hb⟩; have HB6 : Aside0 (Below wo.heap.size wo w6) := ⟨HB5.out.trans (hb.mono HB5.out.size)⟩; clear hb))) | fail "no"
          all_goals
            go_wp2
            go_ret
            exact ⟨by rw [HRES.out]; rfl, (HF3.out.trans HFW.out).trans (Fr.of_below HB6.out), (HW.out.stay HB6.out).below, fun h0 => by rw [HRES.out] at h0; exact absurd h0 (by simp)⟩
        · have HRES := Aside0.mk (HV3.out rfl rfl)
          go_wp2
          first | (go_region_with (first | (go_at_call 26; refine (CO.out _ ?_).mono ?_; (first | exact Below.refl _ _ | exact below_drew (Below.refl _ _)); rintro e w5 ⟨rfl, hb⟩; have HB5 : Aside0 (Below wo.heap.size wo w5) := ⟨(below_drew (Below.refl _ _)).trans (hb.mono (Nat.le_refl _))⟩; obtain ⟨z11, z4⟩ := KC.out w5 HB5.out; clear hb) | (go_at_call 27; refine (CX.out _ HB5.out).mono ?_; rintro e w6 ⟨rfl, hb⟩; have HB6 : Aside0 (Below wo.heap.size wo w6) := ⟨HB5.out.trans (hb.mono HB5.out.size)⟩; clear hb))) | fail "no"
          all_goals
            have h6 := HW.out.stay HB6.out
            obtain ⟨z11, z4⟩ := KC.out w6 HB6.out
            have f4 : w6.frozen? ⟨bw, 4, none⟩ = false := blk_frozen h6.block 4
            obtain ⟨w7, hw7⟩ : ∃ w7, w7 = w6.setCell ⟨bw, 4, none⟩ (.slice A11 hh.length k11) := ⟨_, rfl⟩
            have HF7 : Aside0 (Fr w6 w7) := ⟨by rw [hw7]; exact Fr.of_set h6.block 4 _⟩
            have H7 : Aside0 (WAt w0 w7 bw (n + 1 + 2 * la.length) { st' with before := hh } hh bc bd bf vo2 A11 k11 A11 k11) := ⟨by rw [hw7]; exact h6.kept⟩
            have cS := submitted_any H7.out (Nat.le_succ_of_le HL.out) HR.out
            obtain ⟨sb, hsb⟩ : ∃ x, subV { st' with before := hh } hh = x := ⟨_, rfl⟩
            rw [hsb] at cS
            have HRES2 : Aside0 (sv = if sb = true then (0, { st' with before := hh }) else (4, { st' with before := hh })) := ⟨by rw [HRES.out, hsb]⟩
            clear h6 hsb
            go_wp2_with fail
            rw [← hw7]
            clear hw7 z11 z4 f4
            refine cS.mono ?_
            rintro e w8 ⟨rfl, hb⟩
            have HF8 := Aside0.mk ((((HF3.out.trans HFW.out).trans (Fr.of_below HB6.out)).trans HF7.out).trans (Fr.of_below hb))
            have H8 := Aside0.mk (H7.out.stay hb)
            clear hb
            cases sb
            · have HRES3 : Aside0 (sv = (4, { st' with before := hh })) := ⟨by rw [HRES2.out]; rfl⟩
              go_wp2
              go_ret
              exact ⟨by rw [HRES3.out]; rfl, HF8.out, H8.out.below, fun h0 => by rw [HRES3.out] at h0; exact absurd h0 (by simp)⟩
            · have HRES3 : Aside0 (sv = (0, { st' with before := hh })) := ⟨by rw [HRES2.out]; rfl⟩
              go_wp2
              go_ret
              exact ⟨by rw [HRES3.out]; rfl, HF8.out, H8.out.below, fun _ => ⟨vo2, by rw [HRES3.out]; exact H8.out⟩⟩
end Go.Proofs.Ytegfnceepplooaa.TR
