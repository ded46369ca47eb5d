/- A map of strings as a list of pairs in the keys' order; the contracts of fold.do and fold.entries. -/
import Derived.Maps.OwnSet
import Derived.Maps.StringElems
import Derived.Maps.Ext
import Derived.WalkKit
import Derived.Test.YtegfnceepplooaaWWords
import Derived.Test.YtegfnceepplooaaWMore
import Derived.Test.YtegfnceepplooaaIter
set_option linter.unusedSimpArgs false
set_option linter.unusedVariables false
namespace Go.Proofs.Ytegfnceepplooaa.FMap
open Go.RowKit Go.Maps Go.Shelf Go.Sort Go.WideMaps Go.Proofs.YtegfnceepplooaaW.PrintWords

abbrev KV := ByteArray × ByteArray
def kb (s : ByteArray) : List UInt8 := s.data.toList
theorem kb_inj {s t : ByteArray} (h : kb s = kb t) : s = t := by
  obtain ⟨⟨a⟩⟩ := s; obtain ⟨⟨b⟩⟩ := t
  unfold kb at h; simp at h; rw [h]
theorem kb_mk (s : ByteArray) : (⟨(kb s).toArray⟩ : ByteArray) = s := by obtain ⟨⟨a⟩⟩ := s; rfl

/-! ### lists of pairs -/
def ins (x : KV) : List KV → List KV
  | [] => [x]
  | y :: r => if bytesBefore (kb x.1) (kb y.1) then x :: y :: r else y :: ins x r
def del (m : List KV) (k : ByteArray) : List KV := m.filter fun p => !(kb p.1 == kb k)
def put (m : List KV) (k v : ByteArray) : List KV := ins (k, v) (del m k)
def doV (m : List KV) (other : Int) (k v : ByteArray) : List KV := if other = 1 then put m k v else del m k

theorem ins_length (x : KV) : ∀ l, (ins x l).length = l.length + 1
  | [] => rfl
  | y :: r => by
    unfold ins
    split
    · rfl
    · simp [ins_length x r]
theorem do_length (m : List KV) (o : Int) (k v : ByteArray) : (doV m o k v).length ≤ m.length + 1 := by
  have h : (del m k).length ≤ m.length := List.length_filter_le _ _
  unfold doV put
  split
  · rw [ins_length]; omega
  · omega

def ent (p : KV) : Lit × DataW Unit := (.string (kb p.1), .lit (.string (kb p.2)))
def toD (m : List KV) : DataW Unit := .map (m.map ent)
theorem toD_del (m : List KV) (k : ByteArray) : (toD m).del (.string (kb k)) = toD (del m k) := by
  show DataW.map ((m.map ent).filter _) = DataW.map ((m.filter _).map ent)
  rw [List.filter_map]
  rfl
theorem insert_map (x : KV) : ∀ l : List KV, DataW.insert (ent x) (l.map ent) = (ins x l).map ent
  | [] => rfl
  | y :: r => by
    unfold ins
    simp only [List.map_cons, DataW.insert]
    show (if bytesBefore (kb x.1) (kb y.1) = true then _ else _) = _
    by_cases h : bytesBefore (kb x.1) (kb y.1) = true
    · rw [if_pos h, if_pos h]; rfl
    · rw [if_neg h, if_neg h, insert_map x r]; rfl
theorem toD_put (m : List KV) (k v : ByteArray) : (toD m).put (.string (kb k)) (.lit (.string (kb v))) = toD (put m k v) := by
  show DataW.map (DataW.insert (ent (k, v)) ((m.map ent).filter _)) = _
  rw [List.filter_map, insert_map]
  rfl
theorem size_toD (m : List KV) : Maps.size (toD m) = m.length := by simp [toD, Maps.size]

theorem keyS : Keyed Try.prog 9 := string_keyed Try.underlying9
theorem zeroS (w : World) : (zeroValue 9).run Try.prog w = .ok (.string ByteArray.empty) w := by kernel_rfl
noncomputable abbrev RS : Value → Option (DataW Unit × List MemPlace) := plainElem Try.prog 9
abbrev Owns (w : World) (b n : Nat) (m : List KV) : Prop := w.ownsMap Try.prog 9 RS b n (toD m)

theorem do_any (b n : Nat) (m : List KV) (w : World) (r0 r1 r2 r3 r4 r5 : Int) (k v : ByteArray) (hown : Owns w b n m) (hn : n < maxLen) (hk : k.size ≤ maxLen) (hv : v.size ≤ maxLen) :
    Calls Try.prog 39 #[.map (some b), .agg #[.int .i64 r0, .int .i64 r1, .int .i64 r2, .int .i64 r3, .int .i64 r4, .int .i64 r5, .string k, .string v]] w fun e w' => e = .returned (.tuple #[]) ∧ Owns w' b (n + 1) (doV m r4 k v) ∧ w.grownBy w' (some b) := by
  have hkey : keyOf Try.prog 9 (.string k) = some (.string (kb k)) := keyOf_string_mk Try.underlying9 hk
  by_cases h4 : r4 = 1
  · subst h4
    have hD : doV m 1 k v = put m k v := by unfold doV; rw [if_pos rfl]
    rw [hD]
    clear hD
    go_enter Try.func39, Try.ntmps39
    go_wp2_with (at_mapUpdate; refine wpList_mapUpdate_own _ rfl _ _ _ 87 rfl 9 9 keyS Try.underlying87 _ b n _ rfl (hown.alloc _) hn _ _ _ rfl rfl hkey _ [] (plainElem_string Try.underlying9 hv) ?_; intro w1 hown1 hgrow1)
    go_end0
    refine ⟨rfl, ?_, ?_⟩
    · unfold Owns; rw [← toD_put]; exact hown1
    · exact ((World.grownBy_alloc _ _ _)).trans hgrow1
  · have h4b : (r4 == 1) = false := by simpa using h4
    have hD : doV m r4 k v = del m k := by unfold doV; rw [if_neg h4]
    rw [hD]
    clear hD h4
    go_enter Try.func39, Try.ntmps39
    go_wp2_with (at_delete; refine wpList_delete_own _ rfl _ _ 87 9 rfl 9 keyS Try.underlying87 _ b n _ rfl (hown.alloc _) _ _ rfl hkey ?_; intro w1 hown1 hturn1)
    go_end0
    refine ⟨rfl, ?_, ?_⟩
    · unfold Owns; rw [← toD_del]; exact hown1.mono (by omega)
    · exact ((World.grownBy_alloc _ _ _)).trans hturn1.grown

/-! ### fold.entries -/
theorem before_le : ∀ {x y : List UInt8}, bytesBefore x y = true → x ≤ y
  | [], [], h => by cases h
  | [], _ :: _, _ => List.nil_le _
  | _ :: _, [], h => by cases h
  | a :: r, c :: s, h => by
    unfold bytesBefore at h
    rw [List.cons_le_cons_iff]
    simp only [Bool.or_eq_true, decide_eq_true_eq, Bool.and_eq_true, beq_iff_eq] at h
    rcases h with h | ⟨h1, h2⟩
    · exact .inl h
    · exact .inr ⟨h1, before_le h2⟩

def Rising (m : List KV) : Prop := m.Pairwise (fun p q => bytesBefore (kb p.1) (kb q.1) = true)
theorem owns_rising {w : World} {b n : Nat} {m : List KV} (h : Owns w b n m) : Rising m := by
  obtain ⟨es, he, hp, _⟩ := World.ownsMap.canon h keyS
  have : es = m.map ent := by unfold toD at he; injection he with he; exact he.symm
  subst this
  rw [List.pairwise_map] at hp
  exact hp

theorem keys_sorted {m : List KV} (hm : Rising m) {ss : List (List UInt8)} (hS : ss.Perm (strKeys (toD m))) : ss.mergeSort (fun x y => decide (x ≤ y)) = m.map (fun p => kb p.1) := by
  have hk : strKeys (toD m) = m.map (fun p => kb p.1) := by
    show (m.map ent).map _ = _
    rw [List.map_map]
    rfl
  rw [hk] at hS
  have hp1 : ((ss.mergeSort (fun x y => decide (x ≤ y))).Perm (m.map (fun p => kb p.1))) := (List.mergeSort_perm _ _).trans hS
  have hs1 : (ss.mergeSort (fun x y => decide (x ≤ y))).Pairwise (fun x y => x ≤ y) := by
    have := List.pairwise_mergeSort (le := fun x y : List UInt8 => decide (x ≤ y)) (fun a b c h1 h2 => by simp at *; exact List.le_trans h1 h2) (fun a b => by simp; exact List.le_total a b) ss
    exact this.imp fun h => by simpa using h
  have hs2 : (m.map (fun p => kb p.1)).Pairwise (fun x y => x ≤ y) := by
    rw [List.pairwise_map]
    exact hm.imp fun h => before_le h
  exact hp1.eq_of_pairwise (fun a b _ _ h1 h2 => List.le_antisymm h1 h2) hs1 hs2

abbrev kd : Kd KV := Kd.pair Kd.string Kd.string
theorem infoE : (Try.prog.info? 103).map (fun i => (i.zero, i.size, i.bytes)) = some (some (.agg #[.string ⟨#[]⟩, .string ⟨#[]⟩]), 2, 32) := by kernel_rfl
theorem look_toD {m : List KV} {k v : ByteArray} (hm : Rising m) (h : (k, v) ∈ m) (z : DataW Unit) : (toD m).atKey (.string (kb k)) z = .lit (.string (kb v)) := by
  have hf : (m.map ent).find? (fun p => p.1.sameKey (.string (kb k))) = some (ent (k, v)) := by
    induction m with
    | nil => cases h
    | cons x t ih =>
      obtain ⟨h1, h2⟩ := List.pairwise_cons.1 hm
      rcases List.mem_cons.1 h with rfl | h
      · simp [ent, Lit.sameKey]
      · have hne : ¬ (kb x.1 == kb k) = true := by
          intro e
          have e' : kb x.1 = kb k := by simpa using e
          have := h1 _ h
          rw [e'] at this
          have irr : ∀ l : List UInt8, bytesBefore l l = false := by
            intro l
            induction l with
            | nil => rfl
            | cons a r ih => unfold bytesBefore; simp [ih]
          rw [irr] at this
          cases this
        rw [List.map_cons, List.find?_cons]
        have e2 : (ent x).1.sameKey (.string (kb k)) = false := by simpa [ent, Lit.sameKey] using hne
        rw [e2]
        exact ih h2 h
  unfold toD DataW.atKey
  simp only
  rw [hf]
  rfl

theorem owns_below {w w' : World} {b n : Nat} {m : List KV} (h : Owns w b n m) (hb : Below w.heap.size w w') : Owns w' b n m := by
  have hlt := h.lt
  obtain ⟨es, clock, h1, h2⟩ := h
  exact ⟨es, clock, (hb.block b hlt).trans h1, h2⟩

theorem look_run {w : World} {b n : Nat} {m : List KV} (h : Owns w b n m) (hm : Rising m) {k v : ByteArray} (hmem : (k, v) ∈ m) (hk : k.size ≤ maxLen) : (Instr.lookup 87 (.map (some b)) (.string k) false).run Try.prog w = .ok (.string v) w := by
  obtain ⟨v', ps, hrun, hv⟩ := h.lookup keyS Try.underlying87 (zeroS w) (plainElem_string Try.underlying9 (by show 0 ≤ maxLen; omega)) (keyOf_string_mk Try.underlying9 hk)
  obtain ⟨s, rfl, hs, _⟩ := plainElem_string_inv Try.underlying9 hv
  rw [show (Lit.string k.data.toList) = .string (kb k) from rfl, look_toD hm hmem] at hs
  simp only [Prod.mk.injEq, DataW.lit.injEq, Lit.string.injEq] at hs
  have : s = v := kb_inj hs.1.symm
  rw [hrun, this]

theorem keys_read {w : World} {base : Nat} {m : List KV} (hm : Rising m) {ss : List (List UInt8)} {v : Value} (hS : ss.Perm (strKeys (toD m))) (hrow : w.ownsRow base 9 1 v ss.length ((ss.mergeSort (fun x y => decide (x ≤ y))).map encStr)) :
    ∃ A c, v = .slice A m.length c ∧ m.length ≤ c ∧ Kd.C Kd.string w A m.length (m.map (·.1)) := by
  have hlen : ss.length = (m.map (·.1)).length := by
    have := hS.length_eq
    rw [this]
    simp [toD, strKeys]
  have he : (ss.mergeSort (fun x y => decide (x ≤ y))).map encStr = encs Value.string (m.map (·.1)) := by
    rw [keys_sorted hm hS]
    unfold encs
    rw [List.map_map, List.map_map]
    refine List.map_congr_left (fun p _ => ?_)
    show Value.string ⟨(kb p.1).toArray⟩ = Value.string p.1
    rw [kb_mk]
  rw [he, hlen] at hrow
  obtain ⟨A, c, h1, h2, h3⟩ := Kd.R_reads (Kd.R_of_own (ok := fun _ => True) (h1 := fun _ => rfl) hrow (fun _ _ => trivial))
  rw [List.length_map] at h1 h2 h3
  exact ⟨A, c, h1, h2, h3⟩

set_option maxHeartbeats 4000000 in
set_option maxRecDepth 100000 in
theorem entries_any (b n : Nat) (m : List KV) (w : World) (hown : Owns w b n m) (hm : m.length ≤ 4398046511103) (hz : ∀ p ∈ m, p.1.size ≤ maxLen) :
    Calls Try.prog 42 #[.map (some b)] w fun e w' => ∃ v : Value, e = .returned v ∧ Kd.R kd 103 w' w.heap.size (fun _ => True) v m ∧ Below w.heap.size w w' := by
  have cK := fun W => (callsIn_wide (n := 5)).1 (Try.maps_Keys_50 (some b) W)
  have cS := (callsIn_wide (n := 5)).1 (Try.slices_Sorted_keys_49_50 b n (toD m) RS w hown (by rw [size_toD]; unfold maxLen; omega) (by rw [size_toD]; omega))
  have hbl := hown.lt
  have HM := Aside0.mk hm
  have HZ := Aside0.mk hz
  have HO := Aside0.mk hown
  have HR := Aside0.mk (owns_rising hown)
  clear hm hown hz
  go_enter Try.func42, Try.ntmps42
  go_wp2_with (first
    | (go_at_call 50; refine (cK _).mono ?_; rintro e w' ⟨rfl, rfl⟩)
    | (go_at_call 49; refine cS.mono ?_; rintro e w1 ⟨v, ss, rfl, hS, hrow, hnil, hb⟩; obtain ⟨A, c, rfl, hlc, hC⟩ := keys_read HR.out hS hrow; have HC := Aside0.mk hC; have HB0 := Aside0.mk (((Below.refl _ w).alloc (Nat.le_refl _) _).trans (hb.mono (by simp))); clear hS hrow hnil hb cS cK hC hlc))
  go_loopw [3, 10] (fun o i wr => ∃ k : Nat, k ≤ m.length ∧ i = .int .i64 k ∧ Aside0 (Kd.R kd 103 wr w1.heap.size (fun _ => True) o (m.take k)) ∧ Aside0 (Below w1.heap.size w1 wr)) (fun _ i _ => m.length - (intOf i).toNat)
  case atStart => exact ⟨0, Nat.zero_le _, rfl, ⟨by rw [List.take_zero]; exact Kd.R_nil _ _ _ _ _⟩, ⟨Below.refl _ _⟩⟩
  case round =>
    obtain ⟨k, hk, rfl, HO1, HW⟩ := hrel
    by_cases hlt : k < m.length
    · obtain ⟨kk, vv, hp, htk⟩ : ∃ kk vv, (m.map (·.1)).getD ((k : Int)).toNat ByteArray.empty = kk ∧ (kk, vv) ∈ m ∧ m.take (k + 1) = m.take k ++ [(kk, vv)] := by
        refine ⟨m[k].1, m[k].2, ?_, List.getElem_mem hlt, List.take_succ_eq_append_getElem hlt⟩
        rw [Int.toNat_natCast, List.getD_eq_getElem?_getD, List.getElem?_map, List.getElem?_eq_getElem hlt]
        rfl
      obtain ⟨hmem, htk⟩ := htk
      have HT := Aside0.mk htk
      have hmb := HM.out
      obtain ⟨ad, c, hA, _, hK, hc⟩ := Kd.C_get (Kd.C_below HC.out HW.out) ByteArray.empty (k : Int) (by omega) (by omega)
      rw [hp] at hK
      obtain rfl : c = [.string kk] := hK
      have hcell : wr.cell? (ad.add k) = some (.string kk) := by
        have := hc 0 _ rfl
        rw [Int.toNat_natCast, show k * Kd.string.sz + 0 = k by show k * 1 + 0 = k; omega] at this
        exact this
      subst hA
      have hrun := look_run (owns_below HO.out (HB0.out.trans (HW.out.mono HB0.out.size))) HR.out hmem (HZ.out _ hmem)
      have hln : (m.take k).length ≤ k := List.length_take_le _ _
      clear hp hmem htk hc
      go_wp2_with ((with_reducible refine gate_builtin (b := .append) (xs := #[.tmp 14, .tmp 20]) rfl ?_); at_builtin; refine Kd.R_append kd (w0 := w1) w1.heap.size rfl (.tmp 14) (.tmp 20) 41 103 (.agg #[.string ⟨#[]⟩, .string ⟨#[]⟩]) 32 rfl Try.underlying41 infoE rfl (by decide) (by omega) _ (m.take k) (kk, vv) [.string kk, .string vv] (fun _ => True) (fun _ => False) rfl rfl ⟨[.string kk], [.string vv], rfl, rfl, rfl⟩ (fun _ hk => hk.elim) (fun _ _ => trivial) HO1.out HW.out HW.out.size (by have := HM.out; omega) ?_; intro v1 w2 hR1 hB1 hg1 hv1; rw [← HT.out] at hR1; have HR1 := Aside0.mk hR1; have HB1 := Aside0.mk hB1; clear hR1 hB1 hg1 hv1 hrun)
      go_roundw
      case rel => exact ⟨k + 1, by omega, by go_num, HR1, HB1⟩
      case measure => simp [intOf]; omega
    · have : k = m.length := by omega
      subst this
      go_wp2
      go_ret
      exact ⟨_, rfl, Kd.R_lower (by have := HO1.out; rwa [List.take_length] at this) HB0.out.size, HB0.out.trans (HW.out.mono HB0.out.size)⟩

theorem R_iso {α β : Type} {d : Kd α} {f : β → α} {g : α → β} {e : Nat} {w : World} {base : Nat} {ok : Nat → Prop} {v : Value} {xs : List α} (hfg : ∀ a, f (g a) = a) (h : Kd.R d e w base ok v xs) : Kd.R (Kd.iso d f) e w base ok v (xs.map g) := by
  obtain ⟨h0, inner, ho, hr⟩ := h
  refine ⟨h0, inner, by rw [List.length_map]; exact ho, by rw [List.length_map]; exact hr.1, fun j p hp => ?_⟩
  rw [List.getElem?_map] at hp
  obtain ⟨q, hq, rfl⟩ := Option.map_eq_some_iff.1 hp
  show d.M w base _ (f (g q)) _
  rw [hfg]
  exact hr.2 j q hq

theorem ins_mem {x p : KV} : ∀ {l : List KV}, p ∈ ins x l → p = x ∨ p ∈ l
  | [], h => by simp [ins] at h; exact .inl h
  | y :: r, h => by
    unfold ins at h
    split at h
    · rcases List.mem_cons.1 h with h | h
      · exact .inl h
      · exact .inr h
    · rcases List.mem_cons.1 h with h | h
      · exact .inr (by rw [h]; simp)
      · rcases ins_mem h with h | h
        · exact .inl h
        · exact .inr (List.mem_cons_of_mem _ h)
theorem do_mem {m : List KV} {o : Int} {k v : ByteArray} {p : KV} (h : p ∈ doV m o k v) : p = (k, v) ∨ p ∈ m := by
  unfold doV put del at h
  split at h
  · rcases ins_mem h with h | h
    · exact .inl h
    · exact .inr (List.mem_filter.1 h).1
  · exact .inr (List.mem_filter.1 h).1
theorem toD_nil : toD [] = .map [] := rfl
theorem owns_made (w : World) : Owns (w.alloc (.map #[] 0)) w.heap.size 0 [] := World.ownsMap_made w _ _ _

end Go.Proofs.Ytegfnceepplooaa.FMap
