/- Hand-written contracts: slices.Sorted over slices.Values at ints, and quorum.Commit as a whole. -/
import Derived.Lib.SlKeysI
import Derived.Test.YtjlcaamfpglflaaDoorQMath
import Derived.Test.YtjlcaamfpglflaaDoorShelfP
import Derived.Test.YtjlcaamfpglflaaDoorCommitB
import Derived.Test.YtjlcaamfpglflaaDoorWWords
import Derived.Outline
namespace Go.Proofs.YtjlcaamfpglflaaDoor.CommitC
open Go.RowKit Go.Shelf Go.Proofs Go.Sort Go.Maps
open Go.Proofs.YtjlcaamfpglflaaDoor.CommitA (Cells bad contains_any Hd)
open Go.Proofs.YtjlcaamfpglflaaDoor.CommitB (Ints collect_any values_any)

set_option maxHeartbeats 1000000 in
theorem sorted_any (Bs : Nat) (sv : Value) (zs : List Int) (hlen : zs.length ≤ maxLen) (hbytes : zs.length * 8 ≤ 140737488355328) (w : World) (hBs : Bs < w.heap.size) (hc : w.cell? ⟨Bs, 0, none⟩ = some sv) (hI : Ints w.heap.size w sv zs) :
    Calls Tryd.prog 23 #[.func (.func 30) #[] #[.pointer (some ⟨Bs, 0, none⟩)]] w fun e W' => ∃ v, e = .returned v ∧ W'.ownsRow w.heap.size 3 1 v zs.length ((zs.mergeSort leI).map (Value.int .i64)) ∧ Below w.heap.size w W' := by
  have ca := collect_any Bs sv zs hlen hbytes w hBs hc hI
  have HL := Hd.mk hlen
  have HY := Hd.mk hbytes
  clear hc hI hbytes hBs
  go_enter Tryd.func23, Tryd.ntmps23
  go_wp2_with (go_at_call 28; refine ca.mono ?_; rintro e W ⟨v, rfl, hrow, hnil, hb⟩)
  rcases hrow.2 with ⟨rfl, hz⟩ | ⟨gb, cap, cur, rfl, hbase, hgb, r1, r2, r3, r4⟩
  · have hss : zs = [] := List.eq_nil_of_length_eq_zero hz
    subst hss
    go_wp2_with (go_at_call 29; refine (Any.slices_Sort_int_none Tryd.lays189 none 0 W).mono ?_; rintro e w' ⟨rfl, rfl⟩)
    go_ret
    exact ⟨_, rfl, by simpa using hrow, hb⟩
  · have hH : Holds encZ W gb 0 zs.toArray := holds_of_block_i hgb (by simpa using r4)
    have hgl : gb < W.heap.size := (Array.getElem?_eq_some_iff.1 hgb).1
    have hsz : zs.length < 4611686018427387904 := by have := HY.out; omega
    have cS := Any.slices_Sort_int Tryd.lays189 gb 0 cap zs W hH hgl hsz
    change Calls Tryd.prog 29 _ _ _ at cS
    go_wp2_with (go_at_call 29; refine cS.mono ?_; rintro e w' ⟨rfl, nn, os, rfl⟩)
    go_ret
    exact ⟨_, rfl, ownsRow_sorted_i (by simp) hbase hgb r1 r2 r3, hb.grown (grownBy_sorted_i _) hb.size (fun j hj => by cases hj; exact hbase)⟩

def askedE (n : Int) : Int := if n < 1 then 1 else if 7 < n then 1 else 0
theorem asked_any (n : Int) (w : World) : Calls Tryd.prog 15 #[.int .i64 n, .slice none 0 0] w fun e w' => e = .returned (.int .i64 (askedE n)) ∧ w = w' := by
  unfold askedE
  by_cases h1 : n < 1
  · rw [if_pos h1]
    go_enter Tryd.func15, Tryd.ntmps15
    go_wp2
    go_ret
    exact ⟨rfl, rfl⟩
  · rw [if_neg h1]
    have h1' : 1 ≤ n := by omega
    by_cases h7 : 7 < n
    · rw [if_pos h7]
      go_enter Tryd.func15, Tryd.ntmps15
      go_wp2
      go_ret
      exact ⟨rfl, rfl⟩
    · rw [if_neg h7]
      have h7' : n ≤ 7 := by omega
      go_enter Tryd.func15, Tryd.ntmps15
      go_wp2
      go_loop [15] (fun i => i = .int .i64 0) (fun _ => 0)
      case atStart => rfl
      case round =>
        obtain rfl := hrel
        go_wp2
        go_ret
        exact ⟨rfl, rfl⟩

/-- What is wrong with some numbers. -/
def commitBad (l : List Int) : Bool := l.isEmpty || decide (7 < l.length) || l.any bad
def commit (l : List Int) : Int := QMath.mid l

def CommitPost (w : World) (l : List Int) (e : Ending) (w' : World) : Prop := e = .returned (.tuple #[.int .i64 (if commitBad l = true then 0 else commit l), .int .i64 (if commitBad l = true then 1 else 0)]) ∧ Below w.heap.size w w'

theorem post_bad {w : World} {l : List Int} (h : commitBad l = true) {w' : World} (hb : Below w.heap.size w w') : CommitPost w l (.returned (.tuple #[.int .i64 0, .int .i64 1])) w' := ⟨by rw [h]; rfl, hb⟩
theorem post_ok {w : World} {l : List Int} (h : commitBad l = false) {x : Int} (hx : x = commit l) {w' : World} (hb : Below w.heap.size w w') : CommitPost w l (.returned (.tuple #[.int .i64 x, .int .i64 0])) w' := ⟨by rw [h, hx]; rfl, hb⟩

theorem cell_sorted {l : List Int} {n p g : Nat} {cur : Array Value} {W : World} (hgb : W.heap[g]? = some (.cells cur 3 (0, 0))) (r4 : cur.toList.take (l.length * 1) = (l.mergeSort leI).map (Value.int .i64)) (hn : l.length = n) (hp : p = n - (n / 2 + 1)) (h1 : 1 ≤ n) : W.cell? ⟨g, p, none⟩ = some (.int .i64 (commit l)) := by
  have hs : (l.mergeSort leI).length = l.length := by rw [List.length_mergeSort]
  have hlt : p < (l.mergeSort leI).length := by omega
  have h := (holds_of_block_i (ss := l.mergeSort leI) hgb (by rw [hs]; simpa using r4) p (by simp; omega)).1
  rw [Nat.zero_add] at h
  rw [h]
  unfold commit QMath.mid
  subst hp
  rw [hn]
  simp only [encZ]
  congr 2
  rw [getElem!_pos _ _ (by rw [List.size_toArray]; exact hlt), List.getD_eq_getElem?_getD, List.getElem?_eq_getElem hlt]
  rfl

/-- From 1 to 7 numbers, all in range: the sorted list's cell at p is handed back. -/
theorem commit_ok (A : Option Addr) (c n p : Nat) (l : List Int) (w : World) (hn : l.length = n) (hp : p = n - (n / 2 + 1)) (h : (n = 1 ∧ p = 0) ∨ (n = 2 ∧ p = 0) ∨ (n = 3 ∧ p = 1) ∨ (n = 4 ∧ p = 1) ∨ (n = 5 ∧ p = 2) ∨ (n = 6 ∧ p = 2) ∨ (n = 7 ∧ p = 3)) (hb : l.any bad = false) (hC : Cells w A l) :
    Calls Tryd.prog 17 #[.slice A n c] w (CommitPost w l) := by
  have hbad : commitBad l = false := by
    have h1 : l.isEmpty = false := by cases l <;> simp_all <;> omega
    simp [commitBad, h1, hb]
    omega
  have cc := contains_any A c l w (by omega) hC
  rw [hb, hn] at cc
  have hI : Ints (w.heap.size + 1) (w.alloc (.cells #[.slice A n c] 33)) (.slice A n c) l := ⟨A, c, by rw [hn], fun h0 => by
    obtain ⟨ad, hA, hc⟩ := hC 0 h0
    refine ⟨ad, hA, ?_, fun j hj => ?_⟩
    · have := World.block_lt_of_cell? w _ hc
      rw [CommitB.add_block] at this
      omega
    · obtain ⟨ad', hA', hc'⟩ := hC j hj
      obtain rfl : ad = ad' := by rw [hA] at hA'; cases hA'; rfl
      rw [((Below.refl w.heap.size w).alloc (Nat.le_refl _) _).cell (p := ad.add j) (by have := World.block_lt_of_cell? w _ hc; simpa [CommitB.add_block] using this), hc', List.getD_eq_getElem?_getD]⟩
  have ca : ∀ (m : Int) W, 1 ≤ m → m ≤ 7 → Calls Tryd.prog 15 #[.int .i64 m, .slice none 0 0] W fun e w' => e = .returned (.int .i64 0) ∧ W = w' := fun m W h1 h7 => (asked_any m W).mono fun e w' ⟨he, hw⟩ => ⟨by rw [he]; unfold askedE; rw [if_neg (by omega), if_neg (by omega)], hw⟩
  have cv := fun W => values_any (.slice A n c) W A n c rfl
  have cs := fun W h1 h2 h3 => sorted_any w.heap.size (.slice A n c) l (by unfold maxLen; omega) (by omega) W h1 h2 h3
  have HA := Hd.mk hbad
  have HN := Hd.mk hn
  have HI := Hd.mk hI
  clear hC hb hbad hn hp hI
  rcases h with ⟨rfl, rfl⟩ | ⟨rfl, rfl⟩ | ⟨rfl, rfl⟩ | ⟨rfl, rfl⟩ | ⟨rfl, rfl⟩ | ⟨rfl, rfl⟩ | ⟨rfl, rfl⟩
  all_goals
    go_enter Tryd.func17, Tryd.ntmps17
    go_wp2_with (first
      | (go_at_call 15; refine (ca _ _ (by omega) (by omega)).mono ?_; rintro e w' ⟨rfl, rfl⟩)
      | (go_at_call 22; refine cc.mono ?_; rintro e w' ⟨rfl, rfl⟩)
      | (go_at_call 24; refine (cv _).mono ?_; rintro e w' ⟨rfl, rfl⟩)
      | (go_at_call 23; refine (cs _ (by simp) (by simp) (by rw [World.size_alloc]; exact HI.out)).mono ?_; rintro e w' ⟨v, rfl, hrow, hbel⟩; obtain ⟨_, ⟨rfl, hz⟩ | ⟨gb, cap, cur, rfl, hbase, hgb, r1, r2, r3, r4⟩⟩ := hrow; (exfalso; have := HN.out; omega); have hL := HN.out; (first | have hH := cell_sorted (p := 0) hgb r4 HN.out (by decide) (by decide) | have hH := cell_sorted (p := 1) hgb r4 HN.out (by decide) (by decide) | have hH := cell_sorted (p := 2) hgb r4 HN.out (by decide) (by decide) | have hH := cell_sorted (p := 3) hgb r4 HN.out (by decide) (by decide))))
    go_ret2
    exact post_ok HA.out rfl (((Below.refl _ _).alloc (Nat.le_refl _) _).trans (hbel.mono (by simp)))

theorem commit_range (A : Option Addr) (c n : Nat) (l : List Int) (w : World) (hn : l.length = n) (hbig : n ≤ 9223372036854775807) (h : n = 0 ∨ 7 < n) :
    Calls Tryd.prog 17 #[.slice A n c] w (CommitPost w l) := by
  have hbad : commitBad l = true := by
    rcases h with h | h
    · have : l = [] := List.eq_nil_of_length_eq_zero (by omega)
      simp [commitBad, this]
    · have : 7 < l.length := by omega
      simp [commitBad, this]
  have HA := Hd.mk hbad
  have ca : ∀ W, Calls Tryd.prog 15 #[.int .i64 (n : Int), .slice none 0 0] W fun e w' => e = .returned (.int .i64 1) ∧ W = w' := fun W => (asked_any n W).mono fun e w' ⟨he, hw⟩ => ⟨by
    rw [he]; unfold askedE
    rcases h with h | h
    · rw [if_pos (by omega)]
    · rw [if_neg (by omega), if_pos (by omega)], hw⟩
  clear hbad hn h
  go_enter Tryd.func17, Tryd.ntmps17
  go_wp2_with (go_at_call 15; refine (ca _).mono ?_; rintro e w' ⟨rfl, rfl⟩)
  go_ret2
  exact post_bad HA.out (Below.refl _ _)

theorem commit_any (A : Option Addr) (c : Nat) (l : List Int) (w : World) (hbig : l.length ≤ 9223372036854775807) (hC : Cells w A l) :
    Calls Tryd.prog 17 #[.slice A l.length c] w (CommitPost w l) := by
  by_cases h : l.length = 0 ∨ 7 < l.length
  · exact commit_range A c l.length l w rfl hbig h
  · cases hb : l.any bad with
    | false =>
      refine commit_ok A c l.length (l.length - (l.length / 2 + 1)) l w rfl rfl ?_ hb hC
      omega
    | true =>
      have hbad : commitBad l = true := by simp [commitBad, hb]
      have HA := Hd.mk hbad
      have cc := contains_any A c l w hbig hC
      rw [hb] at cc
      have h1 : 1 ≤ l.length := by omega
      have h7 : l.length ≤ 7 := by omega
      have ca : ∀ W, Calls Tryd.prog 15 #[.int .i64 (l.length : Int), .slice none 0 0] W fun e w' => e = .returned (.int .i64 0) ∧ W = w' := fun W => (asked_any l.length W).mono fun e w' ⟨he, hw⟩ => ⟨by rw [he]; unfold askedE; rw [if_neg (by omega), if_neg (by omega)], hw⟩
      clear hbad hC hb h
      go_enter Tryd.func17, Tryd.ntmps17
      go_wp2_with (first
        | (go_at_call 15; refine (ca _).mono ?_; rintro e w' ⟨rfl, rfl⟩)
        | (go_at_call 22; refine cc.mono ?_; rintro e w' ⟨rfl, rfl⟩))
      go_ret2
      exact post_bad HA.out (Below.refl _ _)

end Go.Proofs.YtjlcaamfpglflaaDoor.CommitC
