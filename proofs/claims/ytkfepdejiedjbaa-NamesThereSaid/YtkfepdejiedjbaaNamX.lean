/- NamesThere: plain laws and the walk. -/
import Derived.Test.YtkfepdejiedjbaaNamU
namespace Go.Proofs.Ytkfepdejiedjbaa
open Go.RowKit

theorem nodup_le {α : Type} [DecidableEq α] {a b : List α} (hn : a.Nodup) (h : ∀ x ∈ a, x ∈ b) : a.length ≤ b.length := by
  induction a generalizing b with
  | nil => exact Nat.zero_le _
  | cons x a ih =>
    rw [List.nodup_cons] at hn
    have hx := h x (List.mem_cons_self ..)
    have := ih (b := b.erase x) hn.2 fun y hy => (List.mem_erase_of_ne (by rintro rfl; exact hn.1 hy)).2 (h y (List.mem_cons_of_mem _ hy))
    rw [List.length_erase_of_mem hx] at this
    have hp := List.length_pos_of_mem hx
    simp
    omega
theorem nodup_all {n : Nat} {O : List Nat} (hn : O.Nodup) (h : ∀ x ∈ O, x < n) (hl : O.length = n) {i : Nat} (hi : i < n) : i ∈ O := by
  by_cases hm : i ∈ O
  · exact hm
  exfalso
  have hir : i ∈ List.range n := List.mem_range.2 hi
  have := nodup_le (b := (List.range n).erase i) hn fun y hy => (List.mem_erase_of_ne (by rintro rfl; exact hm hy)).2 (List.mem_range.2 (h y hy))
  rw [List.length_erase_of_mem hir, List.length_range] at this
  omega

theorem twice_neg {l : List ByteArray} : twiceL l < 0 ↔ ∀ j, j < l.length → twiceP l j = false := by
  constructor
  · intro h j hj
    unfold twiceL at h
    cases hf : (List.range l.length).find? (twiceP l) with
    | some i => rw [hf] at h; exact absurd h (by show ¬ (i : Int) < 0; omega)
    | none =>
      rw [List.find?_eq_none] at hf
      have := hf j (List.mem_range.2 hj)
      simpa using this
  · intro h
    rw [twice_miss h]
    decide
theorem twiceP_iff {l : List ByteArray} {i : Nat} (hi : i < l.length) : twiceP l i = false ↔ ∀ j (hj : j < l.length), j < i → l[j] ≠ l[i] := by
  unfold twiceP
  rw [List.getD_eq_getElem?_getD, List.getElem?_eq_getElem hi]
  show decide (findL l l[i] < (i : Int)) = false ↔ _
  rw [decide_eq_false_iff_not, findL_lt hi]
  constructor
  · intro h j hj hji e; exact h ⟨j, hj, hji, e⟩
  · rintro h ⟨j, hj, hji, e⟩; exact h j hj hji e
theorem twice_nodup {l : List ByteArray} : twiceL l < 0 ↔ l.Nodup := by
  rw [twice_neg, List.Nodup, List.pairwise_iff_getElem]
  constructor
  · intro h i j hi hj hij
    exact (twiceP_iff hj).1 (h j hj) i hi hij
  · intro h j hj
    exact (twiceP_iff hj).2 fun i hi hij => h i j hi hj hij

theorem sorted_nodup {l R : List ByteArray} (h : SortedOf l R) : R.Nodup := h.1.imp fun {a b} hab => bl_ne hab
theorem table_len {l : List ByteArray} {O : List Nat} (h : TableOK l O) : O.length = l.length ↔ twiceL l < 0 := by
  have hs := table_sorted h
  have hno : O.Nodup := h.up.imp fun {a b} hab e => by rw [e, bl_irrefl] at hab; cases hab
  constructor
  · intro hl
    rw [twice_neg]
    intro i hi
    refine (twiceP_iff hi).2 fun j hj hji e => ?_
    have hm := nodup_all hno (fun x hx => (h.first x hx).1) hl hi
    have := (h.first i hm).2 j hj (by rw [sAt_eq hj, sAt_eq hi]; exact e)
    omega
  · intro ht
    rw [twice_nodup] at ht
    have := nodup_le (b := O.map (sAt l)) ht fun x hx => (hs.2 x).2 hx
    rw [List.length_map] at this
    have := h.short
    omega

theorem tabLen_tw (g : Nat) (l : List ByteArray) (w : World) (h : TabAt w g l) : ∃ m : Nat, m ≤ l.length ∧ (m = l.length ↔ twiceL l < 0) ∧
    Calls Try.prog 53 #[.pointer (some ⟨g, 0, none⟩)] w (fun e w' => e = .returned (.int .i64 (m : Nat)) ∧ w = w') := by
  obtain ⟨Al, cl, Ao, co, O, hB, hs, hno, hok, hln⟩ := h
  exact ⟨O.length, hok.short, table_len hok, tabLen_any g Al cl Ao co l.length O.length w hB⟩

theorem findL_self {l : List ByteArray} {i : Nat} (h : i < l.length) : ∃ p : Nat, ∃ hp : p < l.length, findL l l[i] = (p : Int) ∧ p ≤ i ∧ l[p] = l[i] := by
  unfold findL
  cases hf : l.findIdx? (fun x => decide (x = l[i])) with
  | none =>
    rw [List.findIdx?_eq_none_iff] at hf
    have := hf l[i] (List.getElem_mem h)
    simp at this
  | some k =>
    rw [List.findIdx?_eq_some_iff_getElem] at hf
    obtain ⟨hk, he, hlt⟩ := hf
    refine ⟨k, hk, rfl, ?_, by simpa using he⟩
    by_cases hki : k ≤ i
    · exact hki
    · exfalso; exact hlt i (by omega) (by simp)

set_option maxRecDepth 100000 in
set_option maxHeartbeats 2000000 in
theorem there_small (A : Option Addr) (c n : Nat) (l : List ByteArray) (w : World) (h : StrAt w w.heap.size A l) (hln : n = l.length) (h300 : n ≤ 300) :
    Calls Try.prog 12 #[.slice A n c] w (fun e w' => e = .returned (.bool true) ∧ Ext w w') := by
  have HN := hide hln
  have HS := hide h
  have HC := hide (tabNew_any A c n l w h hln (by omega))
  have HTW := hide (fun (w1 : World) (hS : StrAt w1 w1.heap.size A l) => twice_any A c n l w1 hS hln (by omega))
  clear hln h
  go_enter Try.func12, Try.ntmps12
  go_wp2_with fail
  refine HC.out.mono ?_
  rintro e w1 ⟨g, rfl, hT, hE⟩
  have HT := hide hT
  have HE := hide hE
  have HS1 := hide (HS.out.ext hE)
  clear hT hE HC HS
  go_wp2_with fail
  go_loopw [4] (fun i wr => ∃ k : Nat, k ≤ n ∧ i = .int .i64 k ∧ Ext w1 wr) (fun i _ => n - (intOf i).toNat)
  case atStart => exact ⟨0, Nat.zero_le _, rfl, Ext.rfl' _⟩
  case round =>
    obtain ⟨k, hk, rfl, hEr⟩ := hrel
    have HEr := hide hEr
    by_cases hlt : k < n
    · have hkl : k < l.length := by rw [← HN.out]; exact hlt
      have hF := tabFind_any g l l[k] wr (HT.out.ext hEr) (by rw [← HN.out]; omega)
      obtain ⟨p, hpl, hfe, hpk, hpe⟩ := findL_self hkl
      have hR : findR l l[k] = .tuple #[.int .i64 (p : Nat), .bool true] := by
        unfold findR
        rw [hfe, if_neg (by omega)]
        simp
      obtain ⟨b, o, rfl, hbs, hcell⟩ := HS1.out.cell (by omega)
      have d1 := (hEr.cell (p := ⟨b, o + k, none⟩) hbs).trans (hcell k hkl)
      have d2 := hcell p hpl
      rw [hpe] at d2
      rw [hR] at hF
      obtain ⟨x, hx⟩ : ∃ x, x = l[k] := ⟨_, rfl⟩
      rw [← hx] at d1 d2 hF
      have HF := hide hF
      have hpn : p < n := by omega
      have HD2 := hide d2
      have HB := hide hbs
      clear hF hx hfe hpl hpe hR hcell hEr d2 hkl hbs
      go_wp2_with (go_at_call 51; with_reducible refine HF.out.mono ?_; rintro e w2 ⟨rfl, hE2⟩; have HE2 := hide hE2; clear hE2)
      have e2 : w2.cell? ⟨b, o + p, none⟩ = some (.string x) := ((HEr.out.trans' HE2.out).cell (p := ⟨b, o + p, none⟩) HB.out).trans HD2.out
      have e1 : w2.cell? ⟨b, o + k, none⟩ = some (.string x) := (HE2.out.cell (p := ⟨b, o + k, none⟩) (Nat.lt_of_lt_of_le HB.out HEr.out.size)).trans d1
      clear d1
      go_quiet (fail)
      go_wp2_with fail
      go_roundw
      case rel => exact ⟨k + 1, by omega, by go_num, below_drewN (HEr.out.trans' HE2.out) _⟩
      case measure => simp [intOf]; omega
    · obtain rfl : n = k := by omega
      have HSr := hide (HS1.out.ext HEr.out)
      have HTr := hide (HT.out.ext HEr.out)
      obtain ⟨t, ht⟩ : ∃ x, x = twiceL l := ⟨_, rfl⟩
      rw [← ht] at HTW
      have HTT := hide ht
      clear ht hEr
      go_wp2_with fail
      refine (HTW.out _ HSr.out).mono ?_
      rintro e w2 ⟨rfl, hE⟩
      have HS2 := hide (HSr.out.ext hE)
      have HT2 := hide (HTr.out.ext hE)
      have HE2 := hide ((HE.out.trans' HEr.out).trans' hE)
      clear hE HSr HTr
      obtain ⟨m, hm, hiff, hL⟩ := tabLen_tw g l w2 HT2.out
      have HL := hide hL
      rw [← HTT.out, ← HN.out] at hiff
      rw [← HN.out] at hm
      clear hL
      have HTS := hide (tabSorted_any g l w2 HT2.out (by rw [← HN.out]; omega))
      by_cases ht0 : t < 0
      · obtain rfl : m = n := hiff.2 ht0
        clear hiff hm
        go_wp2_with fail
        refine HL.out.mono ?_
        rintro e w3 ⟨rfl, rfl⟩
        go_wp2_with fail
        refine HTS.out.mono ?_
        rintro e w3 ⟨A3, c3, n3, R, rfl, hn3, hS3, hR3, hE⟩
        have HE3 := hide (HE2.out.trans' hE)
        have hRn := twice_nodup.2 (sorted_nodup hR3)
        obtain ⟨u, hu⟩ : ∃ x, x = twiceL R := ⟨_, rfl⟩
        have hbig : n3 ≤ 1000000 := by
          have h2 := nodup_le (sorted_nodup hR3) fun x hx => (hR3.2 x).1 hx
          rw [← hn3, ← HN.out] at h2
          omega
        have HT3 := twice_any A3 c3 n3 R w3 hS3 hn3 hbig
        rw [← hu] at HT3 hRn
        have HT3 := hide HT3
        clear hu hS3 hn3 hR3 hbig hE
        go_wp2_with fail
        refine HT3.out.mono ?_
        rintro e w4 ⟨rfl, hE⟩
        have HE4 := hide (HE3.out.trans' hE)
        clear hE
        go_wp2_with fail
        refine (lives8_any _).mono ?_
        rintro e w5 ⟨rfl, hE⟩
        have HE5 := hide (HE4.out.trans' hE)
        clear hE
        go_wp2_with fail
        go_ret
        exact ⟨rfl, HE5.out⟩
      · have hmn : m ≠ n := fun e => ht0 (hiff.1 e)
        have hmz : ((m : Int) == (n : Int)) = false := by simp; omega
        clear hiff
        go_wp2_with fail
        refine HL.out.mono ?_
        rintro e w3 ⟨rfl, rfl⟩
        go_wp2_with fail
        refine HTS.out.mono ?_
        rintro e w3 ⟨A3, c3, n3, R, rfl, hn3, hS3, hR3, hE⟩
        have HE3 := hide (HE2.out.trans' hE)
        have hRn := twice_nodup.2 (sorted_nodup hR3)
        obtain ⟨u, hu⟩ : ∃ x, x = twiceL R := ⟨_, rfl⟩
        have hbig : n3 ≤ 1000000 := by
          have h2 := nodup_le (sorted_nodup hR3) fun x hx => (hR3.2 x).1 hx
          rw [← hn3, ← HN.out] at h2
          omega
        have HT3 := twice_any A3 c3 n3 R w3 hS3 hn3 hbig
        rw [← hu] at HT3 hRn
        have HT3 := hide HT3
        clear hu hS3 hn3 hR3 hbig hE
        go_wp2_with fail
        refine HT3.out.mono ?_
        rintro e w4 ⟨rfl, hE⟩
        have HE4 := hide (HE3.out.trans' hE)
        clear hE
        go_wp2_with fail
        refine (lives8_any _).mono ?_
        rintro e w5 ⟨rfl, hE⟩
        have HE5 := hide (HE4.out.trans' hE)
        clear hE
        go_wp2_with fail
        go_ret
        exact ⟨by show Ending.returned (.bool (!decide (t < 0))) = _; rw [decide_eq_false (show ¬ t < 0 by omega)]; rfl, HE5.out⟩

theorem there_any (A : Option Addr) (c n : Nat) (l : List ByteArray) (w : World) (h : StrAt w w.heap.size A l) (hln : n = l.length) (hn : n ≤ 9223372036854775807) :
    Calls Try.prog 12 #[.slice A n c] w (fun e w' => e = .returned (.bool true) ∧ Ext w w') := by
  by_cases h300 : n ≤ 300
  · exact there_small A c n l w h hln h300
  · clear h hln
    go_enter Try.func12, Try.ntmps12
    go_wp2_with fail
    refine (lives8_any _).mono ?_
    rintro e w1 ⟨rfl, hE⟩
    have HE := hide hE
    clear hE
    go_wp2_with fail
    go_ret
    exact ⟨rfl, HE.out⟩
end Go.Proofs.Ytkfepdejiedjbaa
