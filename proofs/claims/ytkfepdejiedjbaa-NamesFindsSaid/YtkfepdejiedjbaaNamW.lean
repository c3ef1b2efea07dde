/- NamesFinds: the walk. -/
import Derived.Test.YtkfepdejiedjbaaNamU
namespace Go.Proofs.Ytkfepdejiedjbaa
open Go.RowKit

theorem tabLen_at (g : Nat) (l R : List ByteArray) (w : World) (h : TabAt w g l) (hR : SortedOf l R) :
    Calls Try.prog 53 #[.pointer (some ⟨g, 0, none⟩)] w (fun e w' => e = .returned (.int .i64 (R.length : Nat)) ∧ w = w') := by
  obtain ⟨Al, cl, Ao, co, O, hB, hs, hno, hok, hln⟩ := h
  have e := hR.unique (table_sorted hok)
  have := tabLen_any g Al cl Ao co l.length O.length w hB
  rw [e, List.length_map]
  exact this

theorem findR_cases (l : List ByteArray) (s : ByteArray) :
    (findL l s = -1 ∧ findR l s = .tuple #[.int .i64 0, .bool false]) ∨ ∃ k : Nat, k < l.length ∧ findL l s = k ∧ findR l s = .tuple #[.int .i64 (k : Nat), .bool true] := by
  unfold findR
  by_cases h : findL l s = -1
  · left; rw [h]; exact ⟨rfl, by simp⟩
  · right
    rcases findL_bound l s with ⟨h1, h2⟩ | h1
    · obtain ⟨k, hk⟩ := Int.eq_ofNat_of_zero_le (show 0 ≤ findL l s by omega)
      refine ⟨k, by omega, hk, ?_⟩
      rw [hk]
      simp
      omega
    · exact absurd h1 h

theorem finds_small (A : Option Addr) (c n : Nat) (l : List ByteArray) (s : ByteArray) (w : World) (h : StrAt w w.heap.size A l) (hln : n = l.length) (h150 : n ≤ 150) (f : Int) (v : Value) (hf : findL l s = f) (hv : findR l s = v)
    (hc : (f = -1 ∧ v = .tuple #[.int .i64 0, .bool false]) ∨ ∃ k : Nat, f = k ∧ v = .tuple #[.int .i64 (k : Nat), .bool true]) :
    Calls Try.prog 11 #[.slice A n c, .string s] w (fun e w' => e = .returned (.bool true) ∧ Ext w w') := by
  have HN := hide (tabNew_any A c n l w h hln (by omega))
  have HF := hide (fun (w1 : World) g (hT : TabAt w1 g l) => tabFind_any g l s w1 hT (by omega))
  have HG := hide (fun (w1 : World) (hS : StrAt w1 w1.heap.size A l) => refFind_any A c l s w1 hS (by omega))
  have HR := hide (fun (w1 : World) (hS : StrAt w1 w1.heap.size A l) => refSorted_any A c n l w1 hS hln.symm (by omega))
  have HTS := hide (fun (w1 : World) g (hT : TabAt w1 g l) => tabSorted_any g l w1 hT (by omega))
  have HTW := hide (fun (w1 : World) (hS : StrAt w1 w1.heap.size A l) => twice_any A c n l w1 hS hln (by omega))
  have HRT := hide (fun (w1 : World) (hS : StrAt w1 w1.heap.size A l) => refTwice_any A c l w1 hS (by omega))
  rw [hv] at HF
  rw [hf, ← hln] at HG
  rw [← hln] at HRT
  obtain ⟨tw, htw⟩ : ∃ x, x = twiceL l := ⟨_, rfl⟩
  rw [← htw] at HTW HRT
  have HS := hide h
  have HLN := hide hln
  have HB := hide h150
  clear htw hln h hf hv
  rcases hc with ⟨rfl, rfl⟩ | ⟨k, rfl, rfl⟩
  all_goals
    go_enter Try.func11, Try.ntmps11
    go_wp2_with fail
    refine HN.out.mono ?_
    rintro e w1 ⟨g, rfl, hT, hE⟩
    have HS1 := hide (HS.out.ext hE)
    have HT1 := hide hT
    have HE1 := hide hE
    clear hT hE
    go_wp2_with fail
    refine (HF.out _ _ HT1.out).mono ?_
    rintro e w2 ⟨rfl, hE⟩
    have HS2 := hide (HS1.out.ext hE)
    have HT2 := hide (HT1.out.ext hE)
    have HE2 := hide (HE1.out.trans' hE)
    clear hE HS1 HT1 HE1
    go_wp2_with fail
    refine (HG.out _ HS2.out).mono ?_
    rintro e w3 ⟨rfl, rfl⟩
    go_wp2_with fail
    refine (tabFind_nil _ _).mono ?_
    rintro e w3 ⟨rfl, hE⟩
    have HS3 := hide (HS2.out.ext hE)
    have HT3 := hide (HT2.out.ext hE)
    have HE3 := hide (HE2.out.trans' hE)
    clear hE HS2 HT2 HE2
    go_wp2_with fail
    refine (tabLen_nil _).mono ?_
    rintro e w4 ⟨rfl, rfl⟩
    go_wp2_with fail
    refine (tabSorted_nil _).mono ?_
    rintro e w4 ⟨rfl, rfl⟩
    go_wp2_with fail
    refine (HR.out _ HS3.out).mono ?_
    rintro e w4 ⟨A4, c4, n4, R, rfl, hn4, hS4, hR4, hE⟩
    have HS4 := hide (HS3.out.ext hE)
    have HT4 := hide (HT3.out.ext hE)
    have HE4 := hide (HE3.out.trans' hE)
    have HA4 := hide hS4
    have HR4 := hide hR4
    have HN4 := hide hn4
    clear hE HS3 HT3 HE3 hS4 hR4 hn4
    go_wp2_with fail
    refine (HTS.out _ _ HT4.out).mono ?_
    rintro e w5 ⟨A5, c5, n5, R5, rfl, hn5, hS5, hR5, hE⟩
    obtain rfl : R = R5 := HR4.out.unique hR5
    obtain rfl : n4 = n5 := HN4.out.trans hn5.symm
    have HS5 := hide (HS4.out.ext hE)
    have HT5 := hide (HT4.out.ext hE)
    have HE5 := hide (HE4.out.trans' hE)
    have HA5 := hide (HA4.out.ext hE)
    have HD5 := hide hS5
    clear hE HS4 HT4 HE4 hS5 hR5 hn5 HA4
    have hn4 : n4 ≤ 9223372036854775807 := by
      have h1 := HR4.out
      obtain ⟨Al, cl, Ao, co, O, _, _, _, hok, hln⟩ := HT5.out
      have h2 := h1.unique (table_sorted hok)
      have h3 := hok.short
      have h4 := HN4.out
      rw [h2, List.length_map] at h4
      have h5 := HLN.out
      have h6 := HB.out
      omega
    have HM := hide hn4
    clear hn4
    go_wp2_with fail
    refine (refSameS_any _ _ _ _ _ _ _ HD5.out HA5.out HM.out HN4.out).mono ?_
    rintro e w6 ⟨rfl, hE⟩
    have HS6 := hide (HS5.out.ext hE)
    have HT6 := hide (HT5.out.ext hE)
    have HE6 := hide (HE5.out.trans' hE)
    clear hE HS5 HT5 HE5 HA5 HD5
    have HLE := hide (tabLen_at g l R w6 HT6.out HR4.out)
    rw [← HN4.out] at HLE
    go_wp2_with fail
    refine HLE.out.mono ?_
    rintro e w7 ⟨rfl, rfl⟩
    go_wp2_with fail
    refine (HTW.out _ HS6.out).mono ?_
    rintro e w7 ⟨rfl, hE⟩
    have HS7 := hide (HS6.out.ext hE)
    have HE7 := hide (HE6.out.trans' hE)
    clear hE HS6 HE6
    go_wp2_with fail
    refine (HRT.out _ HS7.out).mono ?_
    rintro e w8 ⟨rfl, rfl⟩
    go_wp2_with fail
    refine (lives8_any _).mono ?_
    rintro e w8 ⟨rfl, hE⟩
    have HE8 := hide (HE7.out.trans' hE)
    clear hE
    go_wp2_with fail
    go_ret
    exact ⟨rfl, HE8.out⟩

theorem finds_any (A : Option Addr) (c n : Nat) (l : List ByteArray) (s : ByteArray) (w : World) (h : StrAt w w.heap.size A l) (hln : n = l.length) (hn : n ≤ 9223372036854775807) :
    Calls Try.prog 11 #[.slice A n c, .string s] w (fun e w' => e = .returned (.bool true) ∧ Ext w w') := by
  by_cases h150 : n ≤ 150
  · refine finds_small A c n l s w h hln h150 _ _ rfl rfl ?_
    rcases findR_cases l s with ⟨h1, h2⟩ | ⟨k, _, h1, h2⟩
    · exact .inl ⟨h1, h2⟩
    · exact .inr ⟨k, h1, h2⟩
  · clear h hln
    go_enter Try.func11, Try.ntmps11
    go_wp2_with fail
    refine (lives8_any _).mono ?_
    rintro e w1 ⟨rfl, hE⟩
    have HE := hide hE
    clear hE
    go_wp2_with fail
    go_ret
    exact ⟨rfl, HE.out⟩
end Go.Proofs.Ytkfepdejiedjbaa
