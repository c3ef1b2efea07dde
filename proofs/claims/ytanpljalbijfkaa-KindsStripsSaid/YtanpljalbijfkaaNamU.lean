/- names.Twice. -/
import Derived.Test.YtanpljalbijfkaaNamO
import Derived.Test.YtanpljalbijfkaaNamRP
namespace Go.Proofs.Ytanpljalbijfkaa
open Go.RowKit

theorem findL_in {l : List ByteArray} {i : Nat} (h : i < l.length) : 0 ≤ findL l l[i] := by
  unfold findL
  cases hf : l.findIdx? (fun x => decide (x = l[i])) with
  | none =>
    rw [List.findIdx?_eq_none_iff] at hf
    have := hf l[i] (List.getElem_mem h)
    simp at this
  | some k => show (0 : Int) ≤ (k : Int); omega

set_option maxRecDepth 100000 in
set_option maxHeartbeats 2000000 in
theorem twice_any (A : Option Addr) (c n : Nat) (l : List ByteArray) (w : World) (h : StrAt w w.heap.size A l) (hln : n = l.length) (hn : n ≤ 1000000) :
    Calls Try.prog 46 #[.slice A n c] w (fun e w' => e = .returned (.int .i64 (twiceL l)) ∧ Ext w w') := by
  have HN := hide hln
  have HS := hide h
  have HC := hide (tabNew_any A c n l w h hln hn)
  clear hln h
  go_enter Try.func46, Try.ntmps46
  go_wp2_with fail
  refine HC.out.mono ?_
  rintro e w1 ⟨g, rfl, hT, hE⟩
  have HT := hide hT
  have HE := hide hE
  have HS1 := hide (HS.out.ext hE)
  clear hT hE HC HS
  go_wp2_with fail
  go_loopw [12] (fun i wr => ∃ k : Nat, k ≤ n ∧ i = .int .i64 k ∧ Ext w1 wr ∧ Hid (∀ j, j < k → twiceP l j = false)) (fun i _ => n - (intOf i).toNat)
  case atStart => exact ⟨0, Nat.zero_le _, rfl, Ext.rfl' _, fun j hj => absurd hj (by omega)⟩
  case round =>
    obtain ⟨k, hk, rfl, hEr, HA⟩ := hrel
    have HEr := hide hEr
    by_cases hlt : k < n
    · have hkl : k < l.length := by rw [← HN.out]; exact hlt
      have hF := tabFind_any g l l[k] wr (HT.out.ext hEr) (by rw [← HN.out]; omega)
      have hp := findL_in hkl
      have hbd := findL_bound l l[k]
      have htw : twiceP l k = decide (findL l l[k] < (k : Int)) := by
        unfold twiceP
        rw [List.getD_eq_getElem?_getD, List.getElem?_eq_getElem hkl]
        rfl
      obtain ⟨b, o, rfl, hbs, hcell⟩ := HS1.out.cell (by omega)
      have d1 := (hEr.cell (p := ⟨b, o + k, none⟩) hbs).trans (hcell k hkl)
      have hR : findR l l[k] = .tuple #[.int .i64 (findL l l[k]), .bool true] := by
        unfold findR
        rw [if_neg (by omega)]
        simp [hp]
      rw [hR] at hF
      obtain ⟨x, hx⟩ : ∃ x, x = l[k] := ⟨_, rfl⟩
      obtain ⟨r, hr⟩ : ∃ r, r = findL l l[k] := ⟨_, rfl⟩
      rw [← hr] at hF htw hp hbd
      rw [← hx] at d1 hF
      have HF := hide hF
      have HTW := hide htw
      clear hF htw hx hr hcell hEr hR
      have hr2 : r ≤ 1000000 := by rw [← HN.out] at hbd; omega
      clear hbd
      by_cases hrk : r < (k : Int)
      · have ht := twice_hit hkl HA.out (by rw [HTW.out]; simpa using hrk)
        have HTT := hide ht
        clear ht
        go_wp2_with (go_at_call 52; with_reducible refine HF.out.mono ?_; rintro e w' ⟨rfl, hE2⟩; have HE2 := hide hE2; clear hE2)
        go_ret
        exact ⟨ret_int HTT.out.symm, (HE.out.trans' HEr.out).trans' HE2.out⟩
      · have hn' : ∀ j, j < k + 1 → twiceP l j = false := fun j hj => by
          by_cases e : j = k
          · subst e; rw [HTW.out]; simpa using hrk
          · exact HA.out j (by omega)
        have HNN := hide hn'
        clear hn'
        go_wp2_with (go_at_call 52; with_reducible refine HF.out.mono ?_; rintro e w' ⟨rfl, hE2⟩; have HE2 := hide hE2; clear hE2)
        go_roundw
        case rel => exact ⟨k + 1, by omega, by go_num, HEr.out.trans' HE2.out, HNN.out⟩
        case measure => simp [intOf]; omega
    · obtain rfl : n = k := by omega
      have ht := twice_miss (l := l) (fun j hj => HA.out j (by rw [HN.out]; exact hj))
      have HTT := hide ht
      clear ht hEr
      go_wp2_with fail
      go_ret
      exact ⟨ret_int HTT.out.symm, HE.out.trans' HEr.out⟩
end Go.Proofs.Ytanpljalbijfkaa
