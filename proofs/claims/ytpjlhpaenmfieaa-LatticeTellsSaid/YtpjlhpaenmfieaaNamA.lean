/- names: letter, sign, Take, Right. -/
import Derived.Test.YtpjlhpaenmfieaaRows
import Derived.Test.YtpjlhpaenmfieaaNamM
namespace Go.Proofs.Ytpjlhpaenmfieaa
open Go.RowKit

set_option maxHeartbeats 1000000 in
theorem letter_any (c : UInt8) (w : World) : Calls Try.prog 93 #[.int .u8 c.toNat] w (fun e w' => e = .returned (.bool (isLetter c)) ∧ w = w') := by
  unfold isLetter
  by_cases h1 : (97 : Int) ≤ (c.toNat : Int) <;> by_cases h2 : (c.toNat : Int) ≤ 122
  all_goals
    go_enter Try.func93, Try.ntmps93
    go_wp2_with fail
    go_ret
    exact ⟨ret_bool (by simp; omega), rfl⟩

set_option maxHeartbeats 1000000 in
theorem sign_any (c : UInt8) (w : World) : Calls Try.prog 94 #[.int .u8 c.toNat] w (fun e w' => e = .returned (.bool (isSign c)) ∧ w = w') := by
  obtain ⟨b, hb⟩ : ∃ b, b = isLetter c := ⟨_, rfl⟩
  have HC := hide (letter_any c w)
  rw [← hb] at HC
  have hs : isSign c = (b || decide (48 ≤ c.toNat ∧ c.toNat ≤ 57) || decide (c.toNat = 95)) := by rw [hb]; rfl
  rw [hs]
  clear hs hb
  cases b with
  | true =>
    go_enter Try.func94, Try.ntmps94
    go_wp2_with (go_at_call 93; with_reducible refine HC.out.mono ?_; rintro e w' ⟨rfl, rfl⟩)
    go_ret
    exact ⟨rfl, rfl⟩
  | false =>
    have key : ∀ z : Bool, decide (c.toNat = 95) = z → Calls Try.prog 94 #[.int .u8 c.toNat] w (fun e w' => e = .returned (.bool (false || decide (48 ≤ c.toNat ∧ c.toNat ≤ 57) || z)) ∧ w = w') := by
      intro z hz
      have h4 : ((c.toNat : Int) == 95) = z := by rw [← hz, Bool.eq_iff_iff]; simp; omega
      clear hz
      generalize hm : (c.toNat : Int) = m at HC h4
      rw [← hm] at HC h4 ⊢
      by_cases h1 : (48 : Int) ≤ (c.toNat : Int) <;> by_cases h2 : (c.toNat : Int) ≤ 57 <;> cases z
      all_goals
        clear hm
        go_enter Try.func94, Try.ntmps94
        go_wp2_with (go_at_call 93; with_reducible refine HC.out.mono ?_; rintro e w' ⟨rfl, rfl⟩)
        all_goals
          go_ret
          exact ⟨ret_bool (by first | (simp; done) | (simp; omega) | (rw [Bool.eq_iff_iff]; simp; omega)), rfl⟩
    exact key _ rfl

theorem extract_none (s : ByteArray) (i : Nat) : s.extract i i = ⟨#[]⟩ := by
  have : (s.extract i i).data = #[] := by simp
  cases h : s.extract i i
  rw [h] at this
  exact congrArg _ this
def TakePost (s : ByteArray) (i : Nat) (w : World) (e : Ending) (w' : World) : Prop := e = .returned (.tuple #[.string (s.extract i (i + nameAt s i)), .int .i64 ((i + nameAt s i : Nat) : Int)]) ∧ w = w'

set_option maxRecDepth 100000 in
set_option maxHeartbeats 1000000 in
theorem take_out (s : ByteArray) (i : Int) (w : World) (hs : s.size ≤ maxLen) (h : i < 0 ∨ (s.size : Int) ≤ i) :
    Calls Try.prog 69 #[.string s, .int .i64 i] w (fun e w' => e = .returned (.tuple #[.string ⟨#[]⟩, .int .i64 0]) ∧ w = w') := by
  unfold maxLen at hs
  by_cases h0 : i < 0
  · go_enter Try.func69, Try.ntmps69
    go_wp2_with fail
    go_ret2
    exact ⟨rfl, rfl⟩
  · have h1 : (s.size : Int) ≤ i := by omega
    clear h
    go_enter Try.func69, Try.ntmps69
    go_wp2_with fail
    go_ret2
    exact ⟨rfl, rfl⟩

set_option maxRecDepth 100000 in
set_option maxHeartbeats 1000000 in
theorem take_in (s : ByteArray) (i : Nat) (w : World) (hs : s.size ≤ maxLen) (h : i < s.size) :
    Calls Try.prog 69 #[.string s, .int .i64 i] w (TakePost s i w) := by
  unfold maxLen at hs
  have HL := hide (letter_any s[i] w)
  have hb := byte_at s i 0 (by omega)
  have hlen : (s.data.toList.drop i).length = s.size - i := by rw [List.length_drop, Array.length_toList]; rfl
  cases hl : isLetter s[i] with
  | false =>
    have hn : nameAt s i = 0 := nameLen_none hb hl
    rw [hl] at HL
    have HN := hide hn
    clear hb hl hn hlen
    go_enter Try.func69, Try.ntmps69
    go_wp2_with (go_at_call 93; with_reducible refine HL.out.mono ?_; rintro e w' ⟨rfl, rfl⟩)
    go_ret2
    unfold TakePost
    rw [HN.out]
    refine ⟨?_, rfl⟩
    show Ending.returned (.tuple #[.string ⟨#[]⟩, .int .i64 (i : Int)]) = _
    rw [Nat.add_zero, extract_none]
  | true =>
    have hn : nameAt s i = ((s.data.toList.drop i).takeWhile isSign).length := nameLen_letter hb hl
    have hge : 0 ≤ ((s.data.toList.drop i).takeWhile isSign).length := Nat.zero_le _
    rw [hl] at HL
    have HN := hide hn
    have HLEN := hide hlen
    clear hb hl hn hlen hge
    go_enter Try.func69, Try.ntmps69
    go_wp2_with (go_at_call 93; with_reducible refine HL.out.mono ?_; rintro e w' ⟨rfl, rfl⟩)
    go_loop [5] (fun e => ∃ j : Nat, i + j ≤ s.size ∧ e = .int .i64 ((i + j : Nat) : Int) ∧ j ≤ ((s.data.toList.drop i).takeWhile isSign).length) (fun e => s.size - (intOf e).toNat)
    case atStart => exact ⟨0, by omega, rfl, Nat.zero_le _⟩
    case round =>
      obtain ⟨j, hj, rfl, hjt⟩ := hrel
      have HJ := hide hjt
      clear hjt
      obtain ⟨k, hk⟩ : ∃ k, k = i + j := ⟨_, rfl⟩
      rw [← hk] at hj ⊢
      have HK := hide hk
      have hik : i ≤ k := by omega
      clear hk
      by_cases hlt : k < s.size
      · have HS := hide (sign_any s[k] w)
        have hbk : (s.data.toList.drop i)[j]? = some s[k] := by
          have := byte_at s i j (by rw [← HK.out]; exact hlt)
          rw [this]
          congr 1
          have hk2 := HK.out
          subst hk2
          rfl
        have HBK := hide hbk
        clear hbk
        cases hz : isSign s[k] with
        | true =>
          rw [hz] at HS
          have HZ := hide hz
          clear hz
          go_wp2_with (go_at_call 94; with_reducible refine HS.out.mono ?_; rintro e w' ⟨rfl, rfl⟩)
          go_round
          case rel => exact ⟨j + 1, by have := HK.out; omega, by rw [show i + (j + 1) = k + 1 by have := HK.out; omega]; go_num, tw_step HJ.out HBK.out HZ.out⟩
          case measure => simp [intOf]; omega
        | false =>
          rw [hz] at HS
          have he := tw_end HJ.out (.inr ⟨_, HBK.out, hz⟩)
          have HE := hide (HN.out.trans he)
          clear hz he
          go_wp2_with (go_at_call 94; with_reducible refine HS.out.mono ?_; rintro e w' ⟨rfl, rfl⟩)
          go_ret2
          unfold TakePost
          rw [HE.out, ← HK.out]
          exact ⟨rfl, rfl⟩
      · obtain rfl : k = s.size := by omega
        have he := tw_end HJ.out (.inl (by rw [HLEN.out]; have := HK.out; omega))
        have HE := hide (HN.out.trans he)
        clear he
        go_wp2_with fail
        go_ret2
        unfold TakePost
        rw [HE.out, ← HK.out]
        exact ⟨rfl, rfl⟩
end Go.Proofs.Ytpjlhpaenmfieaa
