/- names.Right; the document's Signs, Right. -/
import Derived.Test.YtpjlhpaenmfieaaNamA
import Derived.Lib.Strings
namespace Go.Proofs.Ytpjlhpaenmfieaa
open Go.RowKit

theorem str_nil (s : ByteArray) : s.toList = [] ↔ s.size = 0 := by
  rw [Lib.toList_data]
  constructor
  · intro h
    have := congrArg List.length h
    rw [Array.length_toList] at this
    exact this
  · intro h
    exact List.eq_nil_of_length_eq_zero (by rw [Array.length_toList]; exact h)
theorem str_ne {s : ByteArray} (h : 0 < s.size) : s.toList.isEmpty = false := by
  cases hx : s.toList.isEmpty with
  | false => rfl
  | true => rw [List.isEmpty_iff, str_nil] at hx; omega
theorem str_ne' {s : ByteArray} (h : 0 < s.size) : ¬ s.toList = [] := fun hx => by rw [str_nil] at hx; omega
theorem str_empty {s : ByteArray} (h : s.size = 0) : s = ⟨#[]⟩ := by
  cases s with
  | mk d => congr 1; exact Array.eq_empty_of_size_eq_zero h

set_option maxRecDepth 100000 in
set_option maxHeartbeats 1000000 in
theorem right_any (s : ByteArray) (w : World) (hs : s.size ≤ maxLen) :
    Calls Try.prog 70 #[.string s] w (fun e w' => e = .returned (.bool (rightB s)) ∧ w = w') := by
  by_cases h0 : 0 < s.size
  · have HT := hide (show Calls Try.prog 69 #[.string s, .int .i64 0] w (TakePost s 0 w) from take_in s 0 w hs h0)
    have hle := nameAt_le s 0 (by omega)
    unfold maxLen at hs
    obtain ⟨n, hn⟩ : ∃ n, n = nameAt s 0 := ⟨_, rfl⟩
    unfold TakePost at HT
    rw [Nat.zero_add, ← hn] at HT
    rw [Nat.zero_add, ← hn] at hle
    have HN := hide hn
    clear hn
    have hb : rightB s = (decide (n = s.size) && decide (n ≤ 32)) := by
      rw [Bool.eq_iff_iff]
      simp [rightB, ← HN.out]
      omega
    rw [hb]
    clear hb
    have e1 := str_ne h0
    have e2 := str_ne' h0
    go_enter Try.func70, Try.ntmps70
    go_wp2_with (go_at_call 69; with_reducible refine HT.out.mono ?_; rintro e w' ⟨rfl, rfl⟩)
    all_goals
      go_ret
      exact ⟨ret_bool (by rw [Bool.eq_iff_iff]; simp; omega), rfl⟩
  · obtain rfl := str_empty (s := s) (by omega)
    have HT := hide (take_out ⟨#[]⟩ 0 w hs (.inr (by decide)))
    have hb : rightB ⟨#[]⟩ = false := by decide
    rw [hb]
    clear hb h0
    go_enter Try.func70, Try.ntmps70
    go_wp2_with (go_at_call 69; with_reducible refine HT.out.mono ?_; rintro e w' ⟨rfl, rfl⟩)
    go_ret
    exact ⟨rfl, rfl⟩

set_option maxRecDepth 100000 in
set_option maxHeartbeats 2000000 in
theorem signs_any (s : ByteArray) (i : Nat) (w : World) (hs : s.size ≤ maxLen) (h : i ≤ s.size) :
    Calls Try.prog 83 #[.string s, .int .i64 i] w (fun e w' => e = .returned (.int .i64 (nameAt s i)) ∧ w = w') := by
  unfold maxLen at hs
  have hlen : (s.data.toList.drop i).length = s.size - i := by rw [List.length_drop, Array.length_toList]; rfl
  have HLEN := hide hlen
  clear hlen
  go_enter Try.func83, Try.ntmps83
  go_wp2_with fail
  go_loop [5, 6] (fun n e => ∃ j : Nat, i + j ≤ s.size ∧ n = .int .i64 (j : Int) ∧ e = .int .i64 ((i + j : Nat) : Int) ∧ j ≤ ((s.data.toList.drop i).takeWhile isSign).length ∧ (0 < j → nameAt s i = ((s.data.toList.drop i).takeWhile isSign).length)) (fun _ e => s.size - (intOf e).toNat)
  case atStart => exact ⟨0, by omega, rfl, rfl, Nat.zero_le _, fun h => absurd h (by omega)⟩
  case round =>
    obtain ⟨j, hj, rfl, rfl, hjt, hnm⟩ := hrel
    have HJ := hide hjt
    have HNM := hide hnm
    clear hjt hnm
    obtain ⟨k, hk⟩ : ∃ k, k = i + j := ⟨_, rfl⟩
    rw [← hk] at hj ⊢
    have HK := hide hk
    have hik : i ≤ k := by omega
    have hjk : j ≤ k := by omega
    clear hk
    by_cases hlt : k < s.size
    · have hbk : (s.data.toList.drop i)[j]? = some s[k] := by
        have := byte_at s i j (by rw [← HK.out]; exact hlt)
        rw [this]
        congr 1
        have hk2 := HK.out
        subst hk2
        rfl
      have HBK := hide hbk
      clear hbk
      obtain ⟨c, hc⟩ : ∃ c, c = s[k] := ⟨_, rfl⟩
      rw [← hc] at HBK
      have HC := hide hc
      have yes : isSign c = true → (0 < j ∨ isLetter c = true) → (∀ m : Nat, m = k + 1 → ∃ j', i + j' ≤ s.size ∧ (Value.int .i64 ((j + 1 : Nat) : Int)) = .int .i64 (j' : Int) ∧ (Value.int .i64 (m : Int)) = .int .i64 ((i + j' : Nat) : Int) ∧ j' ≤ ((s.data.toList.drop i).takeWhile isSign).length ∧ (0 < j' → nameAt s i = ((s.data.toList.drop i).takeWhile isSign).length)) := by
        intro h1 h2 m hm
        refine ⟨j + 1, by have := HK.out; omega, rfl, by rw [hm, show i + (j + 1) = k + 1 by have := HK.out; omega], tw_step HJ.out HBK.out h1, fun _ => ?_⟩
        rcases Nat.eq_zero_or_pos j with e | e
        · subst e
          rcases h2 with h2 | h2
          · omega
          · exact nameLen_letter HBK.out h2
        · exact HNM.out e
      have no : (isSign c = false ∨ (j = 0 ∧ isLetter c = false)) → (j : Int) = (nameAt s i : Int) := by
        intro h1
        rcases Nat.eq_zero_or_pos j with e | e
        · subst e
          have hl : isLetter c = false := by
            rcases h1 with h1 | ⟨_, h1⟩
            · cases hx : isLetter c with
              | false => rfl
              | true => rw [isSign_of hx] at h1; cases h1
            · exact h1
          have := nameLen_none HBK.out hl
          unfold nameAt
          rw [this]
        · rcases h1 with h1 | ⟨h1, _⟩
          · have := tw_end HJ.out (.inr ⟨_, HBK.out, h1⟩)
            rw [HNM.out e, this]
          · omega
      have YES := hide yes
      have NO := hide no
      clear yes no
      have hsk : s[k].toNat = c.toNat := by rw [hc]
      have HSK := hide hsk
      clear hc hsk
      have hne : (k : Int) + 1 = ((k + 1 : Nat) : Int) := by omega
      obtain ⟨x, hx⟩ : ∃ x : Int, x = (c.toNat : Int) := ⟨_, rfl⟩
      have hx' : x = (s[k].toNat : Int) := by rw [hx, HSK.out]
      have HX := hide hx
      have SG : isSign c = decide ((97 ≤ x ∧ x ≤ 122) ∨ (48 ≤ x ∧ x ≤ 57) ∨ x = 95) := by
        rw [HX.out, Bool.eq_iff_iff]
        simp [isSign, isLetter]
        omega
      have LT : isLetter c = decide (97 ≤ x ∧ x ≤ 122) := by
        rw [HX.out, Bool.eq_iff_iff]
        simp [isLetter]
        omega
      have HSG := hide SG
      have HLT := hide LT
      have HX' := hide hx'
      clear SG LT hx hx' hne
      by_cases a1 : (97 : Int) ≤ (s[k].toNat : Int)
      · by_cases a2 : (s[k].toNat : Int) ≤ 122
        · go_wp2_with fail
          go_round
          case rel =>
            have hs : isSign c = true := by rw [HSG.out, HX'.out, decide_eq_true_eq]; omega
            have hl : isLetter c = true := by rw [HLT.out, HX'.out, decide_eq_true_eq]; omega
            obtain ⟨j', q1, q2, q3, q4⟩ := YES.out hs (.inr hl) (k + 1) rfl
            exact ⟨j', q1, by rw [← q2]; go_num, by rw [← q3]; go_num, q4⟩
          case measure => simp [intOf]; omega
        · have hs : isSign c = false := by rw [HSG.out, HX'.out, decide_eq_false_iff_not]; omega
          have hres := NO.out (.inl hs)
          have HRES := hide hres
          clear hs hres
          have z95 : ((s[k].toNat : Int) == 95) = false := by simp; omega
          have z95' : ((s[k].toNat : Int) != 95) = true := by simp; omega
          have z57 : (57 : Int) < (s[k].toNat : Int) := by omega
          have z48 : (48 : Int) ≤ (s[k].toNat : Int) := by omega
          cases hj0 : ((j : Int) == 0) with
          | true =>
            go_wp2_with fail
            go_ret
            exact ⟨ret_int HRES.out, rfl⟩
          | false =>
            go_wp2_with fail
            go_ret
            exact ⟨ret_int HRES.out, rfl⟩
      · cases hj0 : ((j : Int) == 0) with
        | true =>
          have hl : isLetter c = false := by rw [HLT.out, HX'.out, decide_eq_false_iff_not]; omega
          have hres := NO.out (.inr ⟨by have : (j : Int) = 0 := by simpa using hj0
                                        omega, hl⟩)
          have HRES := hide hres
          clear hl hres
          go_wp2_with fail
          go_ret
          exact ⟨ret_int HRES.out, rfl⟩
        | false =>
          have hjp : 0 < j := by
            rcases Nat.eq_zero_or_pos j with e | e
            · subst e; simp at hj0
            · exact e
          have HJP := hide hjp
          clear hjp
          cases z95 : ((s[k].toNat : Int) == 95) with
          | true =>
            have hs : isSign c = true := by
              have : (s[k].toNat : Int) = 95 := by simpa using z95
              rw [HSG.out, HX'.out, decide_eq_true_eq]; omega
            have z95' : ((s[k].toNat : Int) != 95) = false := by simpa using z95
            have hY := YES.out hs (.inl HJP.out) (k + 1) rfl
            have HY := hide hY
            clear hs hY
            go_wp2_with fail
            go_round
            case rel =>
              obtain ⟨j', q1, q2, q3, q4⟩ := HY.out
              exact ⟨j', q1, by rw [← q2]; go_num, by rw [← q3]; go_num, q4⟩
            case measure => simp [intOf]; omega
          | false =>
            have z95' : ((s[k].toNat : Int) != 95) = true := by simpa using z95
            have hn95 : ¬ (s[k].toNat : Int) = 95 := by simpa using z95
            have HN95 := hide hn95
            clear hn95
            by_cases a3 : (48 : Int) ≤ (s[k].toNat : Int)
            · by_cases a4 : (s[k].toNat : Int) ≤ 57
              · have hs : isSign c = true := by rw [HSG.out, HX'.out, decide_eq_true_eq]; omega
                have hY := YES.out hs (.inl HJP.out) (k + 1) rfl
                have HY := hide hY
                clear hs hY
                go_wp2_with fail
                go_round
                case rel =>
                  obtain ⟨j', q1, q2, q3, q4⟩ := HY.out
                  exact ⟨j', q1, by rw [← q2]; go_num, by rw [← q3]; go_num, q4⟩
                case measure => simp [intOf]; omega
              · have hs : isSign c = false := by have := HN95.out; rw [HSG.out, HX'.out, decide_eq_false_iff_not]; omega
                have hres := NO.out (.inl hs)
                have HRES := hide hres
                clear hs hres
                go_wp2_with fail
                go_ret
                exact ⟨ret_int HRES.out, rfl⟩
            · have hs : isSign c = false := by have := HN95.out; rw [HSG.out, HX'.out, decide_eq_false_iff_not]; omega
              have hres := NO.out (.inl hs)
              have HRES := hide hres
              clear hs hres
              go_wp2_with fail
              go_ret
              exact ⟨ret_int HRES.out, rfl⟩
    · obtain rfl : k = s.size := by omega
      have he := tw_end HJ.out (.inl (by rw [HLEN.out]; have := HK.out; omega))
      have HE := hide he
      clear he
      go_wp2_with fail
      go_ret
      refine ⟨ret_int ?_, rfl⟩
      rcases Nat.eq_zero_or_pos j with e | e
      · subst e
        have : i = s.size := by have := HK.out; omega
        subst this
        unfold nameAt
        rw [List.drop_of_length_le (by rw [Array.length_toList]; exact Nat.le_refl _)]
        rfl
      · rw [HNM.out e, HE.out]
end Go.Proofs.Ytpjlhpaenmfieaa
