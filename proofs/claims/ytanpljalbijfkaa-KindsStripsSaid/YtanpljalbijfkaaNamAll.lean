/- What names may be, plain. -/
import Derived.Test.YtanpljalbijfkaaBase
import Derived.Test.YtanpljalbijfkaaRows
import Derived.Lib.Strings
namespace Go.Proofs.Ytanpljalbijfkaa
open Go.RowKit

def isLetter (c : UInt8) : Bool := decide (97 ≤ c.toNat ∧ c.toNat ≤ 122)
def isSign (c : UInt8) : Bool := isLetter c || decide (48 ≤ c.toNat ∧ c.toNat ≤ 57) || decide (c.toNat = 95)
theorem isSign_of {c : UInt8} (h : isLetter c = true) : isSign c = true := by simp [isSign, h]

/-- How many signs of a name a text begins with. -/
def nameLen : List UInt8 → Nat
  | [] => 0
  | c :: l => if isLetter c then ((c :: l).takeWhile isSign).length else 0
theorem nameLen_le (l : List UInt8) : nameLen l ≤ l.length := by
  cases l with
  | nil => simp [nameLen]
  | cons c l =>
    rw [nameLen]
    by_cases h : isLetter c = true
    · rw [if_pos h]; exact (List.takeWhile_prefix isSign).length_le
    · rw [if_neg h]; exact Nat.zero_le _

theorem tw_step {l : List UInt8} {j : Nat} {c : UInt8} (h : j ≤ (l.takeWhile isSign).length) (hc : l[j]? = some c) (hs : isSign c = true) : j + 1 ≤ (l.takeWhile isSign).length := by
  induction l generalizing j with
  | nil => simp at hc
  | cons d l ih =>
    rw [List.takeWhile_cons] at h ⊢
    by_cases hd : isSign d = true
    · rw [if_pos hd] at h ⊢
      cases j with
      | zero => simp
      | succ j =>
        have := ih (j := j) (by simpa using h) (by simpa using hc)
        simpa using this
    · rw [if_neg hd] at h
      have : j = 0 := by simpa using h
      subst this
      simp at hc
      subst hc
      exact absurd hs hd
theorem tw_end {l : List UInt8} {j : Nat} (h : j ≤ (l.takeWhile isSign).length) (he : l.length ≤ j ∨ ∃ c, l[j]? = some c ∧ isSign c = false) : (l.takeWhile isSign).length = j := by
  induction l generalizing j with
  | nil => simp at h ⊢; omega
  | cons d l ih =>
    rw [List.takeWhile_cons] at h ⊢
    by_cases hd : isSign d = true
    · rw [if_pos hd] at h ⊢
      cases j with
      | zero =>
        rcases he with he | ⟨c, hc, hs⟩
        · simp at he
        · simp at hc; subst hc; rw [hs] at hd; cases hd
      | succ j =>
        have := ih (j := j) (by simpa using h) (by
          rcases he with he | ⟨c, hc, hs⟩
          · left; simpa using he
          · right; exact ⟨c, by simpa using hc, hs⟩)
        simpa using this
    · rw [if_neg hd] at h ⊢
      have : j = 0 := by simpa using h
      subst this
      rfl
theorem nameLen_letter {l : List UInt8} {c : UInt8} (h : l[0]? = some c) (hc : isLetter c = true) : nameLen l = (l.takeWhile isSign).length := by
  cases l with
  | nil => simp at h
  | cons d l => simp at h; subst h; rw [nameLen, if_pos hc]
theorem nameLen_none {l : List UInt8} {c : UInt8} (h : l[0]? = some c) (hc : isLetter c = false) : nameLen l = 0 := by
  cases l with
  | nil => simp at h
  | cons d l => simp at h; subst h; rw [nameLen, if_neg (by rw [hc]; exact Bool.false_ne_true)]

def nameAt (s : ByteArray) (i : Nat) : Nat := nameLen (s.data.toList.drop i)
theorem nameAt_le (s : ByteArray) (i : Nat) (h : i ≤ s.size) : i + nameAt s i ≤ s.size := by
  have := nameLen_le (s.data.toList.drop i)
  have e : s.data.toList.length = s.size := by rw [Array.length_toList]; rfl
  rw [List.length_drop, e] at this
  unfold nameAt
  omega
theorem byte_at (s : ByteArray) (i j : Nat) (h : i + j < s.size) : (s.data.toList.drop i)[j]? = some s[i + j] := by
  rw [List.getElem?_drop]
  have h' : i + j < s.data.toList.length := by rw [Array.length_toList]; exact h
  rw [List.getElem?_eq_getElem h']
  rfl

/-- Is a text a name? -/
def rightB (s : ByteArray) : Bool := decide (0 < s.size ∧ nameAt s 0 = s.size ∧ s.size ≤ 32)
end Go.Proofs.Ytanpljalbijfkaa
/- names: letter, sign, Take, Right. -/
namespace Go.Proofs.Ytanpljalbijfkaa
open Go.RowKit

set_option maxHeartbeats 1000000 in
theorem letter_any (c : UInt8) (w : World) : Calls Try.prog 49 #[.int .u8 c.toNat] w (fun e w' => e = .returned (.bool (isLetter c)) ∧ w = w') := by
  unfold isLetter
  by_cases h1 : (97 : Int) ≤ (c.toNat : Int) <;> by_cases h2 : (c.toNat : Int) ≤ 122
  all_goals
    go_enter Try.func49, Try.ntmps49
    go_wp2_with fail
    go_ret
    exact ⟨ret_bool (by simp; omega), rfl⟩

set_option maxHeartbeats 1000000 in
theorem sign_any (c : UInt8) (w : World) : Calls Try.prog 50 #[.int .u8 c.toNat] w (fun e w' => e = .returned (.bool (isSign c)) ∧ w = w') := by
  obtain ⟨b, hb⟩ : ∃ b, b = isLetter c := ⟨_, rfl⟩
  have HC := hide (letter_any c w)
  rw [← hb] at HC
  have hs : isSign c = (b || decide (48 ≤ c.toNat ∧ c.toNat ≤ 57) || decide (c.toNat = 95)) := by rw [hb]; rfl
  rw [hs]
  clear hs hb
  cases b with
  | true =>
    go_enter Try.func50, Try.ntmps50
    go_wp2_with (go_at_call 49; with_reducible refine HC.out.mono ?_; rintro e w' ⟨rfl, rfl⟩)
    go_ret
    exact ⟨rfl, rfl⟩
  | false =>
    have key : ∀ z : Bool, decide (c.toNat = 95) = z → Calls Try.prog 50 #[.int .u8 c.toNat] w (fun e w' => e = .returned (.bool (false || decide (48 ≤ c.toNat ∧ c.toNat ≤ 57) || z)) ∧ w = w') := by
      intro z hz
      have h4 : ((c.toNat : Int) == 95) = z := by rw [← hz, Bool.eq_iff_iff]; simp; omega
      clear hz
      generalize hm : (c.toNat : Int) = m at HC h4
      rw [← hm] at HC h4 ⊢
      by_cases h1 : (48 : Int) ≤ (c.toNat : Int) <;> by_cases h2 : (c.toNat : Int) ≤ 57 <;> cases z
      all_goals
        clear hm
        go_enter Try.func50, Try.ntmps50
        go_wp2_with (go_at_call 49; with_reducible refine HC.out.mono ?_; rintro e w' ⟨rfl, rfl⟩)
        all_goals
          go_ret
          exact ⟨ret_bool (by first | (simp; done) | (simp; omega) | (rw [Bool.eq_iff_iff]; simp; omega)), rfl⟩
    exact key _ rfl

theorem extract_none (s : ByteArray) (i : Nat) : s.extract i i = ⟨#[]⟩ := by
  have : (s.extract i i).data = #[] := by simp
  cases h : s.extract i i
  rw [h] at this
  exact congrArg _ this
def TakePost (s : ByteArray) (i : Nat) (w : World) (e : Ending) (w' : World) : Prop := e = .returned (.tuple #[.string (s.extract i (i + nameAt s i)), .int .i64 ((i + nameAt s i : Nat) : Int)]) ∧ w = w'

set_option maxRecDepth 100000 in
set_option maxHeartbeats 1000000 in
theorem take_out (s : ByteArray) (i : Int) (w : World) (hs : s.size ≤ maxLen) (h : i < 0 ∨ (s.size : Int) ≤ i) :
    Calls Try.prog 45 #[.string s, .int .i64 i] w (fun e w' => e = .returned (.tuple #[.string ⟨#[]⟩, .int .i64 0]) ∧ w = w') := by
  unfold maxLen at hs
  by_cases h0 : i < 0
  · go_enter Try.func45, Try.ntmps45
    go_wp2_with fail
    go_ret2
    exact ⟨rfl, rfl⟩
  · have h1 : (s.size : Int) ≤ i := by omega
    clear h
    go_enter Try.func45, Try.ntmps45
    go_wp2_with fail
    go_ret2
    exact ⟨rfl, rfl⟩

set_option maxRecDepth 100000 in
set_option maxHeartbeats 1000000 in
theorem take_in (s : ByteArray) (i : Nat) (w : World) (hs : s.size ≤ maxLen) (h : i < s.size) :
    Calls Try.prog 45 #[.string s, .int .i64 i] w (TakePost s i w) := by
  unfold maxLen at hs
  have HL := hide (letter_any s[i] w)
  have hb := byte_at s i 0 (by omega)
  have hlen : (s.data.toList.drop i).length = s.size - i := by rw [List.length_drop, Array.length_toList]; rfl
  cases hl : isLetter s[i] with
  | false =>
    have hn : nameAt s i = 0 := nameLen_none hb hl
    rw [hl] at HL
    have HN := hide hn
    clear hb hl hn hlen
    go_enter Try.func45, Try.ntmps45
    go_wp2_with (go_at_call 49; with_reducible refine HL.out.mono ?_; rintro e w' ⟨rfl, rfl⟩)
    go_ret2
    unfold TakePost
    rw [HN.out]
    refine ⟨?_, rfl⟩
    show Ending.returned (.tuple #[.string ⟨#[]⟩, .int .i64 (i : Int)]) = _
    rw [Nat.add_zero, extract_none]
  | true =>
    have hn : nameAt s i = ((s.data.toList.drop i).takeWhile isSign).length := nameLen_letter hb hl
    have hge : 0 ≤ ((s.data.toList.drop i).takeWhile isSign).length := Nat.zero_le _
    rw [hl] at HL
    have HN := hide hn
    have HLEN := hide hlen
    clear hb hl hn hlen hge
    go_enter Try.func45, Try.ntmps45
    go_wp2_with (go_at_call 49; with_reducible refine HL.out.mono ?_; rintro e w' ⟨rfl, rfl⟩)
    go_loop [5] (fun e => ∃ j : Nat, i + j ≤ s.size ∧ e = .int .i64 ((i + j : Nat) : Int) ∧ j ≤ ((s.data.toList.drop i).takeWhile isSign).length) (fun e => s.size - (intOf e).toNat)
    case atStart => exact ⟨0, by omega, rfl, Nat.zero_le _⟩
    case round =>
      obtain ⟨j, hj, rfl, hjt⟩ := hrel
      have HJ := hide hjt
      clear hjt
      obtain ⟨k, hk⟩ : ∃ k, k = i + j := ⟨_, rfl⟩
      rw [← hk] at hj ⊢
      have HK := hide hk
      have hik : i ≤ k := by omega
      clear hk
      by_cases hlt : k < s.size
      · have HS := hide (sign_any s[k] w)
        have hbk : (s.data.toList.drop i)[j]? = some s[k] := by
          have := byte_at s i j (by rw [← HK.out]; exact hlt)
          rw [this]
          congr 1
          have hk2 := HK.out
          subst hk2
          rfl
        have HBK := hide hbk
        clear hbk
        cases hz : isSign s[k] with
        | true =>
          rw [hz] at HS
          have HZ := hide hz
          clear hz
          go_wp2_with (go_at_call 50; with_reducible refine HS.out.mono ?_; rintro e w' ⟨rfl, rfl⟩)
          go_round
          case rel => exact ⟨j + 1, by have := HK.out; omega, by rw [show i + (j + 1) = k + 1 by have := HK.out; omega]; go_num, tw_step HJ.out HBK.out HZ.out⟩
          case measure => simp [intOf]; omega
        | false =>
          rw [hz] at HS
          have he := tw_end HJ.out (.inr ⟨_, HBK.out, hz⟩)
          have HE := hide (HN.out.trans he)
          clear hz he
          go_wp2_with (go_at_call 50; with_reducible refine HS.out.mono ?_; rintro e w' ⟨rfl, rfl⟩)
          go_ret2
          unfold TakePost
          rw [HE.out, ← HK.out]
          exact ⟨rfl, rfl⟩
      · obtain rfl : k = s.size := by omega
        have he := tw_end HJ.out (.inl (by rw [HLEN.out]; have := HK.out; omega))
        have HE := hide (HN.out.trans he)
        clear he
        go_wp2_with fail
        go_ret2
        unfold TakePost
        rw [HE.out, ← HK.out]
        exact ⟨rfl, rfl⟩
end Go.Proofs.Ytanpljalbijfkaa
/- names.Right; the document's Signs, Right. -/
namespace Go.Proofs.Ytanpljalbijfkaa
open Go.RowKit

theorem str_nil (s : ByteArray) : s.toList = [] ↔ s.size = 0 := by
  rw [Lib.toList_data]
  constructor
  · intro h
    have := congrArg List.length h
    rw [Array.length_toList] at this
    exact this
  · intro h
    exact List.eq_nil_of_length_eq_zero (by rw [Array.length_toList]; exact h)
theorem str_ne {s : ByteArray} (h : 0 < s.size) : s.toList.isEmpty = false := by
  cases hx : s.toList.isEmpty with
  | false => rfl
  | true => rw [List.isEmpty_iff, str_nil] at hx; omega
theorem str_ne' {s : ByteArray} (h : 0 < s.size) : ¬ s.toList = [] := fun hx => by rw [str_nil] at hx; omega
theorem str_empty {s : ByteArray} (h : s.size = 0) : s = ⟨#[]⟩ := by
  cases s with
  | mk d => congr 1; exact Array.eq_empty_of_size_eq_zero h

set_option maxRecDepth 100000 in
set_option maxHeartbeats 1000000 in
theorem right_any (s : ByteArray) (w : World) (hs : s.size ≤ maxLen) :
    Calls Try.prog 35 #[.string s] w (fun e w' => e = .returned (.bool (rightB s)) ∧ w = w') := by
  by_cases h0 : 0 < s.size
  · have HT := hide (show Calls Try.prog 45 #[.string s, .int .i64 0] w (TakePost s 0 w) from take_in s 0 w hs h0)
    have hle := nameAt_le s 0 (by omega)
    unfold maxLen at hs
    obtain ⟨n, hn⟩ : ∃ n, n = nameAt s 0 := ⟨_, rfl⟩
    unfold TakePost at HT
    rw [Nat.zero_add, ← hn] at HT
    rw [Nat.zero_add, ← hn] at hle
    have HN := hide hn
    clear hn
    have hb : rightB s = (decide (n = s.size) && decide (n ≤ 32)) := by
      rw [Bool.eq_iff_iff]
      simp [rightB, ← HN.out]
      omega
    rw [hb]
    clear hb
    have e1 := str_ne h0
    have e2 := str_ne' h0
    go_enter Try.func35, Try.ntmps35
    go_wp2_with (go_at_call 45; with_reducible refine HT.out.mono ?_; rintro e w' ⟨rfl, rfl⟩)
    all_goals
      go_ret
      exact ⟨ret_bool (by rw [Bool.eq_iff_iff]; simp; omega), rfl⟩
  · obtain rfl := str_empty (s := s) (by omega)
    have HT := hide (take_out ⟨#[]⟩ 0 w hs (.inr (by decide)))
    have hb : rightB ⟨#[]⟩ = false := by decide
    rw [hb]
    clear hb h0
    go_enter Try.func35, Try.ntmps35
    go_wp2_with (go_at_call 45; with_reducible refine HT.out.mono ?_; rintro e w' ⟨rfl, rfl⟩)
    go_ret
    exact ⟨rfl, rfl⟩

set_option maxRecDepth 100000 in
set_option maxHeartbeats 2000000 in
theorem signs_any (s : ByteArray) (i : Nat) (w : World) (hs : s.size ≤ maxLen) (h : i ≤ s.size) :
    Calls Try.prog 36 #[.string s, .int .i64 i] w (fun e w' => e = .returned (.int .i64 (nameAt s i)) ∧ w = w') := by
  unfold maxLen at hs
  have hlen : (s.data.toList.drop i).length = s.size - i := by rw [List.length_drop, Array.length_toList]; rfl
  have HLEN := hide hlen
  clear hlen
  go_enter Try.func36, Try.ntmps36
  go_wp2_with fail
  go_loop [5, 6] (fun n e => ∃ j : Nat, i + j ≤ s.size ∧ n = .int .i64 (j : Int) ∧ e = .int .i64 ((i + j : Nat) : Int) ∧ j ≤ ((s.data.toList.drop i).takeWhile isSign).length ∧ (0 < j → nameAt s i = ((s.data.toList.drop i).takeWhile isSign).length)) (fun _ e => s.size - (intOf e).toNat)
  case atStart => exact ⟨0, by omega, rfl, rfl, Nat.zero_le _, fun h => absurd h (by omega)⟩
  case round =>
    obtain ⟨j, hj, rfl, rfl, hjt, hnm⟩ := hrel
    have HJ := hide hjt
    have HNM := hide hnm
    clear hjt hnm
    obtain ⟨k, hk⟩ : ∃ k, k = i + j := ⟨_, rfl⟩
    rw [← hk] at hj ⊢
    have HK := hide hk
    have hik : i ≤ k := by omega
    have hjk : j ≤ k := by omega
    clear hk
    by_cases hlt : k < s.size
    · have hbk : (s.data.toList.drop i)[j]? = some s[k] := by
        have := byte_at s i j (by rw [← HK.out]; exact hlt)
        rw [this]
        congr 1
        have hk2 := HK.out
        subst hk2
        rfl
      have HBK := hide hbk
      clear hbk
      obtain ⟨c, hc⟩ : ∃ c, c = s[k] := ⟨_, rfl⟩
      rw [← hc] at HBK
      have HC := hide hc
      have yes : isSign c = true → (0 < j ∨ isLetter c = true) → (∀ m : Nat, m = k + 1 → ∃ j', i + j' ≤ s.size ∧ (Value.int .i64 ((j + 1 : Nat) : Int)) = .int .i64 (j' : Int) ∧ (Value.int .i64 (m : Int)) = .int .i64 ((i + j' : Nat) : Int) ∧ j' ≤ ((s.data.toList.drop i).takeWhile isSign).length ∧ (0 < j' → nameAt s i = ((s.data.toList.drop i).takeWhile isSign).length)) := by
        intro h1 h2 m hm
        refine ⟨j + 1, by have := HK.out; omega, rfl, by rw [hm, show i + (j + 1) = k + 1 by have := HK.out; omega], tw_step HJ.out HBK.out h1, fun _ => ?_⟩
        rcases Nat.eq_zero_or_pos j with e | e
        · subst e
          rcases h2 with h2 | h2
          · omega
          · exact nameLen_letter HBK.out h2
        · exact HNM.out e
      have no : (isSign c = false ∨ (j = 0 ∧ isLetter c = false)) → (j : Int) = (nameAt s i : Int) := by
        intro h1
        rcases Nat.eq_zero_or_pos j with e | e
        · subst e
          have hl : isLetter c = false := by
            rcases h1 with h1 | ⟨_, h1⟩
            · cases hx : isLetter c with
              | false => rfl
              | true => rw [isSign_of hx] at h1; cases h1
            · exact h1
          have := nameLen_none HBK.out hl
          unfold nameAt
          rw [this]
        · rcases h1 with h1 | ⟨h1, _⟩
          · have := tw_end HJ.out (.inr ⟨_, HBK.out, h1⟩)
            rw [HNM.out e, this]
          · omega
      have YES := hide yes
      have NO := hide no
      clear yes no
      have hsk : s[k].toNat = c.toNat := by rw [hc]
      have HSK := hide hsk
      clear hc hsk
      have hne : (k : Int) + 1 = ((k + 1 : Nat) : Int) := by omega
      obtain ⟨x, hx⟩ : ∃ x : Int, x = (c.toNat : Int) := ⟨_, rfl⟩
      have hx' : x = (s[k].toNat : Int) := by rw [hx, HSK.out]
      have HX := hide hx
      have SG : isSign c = decide ((97 ≤ x ∧ x ≤ 122) ∨ (48 ≤ x ∧ x ≤ 57) ∨ x = 95) := by
        rw [HX.out, Bool.eq_iff_iff]
        simp [isSign, isLetter]
        omega
      have LT : isLetter c = decide (97 ≤ x ∧ x ≤ 122) := by
        rw [HX.out, Bool.eq_iff_iff]
        simp [isLetter]
        omega
      have HSG := hide SG
      have HLT := hide LT
      have HX' := hide hx'
      clear SG LT hx hx' hne
      by_cases a1 : (97 : Int) ≤ (s[k].toNat : Int)
      · by_cases a2 : (s[k].toNat : Int) ≤ 122
        · go_wp2_with fail
          go_round
          case rel =>
            have hs : isSign c = true := by rw [HSG.out, HX'.out, decide_eq_true_eq]; omega
            have hl : isLetter c = true := by rw [HLT.out, HX'.out, decide_eq_true_eq]; omega
            obtain ⟨j', q1, q2, q3, q4⟩ := YES.out hs (.inr hl) (k + 1) rfl
            exact ⟨j', q1, by rw [← q2]; go_num, by rw [← q3]; go_num, q4⟩
          case measure => simp [intOf]; omega
        · have hs : isSign c = false := by rw [HSG.out, HX'.out, decide_eq_false_iff_not]; omega
          have hres := NO.out (.inl hs)
          have HRES := hide hres
          clear hs hres
          have z95 : ((s[k].toNat : Int) == 95) = false := by simp; omega
          have z95' : ((s[k].toNat : Int) != 95) = true := by simp; omega
          have z57 : (57 : Int) < (s[k].toNat : Int) := by omega
          have z48 : (48 : Int) ≤ (s[k].toNat : Int) := by omega
          cases hj0 : ((j : Int) == 0) with
          | true =>
            go_wp2_with fail
            go_ret
            exact ⟨ret_int HRES.out, rfl⟩
          | false =>
            go_wp2_with fail
            go_ret
            exact ⟨ret_int HRES.out, rfl⟩
      · cases hj0 : ((j : Int) == 0) with
        | true =>
          have hl : isLetter c = false := by rw [HLT.out, HX'.out, decide_eq_false_iff_not]; omega
          have hres := NO.out (.inr ⟨by have : (j : Int) = 0 := by simpa using hj0
                                        omega, hl⟩)
          have HRES := hide hres
          clear hl hres
          go_wp2_with fail
          go_ret
          exact ⟨ret_int HRES.out, rfl⟩
        | false =>
          have hjp : 0 < j := by
            rcases Nat.eq_zero_or_pos j with e | e
            · subst e; simp at hj0
            · exact e
          have HJP := hide hjp
          clear hjp
          cases z95 : ((s[k].toNat : Int) == 95) with
          | true =>
            have hs : isSign c = true := by
              have : (s[k].toNat : Int) = 95 := by simpa using z95
              rw [HSG.out, HX'.out, decide_eq_true_eq]; omega
            have z95' : ((s[k].toNat : Int) != 95) = false := by simpa using z95
            have hY := YES.out hs (.inl HJP.out) (k + 1) rfl
            have HY := hide hY
            clear hs hY
            go_wp2_with fail
            go_round
            case rel =>
              obtain ⟨j', q1, q2, q3, q4⟩ := HY.out
              exact ⟨j', q1, by rw [← q2]; go_num, by rw [← q3]; go_num, q4⟩
            case measure => simp [intOf]; omega
          | false =>
            have z95' : ((s[k].toNat : Int) != 95) = true := by simpa using z95
            have hn95 : ¬ (s[k].toNat : Int) = 95 := by simpa using z95
            have HN95 := hide hn95
            clear hn95
            by_cases a3 : (48 : Int) ≤ (s[k].toNat : Int)
            · by_cases a4 : (s[k].toNat : Int) ≤ 57
              · have hs : isSign c = true := by rw [HSG.out, HX'.out, decide_eq_true_eq]; omega
                have hY := YES.out hs (.inl HJP.out) (k + 1) rfl
                have HY := hide hY
                clear hs hY
                go_wp2_with fail
                go_round
                case rel =>
                  obtain ⟨j', q1, q2, q3, q4⟩ := HY.out
                  exact ⟨j', q1, by rw [← q2]; go_num, by rw [← q3]; go_num, q4⟩
                case measure => simp [intOf]; omega
              · have hs : isSign c = false := by have := HN95.out; rw [HSG.out, HX'.out, decide_eq_false_iff_not]; omega
                have hres := NO.out (.inl hs)
                have HRES := hide hres
                clear hs hres
                go_wp2_with fail
                go_ret
                exact ⟨ret_int HRES.out, rfl⟩
            · have hs : isSign c = false := by have := HN95.out; rw [HSG.out, HX'.out, decide_eq_false_iff_not]; omega
              have hres := NO.out (.inl hs)
              have HRES := hide hres
              clear hs hres
              go_wp2_with fail
              go_ret
              exact ⟨ret_int HRES.out, rfl⟩
    · obtain rfl : k = s.size := by omega
      have he := tw_end HJ.out (.inl (by rw [HLEN.out]; have := HK.out; omega))
      have HE := hide he
      clear he
      go_wp2_with fail
      go_ret
      refine ⟨ret_int ?_, rfl⟩
      rcases Nat.eq_zero_or_pos j with e | e
      · subst e
        have : i = s.size := by have := HK.out; omega
        subst this
        unfold nameAt
        rw [List.drop_of_length_le (by rw [Array.length_toList]; exact Nat.le_refl _)]
        rfl
      · rw [HNM.out e, HE.out]
end Go.Proofs.Ytanpljalbijfkaa
/- The document's Right; lists of texts in memory; the first place of a text, the first text that stands twice, plain. -/
namespace Go.Proofs.Ytanpljalbijfkaa
open Go.RowKit

set_option maxRecDepth 100000 in
set_option maxHeartbeats 1000000 in
theorem refRight_any (s : ByteArray) (w : World) (hs : s.size ≤ maxLen) :
    Calls Try.prog 20 #[.string s] w (fun e w' => e = .returned (.bool (rightB s)) ∧ w = w') := by
  have HS := hide (show Calls Try.prog 36 #[.string s, .int .i64 0] w _ from signs_any s 0 w hs (Nat.zero_le _))
  have hle := nameAt_le s 0 (by omega)
  unfold maxLen at hs
  obtain ⟨n, hn⟩ : ∃ n, n = nameAt s 0 := ⟨_, rfl⟩
  rw [← hn] at HS
  rw [Nat.zero_add, ← hn] at hle
  have hb : rightB s = (decide (0 < s.size) && decide (s.size < 33) && decide (n = s.size)) := by
    rw [Bool.eq_iff_iff]
    simp [rightB, ← hn]
    omega
  rw [hb]
  clear hb hn
  by_cases h0 : 0 < s.size
  · by_cases h1 : s.size < 33
    · go_enter Try.func20, Try.ntmps20
      go_wp2_with (go_at_call 36; with_reducible refine HS.out.mono ?_; rintro e w' ⟨rfl, rfl⟩)
      all_goals
        go_ret
        exact ⟨ret_bool (by rw [Bool.eq_iff_iff]; simp; omega), rfl⟩
    · go_enter Try.func20, Try.ntmps20
      go_wp2_with fail
      all_goals
        go_ret
        exact ⟨ret_bool (by first | (simp; done) | (simp; omega)), rfl⟩
  · go_enter Try.func20, Try.ntmps20
    go_wp2_with fail
    all_goals
      go_ret
      exact ⟨ret_bool (by first | (simp; done) | (simp; omega)), rfl⟩

/-- The texts that a slice holds. -/
def strCells (l : List ByteArray) : List Value := l.map Value.string
theorem strCells_append (l m : List ByteArray) : strCells (l ++ m) = strCells l ++ strCells m := by simp [strCells]
def StrAt (w : World) (B : Nat) (A : Option Addr) (l : List ByteArray) : Prop := Reads w B 1 A l.length (strCells l)
theorem StrAt.cell {w : World} {B : Nat} {A : Option Addr} {l : List ByteArray} (h : StrAt w B A l) (hn : 0 < l.length) :
    ∃ b o, A = some ⟨b, o, none⟩ ∧ b < B ∧ ∀ k (hk : k < l.length), w.cell? ⟨b, o + k, none⟩ = some (.string l[k]) := by
  obtain ⟨b, o, e, hb, hc⟩ := h.form hn (Nat.lt_succ_self 0)
  exact ⟨b, o, e, hb, fun k hk => hc _ _ (by simp [strCells, hk])⟩
theorem StrAt.ext {w w' : World} {A : Option Addr} {l : List ByteArray} (h : StrAt w w.heap.size A l) (hE : Ext w w') : StrAt w' w'.heap.size A l :=
  (Reads.keep h fun _p hp => hE.cell hp).more hE.size

/-- The first place of a text; -1: it isn't there. -/
def findL (l : List ByteArray) (s : ByteArray) : Int := match l.findIdx? (fun x => decide (x = s)) with | some i => i | none => -1

theorem str_eq (a b : ByteArray) : (a.toList == b.toList) = decide (a = b) := by
  rw [Bool.eq_iff_iff, beq_iff_eq, decide_eq_true_eq, Lib.toList_data, Lib.toList_data]
  constructor
  · intro h
    cases a; cases b
    congr 1
    exact Array.toList_inj.1 h
  · intro h; rw [h]

theorem findIdx_hit {l : List ByteArray} {s : ByteArray} {k : Nat} (hk : k < l.length) (h : ∀ j (hj : j < l.length), j < k → l[j] ≠ s) (he : l[k] = s) : l.findIdx? (fun x => decide (x = s)) = some k := by
  rw [List.findIdx?_eq_some_iff_getElem]
  exact ⟨hk, by simpa using he, fun j hj => by simpa using h j (by omega) hj⟩
theorem findIdx_miss {l : List ByteArray} {s : ByteArray} (h : ∀ j (hj : j < l.length), l[j] ≠ s) : l.findIdx? (fun x => decide (x = s)) = none := by
  rw [List.findIdx?_eq_none_iff]
  intro x hx
  obtain ⟨j, hj, rfl⟩ := List.getElem_of_mem hx
  simpa using h j hj

/-- The least place of a text that stands earlier, too; -1: there is none. -/
def twiceP (l : List ByteArray) (i : Nat) : Bool := decide (findL l (l.getD i ⟨#[]⟩) < (i : Int))
def twiceL (l : List ByteArray) : Int := match (List.range l.length).find? (twiceP l) with | some i => (i : Int) | none => -1
theorem twice_hit {l : List ByteArray} {k : Nat} (hk : k < l.length) (h : ∀ j, j < k → twiceP l j = false) (he : twiceP l k = true) : twiceL l = k := by
  have : (List.range l.length).find? (twiceP l) = some k := by
    rw [List.find?_range_eq_some]
    exact ⟨he, by simpa using hk, fun j hj => by rw [h j hj]; rfl⟩
  unfold twiceL
  rw [this]
theorem twice_miss {l : List ByteArray} (h : ∀ j, j < l.length → twiceP l j = false) : twiceL l = -1 := by
  have : (List.range l.length).find? (twiceP l) = none := by
    rw [List.find?_eq_none]
    intro x hx
    rw [h x (List.mem_range.1 hx)]
    exact Bool.false_ne_true
  unfold twiceL
  rw [this]
theorem findL_bound (l : List ByteArray) (s : ByteArray) : -1 ≤ findL l s ∧ findL l s < l.length ∨ findL l s = -1 := by
  unfold findL
  cases h : l.findIdx? (fun x => decide (x = s)) with
  | none => right; rfl
  | some i =>
    left
    rw [List.findIdx?_eq_some_iff_getElem] at h
    obtain ⟨hi, _⟩ := h
    constructor
    · show (-1 : Int) ≤ (i : Int); omega
    · show (i : Int) < _; omega
end Go.Proofs.Ytanpljalbijfkaa
