/- Bounds of levels, plain: the best one of some, as the code and as the document find it. No program is named here. -/
namespace Go.Proofs.Ytpjlhpaenmfieaa.LatM

/-- 'At most' on n levels: each at most itself, in chains, no two at most one another. -/
structure Po (n : Nat) (M : Nat → Nat → Bool) : Prop where
  refl : ∀ a, a < n → M a a = true
  trans : ∀ a b c, a < n → b < n → c < n → M a b = true → M b c = true → M a c = true
  anti : ∀ a b, a < n → b < n → M a b = true → M b a = true → a = b
theorem Po.turn {n : Nat} {M : Nat → Nat → Bool} (h : Po n M) : Po n (fun a b => M b a) :=
  ⟨h.refl, fun a b c ha hb hc h1 h2 => h.trans c b a hc hb ha h2 h1, fun a b ha hb h1 h2 => h.anti a b ha hb h2 h1⟩

/-- Is a level the best of those that are in? -/
def isBest (n : Nat) (I : Nat → Bool) (M : Nat → Nat → Bool) (c : Nat) : Bool := I c && (List.range n).all fun d => !I d || M c d
theorem isBest_iff {n : Nat} {I : Nat → Bool} {M : Nat → Nat → Bool} {c : Nat} : isBest n I M c = true ↔ I c = true ∧ ∀ d, d < n → I d = true → M c d = true := by
  unfold isBest
  rw [Bool.and_eq_true, List.all_eq_true]
  constructor
  · rintro ⟨h1, h2⟩
    exact ⟨h1, fun d hd hi => by simpa [hi] using h2 d (List.mem_range.2 hd)⟩
  · rintro ⟨h1, h2⟩
    refine ⟨h1, fun d hd => ?_⟩
    cases hi : I d with
    | false => rfl
    | true => simp [h2 d (List.mem_range.1 hd) hi]
/-- The best of those that are in; -1: there is none. -/
def bestL (n : Nat) (I : Nat → Bool) (M : Nat → Nat → Bool) : Int := match (List.range n).find? (isBest n I M) with | some c => (c : Int) | none => -1
theorem bestL_hit {n : Nat} {I : Nat → Bool} {M : Nat → Nat → Bool} (h : Po n M) {c : Nat} (hc : c < n) (hb : isBest n I M c = true) : bestL n I M = c := by
  unfold bestL
  cases hf : (List.range n).find? (isBest n I M) with
  | none =>
    rw [List.find?_eq_none] at hf
    exact absurd hb (by simpa using hf c (List.mem_range.2 hc))
  | some d =>
    have hd := List.find?_some hf
    have hdn := List.mem_range.1 (List.mem_of_find?_eq_some hf)
    obtain ⟨h1, h2⟩ := isBest_iff.1 hb
    obtain ⟨h3, h4⟩ := isBest_iff.1 hd
    rw [h.anti d c hdn hc (h4 c hc h1) (h2 d hdn h3)]
theorem bestL_miss {n : Nat} {I : Nat → Bool} {M : Nat → Nat → Bool} (h : ∀ c, c < n → isBest n I M c = false) : bestL n I M = -1 := by
  unfold bestL
  have : (List.range n).find? (isBest n I M) = none := by
    rw [List.find?_eq_none]
    intro c hc
    simp [h c (List.mem_range.1 hc)]
  rw [this]
theorem bestL_cases (n : Nat) (I : Nat → Bool) (M : Nat → Nat → Bool) : bestL n I M = -1 ∨ ∃ c, c < n ∧ bestL n I M = (c : Int) ∧ isBest n I M c = true := by
  unfold bestL
  cases hf : (List.range n).find? (isBest n I M) with
  | none => exact .inl rfl
  | some d => exact .inr ⟨d, List.mem_range.1 (List.mem_of_find?_eq_some hf), rfl, List.find?_some hf⟩
/-- The document's way: the first one for which nothing speaks against it. -/
theorem bestL_first {n : Nat} {I : Nat → Bool} {M : Nat → Nat → Bool} {c : Nat} (hc : c < n) (hb : isBest n I M c = true) (h0 : ∀ j, j < c → isBest n I M j = false) : bestL n I M = c := by
  unfold bestL
  have : (List.range n).find? (isBest n I M) = some c := by
    rw [List.find?_range_eq_some]
    exact ⟨hb, List.mem_range.2 hc, fun j hj => by rw [h0 j hj]; rfl⟩
  rw [this]

/-- The code's first pass: the one that is held so far. -/
def pass (I : Nat → Bool) (M : Nat → Nat → Bool) : Nat → Int
  | 0 => -1
  | c + 1 => if I c = true ∧ (pass I M c = -1 ∨ M c (pass I M c).toNat = true) then (c : Int) else pass I M c
theorem pass_in {I : Nat → Bool} {M : Nat → Nat → Bool} (k : Nat) : pass I M k = -1 ∨ ∃ c : Nat, c < k ∧ pass I M k = c ∧ I c = true := by
  induction k with
  | zero => exact .inl rfl
  | succ k ih =>
    unfold pass
    split
    · next h => exact .inr ⟨k, by omega, rfl, h.1⟩
    · rcases ih with h | ⟨c, hc, h, hi⟩
      · exact .inl h
      · exact .inr ⟨c, by omega, h, hi⟩
theorem pass_best {n : Nat} {I : Nat → Bool} {M : Nat → Nat → Bool} (h : Po n M) {m : Nat} (hm : m < n) (hb : isBest n I M m = true) (k : Nat) (hk : k ≤ n) (hmk : m < k) : pass I M k = m := by
  obtain ⟨h1, h2⟩ := isBest_iff.1 hb
  induction k with
  | zero => omega
  | succ k ih =>
    unfold pass
    by_cases e : m = k
    · subst e
      rw [if_pos]
      refine ⟨h1, ?_⟩
      rcases pass_in (I := I) (M := M) m with h3 | ⟨c, hc, h3, hi⟩
      · exact .inl h3
      · right; rw [h3]; exact h2 c (by omega) hi
    · rw [ih (by omega) (by omega)]
      rw [if_neg]
      rintro ⟨h3, h4 | h4⟩
      · omega
      · rw [Int.toNat_natCast] at h4
        exact e (h.anti m k hm (by omega) (h2 k (by omega) h3) h4)
/-- The code's second pass: the one that is held is the best, or there is none. -/
theorem pass_end {n : Nat} {I : Nat → Bool} {M : Nat → Nat → Bool} (h : Po n M) (r : Int) (hr : r = pass I M n) :
    (r = -1 → bestL n I M = -1) ∧ (∀ c : Nat, r = c → c < n ∧ I c = true) ∧ ((∀ d : Nat, d < n → I d = true → M r.toNat d = true) → bestL n I M = r) ∧ (∀ d : Nat, d < n → I d = true → M r.toNat d = false → bestL n I M = -1) := by
  have hbest : ∀ c, c < n → isBest n I M c = true → r = c := fun c hc hb => by rw [hr]; exact pass_best h hc hb n (Nat.le_refl _) hc
  have hin := pass_in (I := I) (M := M) n
  rw [← hr] at hin
  refine ⟨fun e => bestL_miss fun c hc => ?_, fun c e => ?_, fun hd => ?_, fun d hd hi hf => bestL_miss fun c hc => ?_⟩
  · cases hb : isBest n I M c with
    | false => rfl
    | true => have := hbest c hc hb; omega
  · rcases hin with h1 | ⟨c', h1, h2, h3⟩
    · omega
    · obtain rfl : c = c' := by omega
      exact ⟨h1, h3⟩
  · rcases hin with h1 | ⟨c, h1, h2, h3⟩
    · rw [h1]
      refine bestL_miss fun c hc => ?_
      cases hb : isBest n I M c with
      | false => rfl
      | true => have := hbest c hc hb; omega
    · rw [h2] at hd ⊢
      exact bestL_hit h h1 (isBest_iff.2 ⟨h3, by simpa using hd⟩)
  · cases hb : isBest n I M c with
    | false => rfl
    | true =>
      have e := hbest c hc hb
      rw [e, Int.toNat_natCast] at hf
      rw [(isBest_iff.1 hb).2 d hd hi] at hf
      cases hf

/-- The join of two levels; -1: there is none. -/
def joinL (n : Nat) (M : Nat → Nat → Bool) (a b : Nat) : Int := bestL n (fun c => M a c && M b c) M
theorem joinL_comm (n : Nat) (M : Nat → Nat → Bool) (a b : Nat) : joinL n M a b = joinL n M b a := by
  unfold joinL
  have : (fun c => M a c && M b c) = fun c => M b c && M a c := funext fun c => Bool.and_comm ..
  rw [this]
theorem joinL_self {n : Nat} {M : Nat → Nat → Bool} (h : Po n M) {a : Nat} (ha : a < n) : joinL n M a a = a :=
  bestL_hit h ha (isBest_iff.2 ⟨by simp [h.refl a ha], fun d _ hi => by simpa using hi⟩)
/-- What a join is. -/
theorem joinL_iff {n : Nat} {M : Nat → Nat → Bool} (h : Po n M) {a b j : Nat} (ha : a < n) (hb : b < n) (hj : j < n) : joinL n M a b = j ↔ ∀ c, c < n → (M j c = true ↔ M a c = true ∧ M b c = true) := by
  constructor
  · intro e c hc
    rcases bestL_cases n (fun c => M a c && M b c) M with h1 | ⟨j', hj', h1, h2⟩
    · unfold joinL at e; omega
    · obtain rfl : j = j' := by unfold joinL at e; omega
      obtain ⟨h3, h4⟩ := isBest_iff.1 h2
      rw [Bool.and_eq_true] at h3
      constructor
      · intro h5
        exact ⟨h.trans a j c ha hj hc h3.1 h5, h.trans b j c hb hj hc h3.2 h5⟩
      · intro h5
        exact h4 c hc (by simp [h5])
  · intro h1
    have h2 := (h1 j hj).1 (h.refl j hj)
    refine bestL_hit h hj (isBest_iff.2 ⟨by simp [h2], fun d hd hi => ?_⟩)
    rw [Bool.and_eq_true] at hi
    exact (h1 d hd).2 hi

/-- The least level which lacks a bound with one ahead of it. -/
def lacks (n : Nat) (M : Nat → Nat → Bool) (b : Nat) : Bool := (List.range b).any fun a => decide (joinL n M a b < 0) || decide (joinL n (fun x y => M y x) a b < 0)
def boundsL (n : Nat) (M : Nat → Nat → Bool) : Int := match (List.range n).find? (lacks n M) with | some b => (b : Int) | none => -1
theorem lacks_iff {n : Nat} {M : Nat → Nat → Bool} {b : Nat} : lacks n M b = true ↔ ∃ a, a < b ∧ (joinL n M a b < 0 ∨ joinL n (fun x y => M y x) a b < 0) := by
  unfold lacks
  simp [List.any_eq_true]
theorem boundsL_hit {n : Nat} {M : Nat → Nat → Bool} {b : Nat} (hb : b < n) (h : lacks n M b = true) (h0 : ∀ j, j < b → lacks n M j = false) : boundsL n M = b := by
  unfold boundsL
  have : (List.range n).find? (lacks n M) = some b := by
    rw [List.find?_range_eq_some]
    exact ⟨h, List.mem_range.2 hb, fun j hj => by rw [h0 j hj]; rfl⟩
  rw [this]
theorem boundsL_miss {n : Nat} {M : Nat → Nat → Bool} (h0 : ∀ j, j < n → lacks n M j = false) : boundsL n M = -1 := by
  unfold boundsL
  have : (List.range n).find? (lacks n M) = none := by
    rw [List.find?_eq_none]
    intro c hc
    simp [h0 c (List.mem_range.1 hc)]
  rw [this]
/-- Levels among which each two have a join and a meet. -/
structure Lat (n : Nat) (M : Nat → Nat → Bool) : Prop where
  po : Po n M
  some : 0 < n
  join : ∀ a b, a < n → b < n → ∃ j : Nat, j < n ∧ joinL n M a b = j
  meet : ∀ a b, a < n → b < n → ∃ j : Nat, j < n ∧ joinL n (fun x y => M y x) a b = j
theorem lat_of {n : Nat} {M : Nat → Nat → Bool} (h : Po n M) (hn : 0 < n) (h0 : ∀ j, j < n → lacks n M j = false) : Lat n M := by
  have key : ∀ (N : Nat → Nat → Bool), Po n N → (∀ a b, a < b → b < n → ¬ joinL n N a b < 0) → ∀ a b, a < n → b < n → ∃ j : Nat, j < n ∧ joinL n N a b = j := by
    intro N hN hk a b ha hb
    have h1 : ¬ joinL n N a b < 0 := by
      rcases Nat.lt_trichotomy a b with h | h | h
      · exact hk a b h hb
      · subst h; rw [joinL_self hN ha]; omega
      · rw [joinL_comm]; exact hk b a h ha
    rcases bestL_cases n (fun c => N a c && N b c) N with h2 | ⟨j, hj, h2, _⟩
    · exact absurd (show joinL n N a b < 0 by unfold joinL; omega) h1
    · exact ⟨j, hj, h2⟩
  refine ⟨h, hn, key M h fun a b hab hb hl => ?_, key _ h.turn fun a b hab hb hl => ?_⟩
  · have := lacks_iff.2 ⟨a, hab, .inl hl⟩
    rw [h0 b hb] at this; cases this
  · have := lacks_iff.2 ⟨a, hab, .inr hl⟩
    rw [h0 b hb] at this; cases this
end Go.Proofs.Ytpjlhpaenmfieaa.LatM
