/- Bounds of levels, plain: the best one of some, as the code and as the document find it. No program is named here. -/
namespace Go.Proofs.YtpjlhpaenmfieaaGreat.LatM

/-- 'At most' on n levels: each at most itself, in chains, no two at most one another. -/
structure Po (n : Nat) (M : Nat → Nat → Bool) : Prop where
  refl : ∀ a, a < n → M a a = true
  trans : ∀ a b c, a < n → b < n → c < n → M a b = true → M b c = true → M a c = true
  anti : ∀ a b, a < n → b < n → M a b = true → M b a = true → a = b
theorem Po.turn {n : Nat} {M : Nat → Nat → Bool} (h : Po n M) : Po n (fun a b => M b a) :=
  ⟨h.refl, fun a b c ha hb hc h1 h2 => h.trans c b a hc hb ha h2 h1, fun a b ha hb h1 h2 => h.anti a b ha hb h2 h1⟩

/-- Is a level the best of those that are in? -/
def isBest (n : Nat) (I : Nat → Bool) (M : Nat → Nat → Bool) (c : Nat) : Bool := I c && (List.range n).all fun d => !I d || M c d
theorem isBest_iff {n : Nat} {I : Nat → Bool} {M : Nat → Nat → Bool} {c : Nat} : isBest n I M c = true ↔ I c = true ∧ ∀ d, d < n → I d = true → M c d = true := by
  unfold isBest
  rw [Bool.and_eq_true, List.all_eq_true]
  constructor
  · rintro ⟨h1, h2⟩
    exact ⟨h1, fun d hd hi => by simpa [hi] using h2 d (List.mem_range.2 hd)⟩
  · rintro ⟨h1, h2⟩
    refine ⟨h1, fun d hd => ?_⟩
    cases hi : I d with
    | false => rfl
    | true => simp [h2 d (List.mem_range.1 hd) hi]
/-- The best of those that are in; -1: there is none. -/
def bestL (n : Nat) (I : Nat → Bool) (M : Nat → Nat → Bool) : Int := match (List.range n).find? (isBest n I M) with | some c => (c : Int) | none => -1
theorem bestL_hit {n : Nat} {I : Nat → Bool} {M : Nat → Nat → Bool} (h : Po n M) {c : Nat} (hc : c < n) (hb : isBest n I M c = true) : bestL n I M = c := by
  unfold bestL
  cases hf : (List.range n).find? (isBest n I M) with
  | none =>
    rw [List.find?_eq_none] at hf
    exact absurd hb (by simpa using hf c (List.mem_range.2 hc))
  | some d =>
    have hd := List.find?_some hf
    have hdn := List.mem_range.1 (List.mem_of_find?_eq_some hf)
    obtain ⟨h1, h2⟩ := isBest_iff.1 hb
    obtain ⟨h3, h4⟩ := isBest_iff.1 hd
    rw [h.anti d c hdn hc (h4 c hc h1) (h2 d hdn h3)]
theorem bestL_miss {n : Nat} {I : Nat → Bool} {M : Nat → Nat → Bool} (h : ∀ c, c < n → isBest n I M c = false) : bestL n I M = -1 := by
  unfold bestL
  have : (List.range n).find? (isBest n I M) = none := by
    rw [List.find?_eq_none]
    intro c hc
    simp [h c (List.mem_range.1 hc)]
  rw [this]
theorem bestL_cases (n : Nat) (I : Nat → Bool) (M : Nat → Nat → Bool) : bestL n I M = -1 ∨ ∃ c, c < n ∧ bestL n I M = (c : Int) ∧ isBest n I M c = true := by
  unfold bestL
  cases hf : (List.range n).find? (isBest n I M) with
  | none => exact .inl rfl
  | some d => exact .inr ⟨d, List.mem_range.1 (List.mem_of_find?_eq_some hf), rfl, List.find?_some hf⟩
/-- The document's way: the first one for which nothing speaks against it. -/
theorem bestL_first {n : Nat} {I : Nat → Bool} {M : Nat → Nat → Bool} {c : Nat} (hc : c < n) (hb : isBest n I M c = true) (h0 : ∀ j, j < c → isBest n I M j = false) : bestL n I M = c := by
  unfold bestL
  have : (List.range n).find? (isBest n I M) = some c := by
    rw [List.find?_range_eq_some]
    exact ⟨hb, List.mem_range.2 hc, fun j hj => by rw [h0 j hj]; rfl⟩
  rw [this]

/-- The code's first pass: the one that is held so far. -/
def pass (I : Nat → Bool) (M : Nat → Nat → Bool) : Nat → Int
  | 0 => -1
  | c + 1 => if I c = true ∧ (pass I M c = -1 ∨ M c (pass I M c).toNat = true) then (c : Int) else pass I M c
theorem pass_in {I : Nat → Bool} {M : Nat → Nat → Bool} (k : Nat) : pass I M k = -1 ∨ ∃ c : Nat, c < k ∧ pass I M k = c ∧ I c = true := by
  induction k with
  | zero => exact .inl rfl
  | succ k ih =>
    unfold pass
    split
    · next h => exact .inr ⟨k, by omega, rfl, h.1⟩
    · rcases ih with h | ⟨c, hc, h, hi⟩
      · exact .inl h
      · exact .inr ⟨c, by omega, h, hi⟩
theorem pass_best {n : Nat} {I : Nat → Bool} {M : Nat → Nat → Bool} (h : Po n M) {m : Nat} (hm : m < n) (hb : isBest n I M m = true) (k : Nat) (hk : k ≤ n) (hmk : m < k) : pass I M k = m := by
  obtain ⟨h1, h2⟩ := isBest_iff.1 hb
  induction k with
  | zero => omega
  | succ k ih =>
    unfold pass
    by_cases e : m = k
    · subst e
      rw [if_pos]
      refine ⟨h1, ?_⟩
      rcases pass_in (I := I) (M := M) m with h3 | ⟨c, hc, h3, hi⟩
      · exact .inl h3
      · right; rw [h3]; exact h2 c (by omega) hi
    · rw [ih (by omega) (by omega)]
      rw [if_neg]
      rintro ⟨h3, h4 | h4⟩
      · omega
      · rw [Int.toNat_natCast] at h4
        exact e (h.anti m k hm (by omega) (h2 k (by omega) h3) h4)
/-- The code's second pass: the one that is held is the best, or there is none. -/
theorem pass_end {n : Nat} {I : Nat → Bool} {M : Nat → Nat → Bool} (h : Po n M) (r : Int) (hr : r = pass I M n) :
    (r = -1 → bestL n I M = -1) ∧ (∀ c : Nat, r = c → c < n ∧ I c = true) ∧ ((∀ d : Nat, d < n → I d = true → M r.toNat d = true) → bestL n I M = r) ∧ (∀ d : Nat, d < n → I d = true → M r.toNat d = false → bestL n I M = -1) := by
  have hbest : ∀ c, c < n → isBest n I M c = true → r = c := fun c hc hb => by rw [hr]; exact pass_best h hc hb n (Nat.le_refl _) hc
  have hin := pass_in (I := I) (M := M) n
  rw [← hr] at hin
  refine ⟨fun e => bestL_miss fun c hc => ?_, fun c e => ?_, fun hd => ?_, fun d hd hi hf => bestL_miss fun c hc => ?_⟩
  · cases hb : isBest n I M c with
    | false => rfl
    | true => have := hbest c hc hb; omega
  · rcases hin with h1 | ⟨c', h1, h2, h3⟩
    · omega
    · obtain rfl : c = c' := by omega
      exact ⟨h1, h3⟩
  · rcases hin with h1 | ⟨c, h1, h2, h3⟩
    · rw [h1]
      refine bestL_miss fun c hc => ?_
      cases hb : isBest n I M c with
      | false => rfl
      | true => have := hbest c hc hb; omega
    · rw [h2] at hd ⊢
      exact bestL_hit h h1 (isBest_iff.2 ⟨h3, by simpa using hd⟩)
  · cases hb : isBest n I M c with
    | false => rfl
    | true =>
      have e := hbest c hc hb
      rw [e, Int.toNat_natCast] at hf
      rw [(isBest_iff.1 hb).2 d hd hi] at hf
      cases hf

/-- The join of two levels; -1: there is none. -/
def joinL (n : Nat) (M : Nat → Nat → Bool) (a b : Nat) : Int := bestL n (fun c => M a c && M b c) M
theorem joinL_comm (n : Nat) (M : Nat → Nat → Bool) (a b : Nat) : joinL n M a b = joinL n M b a := by
  unfold joinL
  have : (fun c => M a c && M b c) = fun c => M b c && M a c := funext fun c => Bool.and_comm ..
  rw [this]
theorem joinL_self {n : Nat} {M : Nat → Nat → Bool} (h : Po n M) {a : Nat} (ha : a < n) : joinL n M a a = a :=
  bestL_hit h ha (isBest_iff.2 ⟨by simp [h.refl a ha], fun d _ hi => by simpa using hi⟩)
/-- What a join is. -/
theorem joinL_iff {n : Nat} {M : Nat → Nat → Bool} (h : Po n M) {a b j : Nat} (ha : a < n) (hb : b < n) (hj : j < n) : joinL n M a b = j ↔ ∀ c, c < n → (M j c = true ↔ M a c = true ∧ M b c = true) := by
  constructor
  · intro e c hc
    rcases bestL_cases n (fun c => M a c && M b c) M with h1 | ⟨j', hj', h1, h2⟩
    · unfold joinL at e; omega
    · obtain rfl : j = j' := by unfold joinL at e; omega
      obtain ⟨h3, h4⟩ := isBest_iff.1 h2
      rw [Bool.and_eq_true] at h3
      constructor
      · intro h5
        exact ⟨h.trans a j c ha hj hc h3.1 h5, h.trans b j c hb hj hc h3.2 h5⟩
      · intro h5
        exact h4 c hc (by simp [h5])
  · intro h1
    have h2 := (h1 j hj).1 (h.refl j hj)
    refine bestL_hit h hj (isBest_iff.2 ⟨by simp [h2], fun d hd hi => ?_⟩)
    rw [Bool.and_eq_true] at hi
    exact (h1 d hd).2 hi

/-- The least level which lacks a bound with one ahead of it. -/
def lacks (n : Nat) (M : Nat → Nat → Bool) (b : Nat) : Bool := (List.range b).any fun a => decide (joinL n M a b < 0) || decide (joinL n (fun x y => M y x) a b < 0)
def boundsL (n : Nat) (M : Nat → Nat → Bool) : Int := match (List.range n).find? (lacks n M) with | some b => (b : Int) | none => -1
theorem lacks_iff {n : Nat} {M : Nat → Nat → Bool} {b : Nat} : lacks n M b = true ↔ ∃ a, a < b ∧ (joinL n M a b < 0 ∨ joinL n (fun x y => M y x) a b < 0) := by
  unfold lacks
  simp [List.any_eq_true]
theorem boundsL_hit {n : Nat} {M : Nat → Nat → Bool} {b : Nat} (hb : b < n) (h : lacks n M b = true) (h0 : ∀ j, j < b → lacks n M j = false) : boundsL n M = b := by
  unfold boundsL
  have : (List.range n).find? (lacks n M) = some b := by
    rw [List.find?_range_eq_some]
    exact ⟨h, List.mem_range.2 hb, fun j hj => by rw [h0 j hj]; rfl⟩
  rw [this]
theorem boundsL_miss {n : Nat} {M : Nat → Nat → Bool} (h0 : ∀ j, j < n → lacks n M j = false) : boundsL n M = -1 := by
  unfold boundsL
  have : (List.range n).find? (lacks n M) = none := by
    rw [List.find?_eq_none]
    intro c hc
    simp [h0 c (List.mem_range.1 hc)]
  rw [this]
/-- Levels among which each two have a join and a meet. -/
structure Lat (n : Nat) (M : Nat → Nat → Bool) : Prop where
  po : Po n M
  some : 0 < n
  join : ∀ a b, a < n → b < n → ∃ j : Nat, j < n ∧ joinL n M a b = j
  meet : ∀ a b, a < n → b < n → ∃ j : Nat, j < n ∧ joinL n (fun x y => M y x) a b = j
theorem lat_of {n : Nat} {M : Nat → Nat → Bool} (h : Po n M) (hn : 0 < n) (h0 : ∀ j, j < n → lacks n M j = false) : Lat n M := by
  have key : ∀ (N : Nat → Nat → Bool), Po n N → (∀ a b, a < b → b < n → ¬ joinL n N a b < 0) → ∀ a b, a < n → b < n → ∃ j : Nat, j < n ∧ joinL n N a b = j := by
    intro N hN hk a b ha hb
    have h1 : ¬ joinL n N a b < 0 := by
      rcases Nat.lt_trichotomy a b with h | h | h
      · exact hk a b h hb
      · subst h; rw [joinL_self hN ha]; omega
      · rw [joinL_comm]; exact hk b a h ha
    rcases bestL_cases n (fun c => N a c && N b c) N with h2 | ⟨j, hj, h2, _⟩
    · exact absurd (show joinL n N a b < 0 by unfold joinL; omega) h1
    · exact ⟨j, hj, h2⟩
  refine ⟨h, hn, key M h fun a b hab hb hl => ?_, key _ h.turn fun a b hab hb hl => ?_⟩
  · have := lacks_iff.2 ⟨a, hab, .inl hl⟩
    rw [h0 b hb] at this; cases this
  · have := lacks_iff.2 ⟨a, hab, .inr hl⟩
    rw [h0 b hb] at this; cases this
end Go.Proofs.YtpjlhpaenmfieaaGreat.LatM
/- Joins and meets, plain: the laws of a lattice; top, bottom. No program is named here. -/
namespace Go.Proofs.YtpjlhpaenmfieaaGreat.LatM

theorem Lat.turn {n : Nat} {M : Nat → Nat → Bool} (h : Lat n M) : Lat n (fun a b => M b a) := ⟨h.po.turn, h.some, h.meet, h.join⟩

/-- The join, as a number. -/
def jn (n : Nat) (M : Nat → Nat → Bool) (a b : Nat) : Nat := (joinL n M a b).toNat
theorem jn_eq {n : Nat} {M : Nat → Nat → Bool} (h : Lat n M) {a b : Nat} (ha : a < n) (hb : b < n) : joinL n M a b = jn n M a b ∧ jn n M a b < n := by
  obtain ⟨j, hj, e⟩ := h.join a b ha hb
  unfold jn
  rw [e]
  exact ⟨rfl, hj⟩
theorem jn_iff {n : Nat} {M : Nat → Nat → Bool} (h : Lat n M) {a b c : Nat} (ha : a < n) (hb : b < n) (hc : c < n) : M (jn n M a b) c = true ↔ M a c = true ∧ M b c = true := by
  obtain ⟨e, hj⟩ := jn_eq h ha hb
  exact (joinL_iff h.po ha hb hj).1 e c hc
theorem eq_of_above {n : Nat} {M : Nat → Nat → Bool} (h : Po n M) {x y : Nat} (hx : x < n) (hy : y < n) (e : ∀ c, c < n → (M x c = true ↔ M y c = true)) : x = y :=
  h.anti x y hx hy ((e y hy).2 (h.refl y hy)) ((e x hx).1 (h.refl x hx))
theorem jn_comm (n : Nat) (M : Nat → Nat → Bool) (a b : Nat) : jn n M a b = jn n M b a := by unfold jn; rw [joinL_comm]
theorem jn_left {n : Nat} {M : Nat → Nat → Bool} (h : Lat n M) {a b : Nat} (ha : a < n) (hb : b < n) : M a (jn n M a b) = true ∧ M b (jn n M a b) = true :=
  have hj := (jn_eq h ha hb).2
  (jn_iff h ha hb hj).1 (h.po.refl _ hj)
theorem jn_assoc {n : Nat} {M : Nat → Nat → Bool} (h : Lat n M) {a b c : Nat} (ha : a < n) (hb : b < n) (hc : c < n) : jn n M (jn n M a b) c = jn n M a (jn n M b c) := by
  have h1 := (jn_eq h ha hb).2
  have h2 := (jn_eq h hb hc).2
  refine eq_of_above h.po (jn_eq h h1 hc).2 (jn_eq h ha h2).2 fun d hd => ?_
  rw [jn_iff h h1 hc hd, jn_iff h ha hb hd, jn_iff h ha h2 hd, jn_iff h hb hc hd, and_assoc]
/-- A join with what is at most one. -/
theorem jn_absorb {n : Nat} {M : Nat → Nat → Bool} (h : Lat n M) {a m : Nat} (ha : a < n) (hm : m < n) (e : M m a = true) : jn n M a m = a := by
  refine eq_of_above h.po (jn_eq h ha hm).2 ha fun d hd => ?_
  rw [jn_iff h ha hm hd]
  exact ⟨fun x => x.1, fun x => ⟨x, h.po.trans m a d hm ha hd e x⟩⟩
theorem jn_le {n : Nat} {M : Nat → Nat → Bool} (h : Lat n M) {a b : Nat} (ha : a < n) (hb : b < n) : jn n M a b = b ↔ M a b = true := by
  constructor
  · intro e
    have := (jn_left h ha hb).1
    rwa [e] at this
  · intro e
    rw [jn_comm]; exact jn_absorb h hb ha e

/-- The top of the first levels. -/
def topTo (n : Nat) (M : Nat → Nat → Bool) : Nat → Nat
  | 0 => 0
  | k + 1 => jn n M (topTo n M k) k
theorem topTo_facts {n : Nat} {M : Nat → Nat → Bool} (h : Lat n M) (k : Nat) (hk : k ≤ n) : topTo n M k < n ∧ ∀ a, a < k → M a (topTo n M k) = true := by
  induction k with
  | zero => exact ⟨h.some, fun a ha => by omega⟩
  | succ k ih =>
    obtain ⟨h1, h2⟩ := ih (by omega)
    have h3 := (jn_eq h h1 (show k < n by omega)).2
    obtain ⟨h4, h5⟩ := jn_left h h1 (show k < n by omega)
    refine ⟨h3, fun a ha => ?_⟩
    by_cases e : a = k
    · subst e; exact h5
    · exact h.po.trans a _ _ (by omega) h1 h3 (h2 a (by omega)) h4
def topN (n : Nat) (M : Nat → Nat → Bool) : Nat := topTo n M n
theorem topN_lt {n : Nat} {M : Nat → Nat → Bool} (h : Lat n M) : topN n M < n := (topTo_facts h n (Nat.le_refl _)).1
theorem topN_top {n : Nat} {M : Nat → Nat → Bool} (h : Lat n M) {a : Nat} (ha : a < n) : M a (topN n M) = true := (topTo_facts h n (Nat.le_refl _)).2 a ha

/-- The laws that LatticeUndoes asks. -/
theorem undoes {n : Nat} {M : Nat → Nat → Bool} (h : Lat n M) {a b c : Nat} (ha : a < n) (hb : b < n) (hc : c < n) :
    jn n M a (jn n (fun x y => M y x) a b) = a ∧ jn n (fun x y => M y x) a (jn n M a b) = a ∧
    M a b = decide (jn n M a b = b) ∧ M a b = decide (jn n (fun x y => M y x) a b = a) ∧
    M (jn n M a b) c = (M a c && M b c) ∧ M c (jn n (fun x y => M y x) a b) = (M c a && M c b) ∧
    jn n M (topN n (fun x y => M y x)) a = a ∧ jn n (fun x y => M y x) (topN n M) a = a := by
  have ht := h.turn
  have hj := (jn_eq h ha hb).2
  have hm := (jn_eq ht ha hb).2
  refine ⟨jn_absorb h ha hm (jn_left ht ha hb).1, jn_absorb ht ha hj (jn_left h ha hb).1, ?_, ?_, ?_, ?_, ?_, ?_⟩
  · rw [Bool.eq_iff_iff, decide_eq_true_eq, jn_le h ha hb]
  · rw [Bool.eq_iff_iff, decide_eq_true_eq, jn_comm, jn_le ht hb ha]
  · rw [Bool.eq_iff_iff, Bool.and_eq_true, jn_iff h ha hb hc]
  · rw [Bool.eq_iff_iff, Bool.and_eq_true]; exact jn_iff ht ha hb hc
  · exact (jn_le h (topN_lt ht) ha).2 (topN_top ht ha)
  · exact (jn_le ht (topN_lt h) ha).2 (topN_top h ha)
end Go.Proofs.YtpjlhpaenmfieaaGreat.LatM
/- Labels, plain: the least level that several are at most is their join; the highest ones of several. No program is named here. -/
namespace Go.Proofs.YtpjlhpaenmfieaaGreat.LatM

/-- The join of several, from one on. -/
def joinTo (n : Nat) (M : Nat → Nat → Bool) (b : Nat) (l : List Nat) : Nat := l.foldl (jn n M) b
theorem joinTo_append (n : Nat) (M : Nat → Nat → Bool) (b : Nat) (l : List Nat) (k : Nat) : joinTo n M b (l ++ [k]) = jn n M (joinTo n M b l) k := by simp [joinTo]
theorem joinTo_lt {n : Nat} {M : Nat → Nat → Bool} (h : Lat n M) (l : List Nat) : ∀ b, b < n → (∀ k ∈ l, k < n) → joinTo n M b l < n := by
  induction l with
  | nil => intro b hb _; exact hb
  | cons k l ih => intro b hb hl; exact ih _ (jn_eq h hb (hl k (by simp))).2 fun x hx => hl x (by simp [hx])
theorem joinTo_iff {n : Nat} {M : Nat → Nat → Bool} (h : Lat n M) {c : Nat} (hc : c < n) (l : List Nat) : ∀ b, b < n → (∀ k ∈ l, k < n) → (M (joinTo n M b l) c = true ↔ M b c = true ∧ ∀ k ∈ l, M k c = true) := by
  induction l with
  | nil => intro b _ _; simp [joinTo]
  | cons k l ih =>
    intro b hb hl
    have hk := hl k (by simp)
    have := ih (jn n M b k) (jn_eq h hb hk).2 fun x hx => hl x (by simp [hx])
    rw [show joinTo n M b (k :: l) = joinTo n M (jn n M b k) l from rfl, this, jn_iff h hb hk hc]
    simp [and_assoc]
/-- Are all of some at most one? -/
def over (M : Nat → Nat → Bool) (l : List Nat) (c : Nat) : Bool := l.all fun k => M k c
theorem over_iff {M : Nat → Nat → Bool} {l : List Nat} {c : Nat} : over M l c = true ↔ ∀ k ∈ l, M k c = true := by unfold over; simp
/-- The least one that all are at most. -/
def leastL (n : Nat) (M : Nat → Nat → Bool) (l : List Nat) : Int := bestL n (over M l) M
def botN (n : Nat) (M : Nat → Nat → Bool) : Nat := topN n (fun a b => M b a)
theorem botN_lt {n : Nat} {M : Nat → Nat → Bool} (h : Lat n M) : botN n M < n := topN_lt h.turn
theorem botN_bot {n : Nat} {M : Nat → Nat → Bool} (h : Lat n M) {a : Nat} (ha : a < n) : M (botN n M) a = true := topN_top h.turn ha
/-- What stands for several. -/
def allJoin (n : Nat) (M : Nat → Nat → Bool) (l : List Nat) : Nat := joinTo n M (botN n M) l
theorem allJoin_lt {n : Nat} {M : Nat → Nat → Bool} (h : Lat n M) {l : List Nat} (hl : ∀ k ∈ l, k < n) : allJoin n M l < n := joinTo_lt h l _ (botN_lt h) hl
theorem allJoin_iff {n : Nat} {M : Nat → Nat → Bool} (h : Lat n M) {c : Nat} (hc : c < n) {l : List Nat} (hl : ∀ k ∈ l, k < n) : M (allJoin n M l) c = true ↔ ∀ k ∈ l, M k c = true := by
  rw [allJoin, joinTo_iff h hc l _ (botN_lt h) hl]
  exact ⟨fun x => x.2, fun x => ⟨botN_bot h hc, x⟩⟩
theorem leastL_eq {n : Nat} {M : Nat → Nat → Bool} (h : Lat n M) {l : List Nat} (hl : ∀ k ∈ l, k < n) : leastL n M l = (allJoin n M l : Nat) := by
  have hlt := allJoin_lt h hl
  refine bestL_hit h.po hlt (isBest_iff.2 ⟨over_iff.2 ((allJoin_iff h hlt hl).1 (h.po.refl _ hlt)), fun d hd hi => (allJoin_iff h hd hl).2 (over_iff.1 hi)⟩)

/-- Is there a higher one among them? -/
def above (M : Nat → Nat → Bool) (l : List Nat) (i : Nat) : Bool := l.any fun k => k != i && M i k
/-- The highest ones of the first k levels. -/
def highTo (M : Nat → Nat → Bool) (l : List Nat) (k : Nat) : List Nat := (List.range k).filter fun i => l.contains i && !above M l i
theorem highTo_yes {M : Nat → Nat → Bool} {l : List Nat} {k : Nat} (h1 : l.contains k = true) (h2 : above M l k = false) : highTo M l (k + 1) = highTo M l k ++ [k] := by
  unfold highTo
  rw [List.range_succ, List.filter_append]
  simp [h2]
  simpa using h1
theorem highTo_no {M : Nat → Nat → Bool} {l : List Nat} {k : Nat} (h : l.contains k = false ∨ above M l k = true) : highTo M l (k + 1) = highTo M l k := by
  unfold highTo
  rw [List.range_succ, List.filter_append]
  rcases h with h | h
  · have : k ∉ l := by simpa using h
    simp [this]
  · simp [h]
theorem highTo_le (M : Nat → Nat → Bool) (l : List Nat) (k : Nat) : (highTo M l k).length ≤ k := by
  unfold highTo
  have := List.length_filter_le (fun i => l.contains i && !above M l i) (List.range k)
  simpa using this
theorem highTo_lt {M : Nat → Nat → Bool} {l : List Nat} {k i : Nat} (h : i ∈ highTo M l k) : i < k ∧ i ∈ l ∧ above M l i = false := by
  unfold highTo at h
  rw [List.mem_filter] at h
  simp at h
  exact ⟨h.1, h.2.1, h.2.2⟩
theorem highTo_mem {M : Nat → Nat → Bool} {l : List Nat} {k i : Nat} : i ∈ highTo M l k ↔ i < k ∧ i ∈ l ∧ above M l i = false := by
  unfold highTo
  rw [List.mem_filter]
  simp
theorem above_iff {M : Nat → Nat → Bool} {l : List Nat} {i : Nat} : above M l i = true ↔ ∃ k ∈ l, k ≠ i ∧ M i k = true := by
  unfold above
  simp
/-- What the highest ones hang on: which levels there are. -/
theorem highTo_same {M : Nat → Nat → Bool} {l l' : List Nat} (h : ∀ i, i ∈ l ↔ i ∈ l') (k : Nat) : highTo M l k = highTo M l' k := by
  unfold highTo
  refine List.filter_congr fun i _ => ?_
  have e1 : l.contains i = l'.contains i := by rw [Bool.eq_iff_iff]; simp [h i]
  have e2 : above M l i = above M l' i := by
    rw [Bool.eq_iff_iff, above_iff, above_iff]
    exact ⟨fun ⟨k, a, b⟩ => ⟨k, (h k).1 a, b⟩, fun ⟨k, a, b⟩ => ⟨k, (h k).2 a, b⟩⟩
  rw [e1, e2]
/-- How many levels are at least one: a chain upwards ends. -/
theorem high_over {n : Nat} {M : Nat → Nat → Bool} (h : Po n M) {l : List Nat} (hl : ∀ k ∈ l, k < n) : ∀ (d i : Nat), i ∈ l → ((List.range n).filter fun c => M i c).length ≤ d → ∃ j, j ∈ highTo M l n ∧ M i j = true := by
  intro d
  induction d with
  | zero =>
    intro i hi hd
    have : i ∈ (List.range n).filter fun c => M i c := by
      rw [List.mem_filter]; exact ⟨List.mem_range.2 (hl i hi), h.refl i (hl i hi)⟩
    have h0 : ((List.range n).filter fun c => M i c) = [] := List.length_eq_zero_iff.1 (by omega)
    rw [h0] at this; cases this
  | succ d ih =>
    intro i hi hd
    have hin := hl i hi
    cases ha : above M l i with
    | false => exact ⟨i, highTo_mem.2 ⟨hin, hi, ha⟩, h.refl i hin⟩
    | true =>
      obtain ⟨k, hk, hne, hik⟩ := above_iff.1 ha
      have hkn := hl k hk
      obtain ⟨j, hj, hkj⟩ := ih k hk (by
        have hsub : ((List.range n).filter fun c => M k c).length < ((List.range n).filter fun c => M i c).length := by
          have h1 : ((List.range n).filter fun c => M k c) = ((List.range n).filter fun c => M i c).filter fun c => M k c := by
            rw [List.filter_filter]
            refine List.filter_congr fun c hc => ?_
            have hcn := List.mem_range.1 hc
            cases hkc : M k c with
            | false => simp
            | true => simp [h.trans i k c hin hkn hcn hik hkc]
          rw [h1]
          refine List.length_filter_lt_length_iff_exists.2 ⟨i, ?_, ?_⟩
          · rw [List.mem_filter]; exact ⟨List.mem_range.2 hin, h.refl i hin⟩
          · intro hki
            exact hne (h.anti k i hkn hin hki hik)
        omega)
      exact ⟨j, hj, h.trans i k j hin hkn (highTo_lt hj).1 hik hkj⟩
/-- The highest ones stand for the same level. -/
theorem high_join {n : Nat} {M : Nat → Nat → Bool} (h : Lat n M) {l : List Nat} (hl : ∀ k ∈ l, k < n) : allJoin n M (highTo M l n) = allJoin n M l := by
  have hh : ∀ k ∈ highTo M l n, k < n := fun k hk => (highTo_lt hk).1
  refine eq_of_above h.po (allJoin_lt h hh) (allJoin_lt h hl) fun c hc => ?_
  rw [allJoin_iff h hc hh, allJoin_iff h hc hl]
  constructor
  · intro h1 k hk
    obtain ⟨j, hj, hkj⟩ := high_over h.po hl _ k hk (Nat.le_refl _)
    exact h.po.trans k j c (hl k hk) (hh j hj) hc hkj (h1 j hj)
  · intro h1 k hk
    exact h1 k (highTo_lt hk).2.1
theorem highTo_filter (M : Nat → Nat → Bool) (l : List Nat) (k : Nat) : highTo M l k = (List.range k).filter fun i => decide (i ∈ highTo M l k) := by
  conv => lhs; unfold highTo
  refine List.filter_congr fun i hi => ?_
  rw [Bool.eq_iff_iff, decide_eq_true_eq, highTo_mem]
  simp [List.mem_range.1 hi]
/-- The highest ones of the highest ones. -/
theorem high_high {M : Nat → Nat → Bool} {n : Nat} (l : List Nat) : highTo M (highTo M l n) n = highTo M l n := by
  have key : ∀ i, i ∈ highTo M (highTo M l n) n ↔ i ∈ highTo M l n := by
    intro i
    rw [highTo_mem]
    constructor
    · exact fun h => h.2.1
    · intro h
      refine ⟨(highTo_lt h).1, h, ?_⟩
      cases ha : above M (highTo M l n) i with
      | false => rfl
      | true =>
        obtain ⟨k, hk, hne, hik⟩ := above_iff.1 ha
        have := above_iff.2 ⟨k, (highTo_lt hk).2.1, hne, hik⟩
        rw [(highTo_lt h).2.2] at this; cases this
  exact (highTo_filter M (highTo M l n) n).trans ((List.filter_congr fun i _ => by rw [Bool.eq_iff_iff, decide_eq_true_eq, decide_eq_true_eq]; exact key i).trans (highTo_filter M l n).symm)
theorem high_some {n : Nat} {M : Nat → Nat → Bool} (h : Po n M) {l : List Nat} (hl : ∀ k ∈ l, k < n) (hn : l ≠ []) : highTo M l n ≠ [] := by
  obtain ⟨i, l', rfl⟩ := List.exists_cons_of_ne_nil hn
  obtain ⟨j, hj, _⟩ := high_over h hl _ i (by simp) (Nat.le_refl _)
  exact List.ne_nil_of_mem hj
end Go.Proofs.YtpjlhpaenmfieaaGreat.LatM
/- solve, plain: raising levels until all lows and flows hold gives the least levels for which they do. No program is named here. -/
namespace Go.Proofs.YtpjlhpaenmfieaaGreat.LatM

/-- What comes to a place by a rule. -/
def fromR (x : List Nat) (r : Int × Int × Int) : Nat := if r.1 = 1 then r.2.1.toNat else x.getD r.2.1.toNat 0
def okR (M : Nat → Nat → Bool) (x : List Nat) (r : Int × Int × Int) : Bool := decide (r.1 = 3) || M (fromR x r) (x.getD r.2.2.toNat 0)
def stepR (n : Nat) (M : Nat → Nat → Bool) (x : List Nat) (r : Int × Int × Int) : List Nat := if okR M x r = true then x else x.set r.2.2.toNat (jn n M (x.getD r.2.2.toNat 0) (fromR x r))
/-- A rule that may be, of n levels and m places, and that is no high. -/
def fitsR (n m : Nat) (r : Int × Int × Int) : Prop := r.1 = 3 ∨ (r.2.2.toNat < m ∧ (r.1 = 1 → r.2.1.toNat < n) ∧ (r.1 ≠ 1 → r.2.1.toNat < m))
theorem getD_lt {n : Nat} {x : List Nat} (hx : ∀ v ∈ x, v < n) {p : Nat} (hp : p < x.length) : x.getD p 0 < n := by
  rw [List.getD_eq_getElem?_getD, List.getElem?_eq_getElem hp]
  exact hx _ (List.getElem_mem hp)
theorem fromR_lt {n m : Nat} {x : List Nat} {r : Int × Int × Int} (hm : x.length = m) (hx : ∀ v ∈ x, v < n) (hr : fitsR n m r) (h3 : r.1 ≠ 3) : fromR x r < n := by
  rcases hr with h | ⟨h1, h2, h4⟩
  · exact absurd h h3
  · unfold fromR
    by_cases c : r.1 = 1
    · rw [if_pos c]; exact h2 c
    · rw [if_neg c]; exact getD_lt hx (by rw [hm]; exact h4 c)
theorem stepR_len (n : Nat) (M : Nat → Nat → Bool) (x : List Nat) (r : Int × Int × Int) : (stepR n M x r).length = x.length := by
  unfold stepR
  split
  · rfl
  · exact List.length_set
theorem okR_three {M : Nat → Nat → Bool} {x : List Nat} {r : Int × Int × Int} (h : okR M x r = false) : r.1 ≠ 3 := by
  intro h3
  unfold okR at h
  rw [decide_eq_true h3] at h
  cases h
theorem stepR_lt {n m : Nat} {M : Nat → Nat → Bool} (hl : Lat n M) {x : List Nat} {r : Int × Int × Int} (hm : x.length = m) (hx : ∀ v ∈ x, v < n) (hr : fitsR n m r) : ∀ v ∈ stepR n M x r, v < n := by
  unfold stepR
  split
  · exact hx
  · next h =>
    rw [Bool.not_eq_true] at h
    have h3 := okR_three h
    intro v hv
    rcases List.mem_or_eq_of_mem_set hv with hv | rfl
    · exact hx v hv
    · refine (jn_eq hl ?_ (fromR_lt hm hx hr h3)).2
      rcases hr with h' | ⟨h1, _⟩
      · exact absurd h' h3
      · exact getD_lt hx (by rw [hm]; exact h1)
theorem getD_set {x : List Nat} {b v p : Nat} (hb : b < x.length) : (x.set b v).getD p 0 = if p = b then v else x.getD p 0 := by
  rw [List.getD_eq_getElem?_getD, List.getD_eq_getElem?_getD, List.getElem?_set]
  by_cases h : b = p
  · subst h; simp [hb]
  · rw [if_neg h, if_neg (fun e => h e.symm)]
/-- Is each level of one row at most that of the other? -/
def leR (M : Nat → Nat → Bool) (m : Nat) (x y : List Nat) : Prop := ∀ p, p < m → M (x.getD p 0) (y.getD p 0) = true
theorem stepR_up {n m : Nat} {M : Nat → Nat → Bool} (hl : Lat n M) {x : List Nat} {r : Int × Int × Int} (hm : x.length = m) (hx : ∀ v ∈ x, v < n) (hr : fitsR n m r) : leR M m x (stepR n M x r) := by
  intro p hp
  unfold stepR
  split
  · exact hl.po.refl _ (getD_lt hx (by omega))
  · next h =>
    rw [Bool.not_eq_true] at h
    have h3 := okR_three h
    rcases hr with h' | ⟨h1, h2⟩
    · exact absurd h' h3
    · rw [getD_set (by omega)]
      split
      · next e =>
        subst e
        exact (jn_left hl (getD_lt hx (by omega)) (fromR_lt hm hx (.inr ⟨h1, h2⟩) h3)).1
      · exact hl.po.refl _ (getD_lt hx (by omega))
/-- What holds of levels for which all lows and flows do is at least what they ask. -/
theorem stepR_below {n m : Nat} {M : Nat → Nat → Bool} (hl : Lat n M) {x y : List Nat} {r : Int × Int × Int} (hm : x.length = m) (hx : ∀ v ∈ x, v < n) (hmy : y.length = m) (hy : ∀ v ∈ y, v < n) (hr : fitsR n m r) (h : leR M m x y) (ho : okR M y r = true) : leR M m (stepR n M x r) y := by
  unfold stepR
  split
  · exact h
  · next hno =>
    rw [Bool.not_eq_true] at hno
    have h3 := okR_three hno
    rcases hr with h' | ⟨h1, h2, h4⟩
    · exact absurd h' h3
    · intro p hp
      rw [getD_set (by omega)]
      split
      · next e =>
        subst e
        have hfx := fromR_lt hm hx (.inr ⟨h1, h2, h4⟩) h3
        have hfy := fromR_lt hmy hy (.inr ⟨h1, h2, h4⟩) h3
        rw [jn_iff hl (getD_lt hx (by omega)) hfx (getD_lt hy (by omega))]
        refine ⟨h _ h1, ?_⟩
        unfold okR at ho
        rw [decide_eq_false h3, Bool.false_or] at ho
        refine hl.po.trans _ (fromR y r) _ hfx hfy (getD_lt hy (by omega)) ?_ ho
        unfold fromR
        by_cases c : r.1 = 1
        · rw [if_pos c, if_pos c]; exact hl.po.refl _ (h2 c)
        · rw [if_neg c, if_neg c]; exact h _ (h4 c)
      · exact h p hp
/-- How far up levels may go yet. -/
def upN (n : Nat) (M : Nat → Nat → Bool) (v : Nat) : Nat := ((List.range n).filter fun c => M v c).length
def upR (n : Nat) (M : Nat → Nat → Bool) (x : List Nat) : Nat := (x.map (upN n M)).sum
theorem upN_lt {n : Nat} {M : Nat → Nat → Bool} (h : Po n M) {u v : Nat} (hu : u < n) (hv : v < n) (huv : M u v = true) (hne : u ≠ v) : upN n M v < upN n M u := by
  unfold upN
  have h1 : ((List.range n).filter fun c => M v c) = ((List.range n).filter fun c => M u c).filter fun c => M v c := by
    rw [List.filter_filter]
    refine List.filter_congr fun c hc => ?_
    have hcn := List.mem_range.1 hc
    cases hvc : M v c with
    | false => simp
    | true => simp [h.trans u v c hu hv hcn huv hvc]
  rw [h1]
  refine List.length_filter_lt_length_iff_exists.2 ⟨u, ?_, ?_⟩
  · rw [List.mem_filter]; exact ⟨List.mem_range.2 hu, h.refl u hu⟩
  · intro hvu
    exact hne (h.anti u v hu hv huv hvu)
theorem sum_set (f : Nat → Nat) (x : List Nat) : ∀ (b v : Nat) (hb : b < x.length), f v < f (x.getD b 0) → ((x.set b v).map f).sum < (x.map f).sum := by
  induction x with
  | nil => intro b v hb; simp at hb
  | cons a x ih =>
    intro b v hb h
    cases b with
    | zero => simp at h ⊢; omega
    | succ b =>
      have := ih b v (by simpa using hb) (by simpa using h)
      simp at this ⊢
      omega
theorem stepR_less {n m : Nat} {M : Nat → Nat → Bool} (hl : Lat n M) {x : List Nat} {r : Int × Int × Int} (hm : x.length = m) (hx : ∀ v ∈ x, v < n) (hr : fitsR n m r) (h : okR M x r = false) : upR n M (stepR n M x r) < upR n M x := by
  have h3 := okR_three h
  rcases hr with h' | ⟨h1, h2, h4⟩
  · exact absurd h' h3
  · have hf := fromR_lt hm hx (.inr ⟨h1, h2, h4⟩) h3
    have hb := getD_lt hx (show r.2.2.toNat < x.length by omega)
    unfold stepR upR
    rw [if_neg (by rw [h]; decide)]
    refine sum_set _ _ _ _ (by omega) (upN_lt hl.po hb (jn_eq hl hb hf).2 (jn_left hl hb hf).1 ?_)
    intro e
    have := (jn_left hl hb hf).2
    rw [← e] at this
    unfold okR at h
    rw [this] at h
    simp at h
/-- The least levels for which all lows and flows hold. -/
structure Lst (n m : Nat) (M : Nat → Nat → Bool) (rs : List (Int × Int × Int)) (x : List Nat) : Prop where
  len : x.length = m
  lt : ∀ v ∈ x, v < n
  ok : ∀ r ∈ rs, okR M x r = true
  low : ∀ y : List Nat, y.length = m → (∀ v ∈ y, v < n) → (∀ r ∈ rs, okR M y r = true) → leR M m x y
theorem Lst.eq {n m : Nat} {M : Nat → Nat → Bool} (hp : Po n M) {rs : List (Int × Int × Int)} {x y : List Nat} (h : Lst n m M rs x) (k : Lst n m M rs y) : x = y := by
  apply List.ext_getElem (by rw [h.len, k.len])
  intro i hi hj
  have h1 := h.low y k.len k.lt k.ok i (by have := h.len; omega)
  have h2 := k.low x h.len h.lt h.ok i (by have := h.len; omega)
  rw [List.getD_eq_getElem?_getD, List.getD_eq_getElem?_getD, List.getElem?_eq_getElem hi, List.getElem?_eq_getElem hj] at h1 h2
  exact hp.anti _ _ (h.lt _ (List.getElem_mem hi)) (k.lt _ (List.getElem_mem hj)) h1 h2
/-- What is so all along: the levels are below any for which lows and flows hold. -/
structure Way (n m : Nat) (M : Nat → Nat → Bool) (rs : List (Int × Int × Int)) (x : List Nat) : Prop where
  len : x.length = m
  lt : ∀ v ∈ x, v < n
  low : ∀ y : List Nat, y.length = m → (∀ v ∈ y, v < n) → (∀ r ∈ rs, okR M y r = true) → leR M m x y
theorem Way.start {n m : Nat} {M : Nat → Nat → Bool} (hl : Lat n M) (rs : List (Int × Int × Int)) : Way n m M rs (List.replicate m (botN n M)) where
  len := List.length_replicate
  lt := fun v hv => by rw [(List.mem_replicate.1 hv).2]; exact botN_lt hl
  low := fun y hy hlt _ p hp => by
    rw [List.getD_eq_getElem?_getD, List.getElem?_replicate, if_pos hp]
    exact botN_bot hl (getD_lt hlt (by omega))
theorem Way.step {n m : Nat} {M : Nat → Nat → Bool} (hl : Lat n M) {rs : List (Int × Int × Int)} {x : List Nat} {r : Int × Int × Int} (h : Way n m M rs x) (hr : r ∈ rs) (hf : fitsR n m r) : Way n m M rs (stepR n M x r) where
  len := by rw [stepR_len]; exact h.len
  lt := stepR_lt hl h.len h.lt hf
  low := fun y hy hlt ho => stepR_below hl h.len h.lt hy hlt hf (h.low y hy hlt ho) (ho r hr)
theorem Way.lst {n m : Nat} {M : Nat → Nat → Bool} {rs : List (Int × Int × Int)} {x : List Nat} (h : Way n m M rs x) (ho : ∀ r ∈ rs, okR M x r = true) : Lst n m M rs x := ⟨h.len, h.lt, ho, h.low⟩
end Go.Proofs.YtpjlhpaenmfieaaGreat.LatM
