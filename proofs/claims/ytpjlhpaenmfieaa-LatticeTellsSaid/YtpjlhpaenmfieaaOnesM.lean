/- Plain law: how bits are counted side by side in one number of 64 bits. No program is named here. -/
namespace Go.Proofs.Ytpjlhpaenmfieaa.OnesM

def ofD (s : Nat) : List Nat → Nat
  | [] => 0
  | d :: l => d + 2 ^ s * ofD s l

def pair : List Nat → List Nat
  | a :: b :: l => (a + b) :: pair l
  | _ => []

def mask (s : Nat) : Nat → Nat
  | 0 => 0
  | n + 1 => (2 ^ s - 1) + 2 ^ (2 * s) * mask s n

theorem and_split (s d e x y : Nat) (hd : d < 2 ^ s) (he : e < 2 ^ s) : (d + 2 ^ s * x) &&& (e + 2 ^ s * y) = (d &&& e) + 2 ^ s * (x &&& y) := by
  have hde : d &&& e < 2 ^ s := Nat.lt_of_le_of_lt Nat.and_le_left hd
  apply Nat.eq_of_testBit_eq
  intro i
  rw [Nat.testBit_and, Nat.add_comm d, Nat.add_comm e, Nat.add_comm (d &&& e), Nat.testBit_two_pow_mul_add _ hd, Nat.testBit_two_pow_mul_add _ he, Nat.testBit_two_pow_mul_add _ hde]
  split <;> simp

theorem two_mul_pow (s : Nat) : 2 ^ (2 * s) = 2 ^ s * 2 ^ s := by rw [← Nat.pow_add]; congr 1; omega

theorem and_low (s d q : Nat) (hd : d < 2 ^ s) : (d + 2 ^ s * q) &&& (2 ^ s - 1) = d := by
  rw [Nat.and_two_pow_sub_one_eq_mod, Nat.add_mul_mod_self_left, Nat.mod_eq_of_lt hd]

theorem step_and (s : Nat) (n : Nat) : ∀ l : List Nat, l.length = 2 * n → (∀ d ∈ l, d < 2 ^ s) →
    ((ofD s l / 2 ^ s) &&& mask s n) + (ofD s l &&& mask s n) = ofD (2 * s) (pair l) := by
  induction n with
  | zero => intro l hl _; obtain rfl : l = [] := List.eq_nil_of_length_eq_zero (by omega); simp [mask, pair, ofD]
  | succ n ih =>
    intro l hl hd
    match l, hl, hd with
    | d0 :: d1 :: l, hl, hd =>
      have h0 : d0 < 2 ^ s := hd d0 (by simp)
      have h1 : d1 < 2 ^ s := hd d1 (by simp)
      have ih' := ih l (by simp at hl; omega) (fun d h => hd d (by simp [h]))
      have hp : 0 < 2 ^ s := Nat.two_pow_pos s
      have hs2 := two_mul_pow s
      simp only [ofD, pair, mask]
      generalize hX : ofD s l = X at ih' ⊢
      have hlow : 2 ^ s - 1 < 2 ^ (2 * s) := by
        have : 2 ^ s ≤ 2 ^ (2 * s) := Nat.pow_le_pow_right (by omega) (by omega)
        omega
      have e1 : (d0 + 2 ^ s * (d1 + 2 ^ s * X)) / 2 ^ s = (d1 + 2 ^ s * (X % 2 ^ s)) + 2 ^ (2 * s) * (X / 2 ^ s) := by
        rw [Nat.add_mul_div_left _ _ hp, Nat.div_eq_of_lt h0, Nat.zero_add, hs2, Nat.mul_assoc, Nat.add_assoc, ← Nat.mul_add, Nat.mod_add_div]
      have e2 : d0 + 2 ^ s * (d1 + 2 ^ s * X) = (d0 + 2 ^ s * d1) + 2 ^ (2 * s) * X := by
        rw [hs2, Nat.mul_add, Nat.mul_assoc, Nat.add_assoc]
      have b1 : d1 + 2 ^ s * (X % 2 ^ s) < 2 ^ (2 * s) := by
        rw [hs2]
        have : X % 2 ^ s < 2 ^ s := Nat.mod_lt _ hp
        have : 2 ^ s * (X % 2 ^ s) ≤ 2 ^ s * (2 ^ s - 1) := Nat.mul_le_mul_left _ (by omega)
        rw [Nat.mul_sub, Nat.mul_one] at this
        have : 2 ^ s ≤ 2 ^ s * 2 ^ s := Nat.le_mul_of_pos_left _ hp
        omega
      have b2 : d0 + 2 ^ s * d1 < 2 ^ (2 * s) := by
        rw [hs2]
        have : 2 ^ s * d1 ≤ 2 ^ s * (2 ^ s - 1) := Nat.mul_le_mul_left _ (by omega)
        rw [Nat.mul_sub, Nat.mul_one] at this
        have : 2 ^ s ≤ 2 ^ s * 2 ^ s := Nat.le_mul_of_pos_left _ hp
        omega
      rw [e1, e2, and_split _ _ _ _ _ b1 hlow, and_split _ _ _ _ _ b2 hlow, and_low _ _ _ h1, and_low _ _ _ h0, ← ih', Nat.mul_add]
      omega

theorem step_add (n : Nat) : ∀ l : List Nat, l.length = 2 * n → (∀ d ∈ l, d ≤ 4) →
    ((ofD 4 l / 16 + ofD 4 l) &&& mask 4 n) = ofD 8 (pair l) := by
  induction n with
  | zero => intro l hl _; obtain rfl : l = [] := List.eq_nil_of_length_eq_zero (by omega); simp [mask, pair, ofD]
  | succ n ih =>
    intro l hl hd
    match l, hl, hd with
    | d0 :: d1 :: l, hl, hd =>
      have h0 : d0 ≤ 4 := hd d0 (by simp)
      have h1 : d1 ≤ 4 := hd d1 (by simp)
      have ih' := ih l (by simp at hl; omega) (fun d h => hd d (by simp [h]))
      simp only [ofD, pair, mask]
      have hX : ∃ d2 Y, d2 ≤ 4 ∧ ofD 4 l = d2 + 16 * Y := by
        match l, hd with
        | [], _ => exact ⟨0, 0, by omega, rfl⟩
        | d :: l, hd => exact ⟨d, ofD 4 l, hd d (by simp), rfl⟩
      obtain ⟨d2, Y, h2, hY⟩ := hX
      rw [hY] at ih' ⊢
      have e1 : (d0 + 2 ^ 4 * (d1 + 2 ^ 4 * (d2 + 16 * Y))) / 16 + (d0 + 2 ^ 4 * (d1 + 2 ^ 4 * (d2 + 16 * Y))) = ((d0 + d1) + 2 ^ 4 * (d1 + d2)) + 2 ^ 8 * ((d2 + 16 * Y) / 16 + (d2 + 16 * Y)) := by omega
      rw [e1, show 2 * 4 = 8 from rfl, and_split 8 _ _ _ _ (by omega) (by omega), ih', and_low 4 _ _ (by omega)]

theorem sum_pair (n : Nat) : ∀ l : List Nat, l.length = 2 * n → (pair l).sum = l.sum := by
  induction n with
  | zero => intro l hl; obtain rfl : l = [] := List.eq_nil_of_length_eq_zero (by omega); rfl
  | succ n ih =>
    intro l hl
    match l, hl with
    | d0 :: d1 :: l, hl =>
      simp only [pair, List.sum_cons, ih l (by simp at hl; omega)]
      omega

theorem length_pair (n : Nat) : ∀ l : List Nat, l.length = 2 * n → (pair l).length = n := by
  induction n with
  | zero => intro l hl; obtain rfl : l = [] := List.eq_nil_of_length_eq_zero (by omega); rfl
  | succ n ih =>
    intro l hl
    match l, hl with
    | d0 :: d1 :: l, hl => simp only [pair, List.length_cons, ih l (by simp at hl; omega)]

theorem le_pair (m : Nat) : ∀ (n : Nat) (l : List Nat), l.length = 2 * n → (∀ d ∈ l, d ≤ m) → ∀ d ∈ pair l, d ≤ 2 * m := by
  intro n
  induction n with
  | zero => intro l hl _; obtain rfl : l = [] := List.eq_nil_of_length_eq_zero (by omega); intro d hd; cases hd
  | succ n ih =>
    intro l hl hd
    match l, hl, hd with
    | d0 :: d1 :: l, hl, hd =>
      intro d h
      have a := hd d0 (by simp)
      have b := hd d1 (by simp)
      rcases List.mem_cons.1 h with rfl | h
      · omega
      · exact ih l (by simp at hl; omega) (fun d h => hd d (by simp [h])) d h

theorem fold1 (x a b B C : Nat) (ha : a ≤ 8) (hx : x = a + 256 * B) (hB : B = b + 256 * C) : x / 256 = B ∧ x + B = (a + b) + 256 * (B + C) := by omega
theorem fold2 (y p q Y : Nat) (hp : p ≤ 16) (hq : q ≤ 16) (hy : y = p + 256 * (q + 256 * Y)) : y / 65536 = Y := by omega
theorem fold3 (z p q r s T : Nat) (hp : p ≤ 32) (hq : q ≤ 32) (hr : r ≤ 32) (hs : s ≤ 32) (hz : z = p + 256 * (q + 256 * (r + 256 * (s + 256 * T)))) : z / 4294967296 = T := by omega
theorem fold4 (z p t U V n : Nat) (hz : z = p + 256 * V) (T : Nat) (hT : T = t + 256 * U) (hn : n = p + t) (h : n ≤ 64) : (z + T) % 128 = n := by omega

theorem last8' (a b c d e f g h : Nat) (ha : a ≤ 8) (hb : b ≤ 8) (hc : c ≤ 8) (hd : d ≤ 8) (he : e ≤ 8) (hf : f ≤ 8) (hg : g ≤ 8) (hh : h ≤ 8) (x : Nat)
    (hx : x = a + 2 ^ 8 * (b + 2 ^ 8 * (c + 2 ^ 8 * (d + 2 ^ 8 * (e + 2 ^ 8 * (f + 2 ^ 8 * (g + 2 ^ 8 * (h + 2 ^ 8 * 0)))))))) :
    ((x + x / 256 + (x + x / 256) / 65536) + (x + x / 256 + (x + x / 256) / 65536) / 4294967296) % 128 = a + (b + (c + (d + (e + (f + (g + (h + 0))))))) := by
  obtain ⟨G, hG⟩ : ∃ G, G = g + 256 * h := ⟨_, rfl⟩
  obtain ⟨F, hF⟩ : ∃ F, F = f + 256 * G := ⟨_, rfl⟩
  obtain ⟨E, hE⟩ : ∃ E, E = e + 256 * F := ⟨_, rfl⟩
  obtain ⟨D, hD⟩ : ∃ D, D = d + 256 * E := ⟨_, rfl⟩
  obtain ⟨C, hC⟩ : ∃ C, C = c + 256 * D := ⟨_, rfl⟩
  obtain ⟨B, hB⟩ : ∃ B, B = b + 256 * C := ⟨_, rfl⟩
  have hx' : x = a + 256 * B := by rw [hx, hB, hC, hD, hE, hF, hG]; simp only [Nat.mul_zero, Nat.add_zero, show (2 : Nat) ^ 8 = 256 from rfl]
  obtain ⟨q1, y1⟩ := fold1 x a b B C ha hx' hB
  rw [q1]
  have yB : B + C = (b + c) + 256 * (C + D) := by omega
  have yC : C + D = (c + d) + 256 * (D + E) := by omega
  have yD : D + E = (d + e) + 256 * (E + F) := by omega
  have yE : E + F = (e + f) + 256 * (F + G) := by omega
  have yF : F + G = (f + g) + 256 * (G + h) := by omega
  have yG : G + h = (g + h) + 256 * h := by omega
  rw [yB] at y1
  clear hx hx' hB hC hD hE hF hG q1
  have q2 := fold2 (x + B) (a + b) (b + c) (C + D) (by omega) (by omega) y1
  rw [q2, y1]
  clear y1 q2 yB
  generalize C + D = CD at *
  generalize D + E = DE at *
  generalize E + F = EF at *
  generalize F + G = FG at *
  generalize G + h = GH at *
  have z1 : (a + b) + 256 * ((b + c) + 256 * CD) + CD = (a + b + c + d) + 256 * ((b + c + d + e) + 256 * ((c + d + e + f) + 256 * ((d + e + f + g) + 256 * (EF + GH)))) := by omega
  have z2 : EF + GH = (e + f + g + h) + 256 * (FG + h) := by omega
  rw [z1, fold3 _ _ _ _ _ _ (by omega) (by omega) (by omega) (by omega) rfl]
  exact fold4 _ _ _ _ _ _ rfl _ z2 (by omega) (by omega)

theorem last8 (l : List Nat) (hl : l.length = 8) (hd : ∀ d ∈ l, d ≤ 8) :
    let x := ofD 8 l
    let y := x + x / 256
    let z := y + y / 65536
    (z + z / 4294967296) % 128 = l.sum ∧ x < 2 ^ 60 ∧ l.sum ≤ 64 := by
  match l, hl, hd with
  | [a, b, c, d, e, f, g, h], _, hd =>
    simp only [List.mem_cons, List.not_mem_nil, or_false, forall_eq_or_imp, forall_eq] at hd
    obtain ⟨ha, hb, hc, hd, he, hf, hg, hh⟩ := hd
    simp only [ofD, List.sum_cons, List.sum_nil]
    exact ⟨last8' a b c d e f g h ha hb hc hd he hf hg hh _ rfl, by omega, by omega⟩

/-- The bits of a number, the least first. -/
def bitsOf (x : Nat) : Nat → List Nat
  | 0 => []
  | n + 1 => x % 2 :: bitsOf (x / 2) n

theorem bitsOf_length (x n : Nat) : (bitsOf x n).length = n := by
  induction n generalizing x with
  | zero => rfl
  | succ n ih => simp [bitsOf, ih]
theorem bitsOf_le (x n : Nat) : ∀ d ∈ bitsOf x n, d ≤ 1 := by
  induction n generalizing x with
  | zero => intro d h; cases h
  | succ n ih =>
    intro d h
    rcases List.mem_cons.1 h with rfl | h
    · omega
    · exact ih _ d h
theorem ofD_bitsOf (x n : Nat) (hx : x < 2 ^ n) : ofD 1 (bitsOf x n) = x := by
  induction n generalizing x with
  | zero => simp at hx; subst hx; rfl
  | succ n ih =>
    have := ih (x / 2) (by rw [Nat.pow_succ] at hx; omega)
    simp only [bitsOf, ofD, this]
    omega

/-- How many bits of a number are set. -/
def popc (x : Nat) : Nat := (bitsOf x 64).sum

theorem m0 : mask 1 32 = 6148914691236517205 := by decide +kernel
theorem m1 : mask 2 16 = 3689348814741910323 := by decide +kernel
theorem m2 : mask 4 8 = 1085102592571150095 := by decide +kernel

def s1 (x : Nat) : Nat := ((x / 2) &&& 6148914691236517205) + (x &&& 6148914691236517205)
def s2 (x : Nat) : Nat := ((x / 4) &&& 3689348814741910323) + (x &&& 3689348814741910323)
def s3 (x : Nat) : Nat := ((x / 16) + x) &&& 1085102592571150095

/-- What is left behind the first three steps: eight counts of eight bits, side by side. -/
theorem steps (x : Nat) (hx : x < 2 ^ 64) : ∃ l : List Nat, l.length = 8 ∧ (∀ d ∈ l, d ≤ 8) ∧ s3 (s2 (s1 x)) = ofD 8 l ∧ l.sum = popc x := by
  have l0 := bitsOf_length x 64
  have b0 := bitsOf_le x 64
  have e0 := ofD_bitsOf x 64 hx
  unfold popc
  generalize bitsOf x 64 = l at l0 b0 e0 ⊢
  have l1 := length_pair 32 l l0
  have b1 := le_pair 1 32 l l0 b0
  have e1 := step_and 1 32 l l0 (fun d h => by have := b0 d h; omega)
  have l2 := length_pair 16 _ l1
  have b2 := le_pair 2 16 _ l1 b1
  have e2 := step_and 2 16 _ l1 (fun d h => by have := b1 d h; omega)
  have l3 := length_pair 8 _ l2
  have b3 := le_pair 4 8 _ l2 b2
  have e3 := step_add 8 _ l2 b2
  refine ⟨_, l3, b3, ?_, by rw [sum_pair 8 _ l2, sum_pair 16 _ l1, sum_pair 32 _ l0]⟩
  rw [m0, e0] at e1
  rw [m1] at e2
  rw [m2] at e3
  unfold s3 s2 s1
  have e1' : (x / 2 &&& 6148914691236517205) + (x &&& 6148914691236517205) = ofD 2 (pair l) := e1
  rw [e1']
  have e2' : (ofD 2 (pair l) / 4 &&& 3689348814741910323) + (ofD 2 (pair l) &&& 3689348814741910323) = ofD 4 (pair (pair l)) := e2
  rw [e2']
  exact e3

theorem ones (x : Nat) (hx : x < 2 ^ 64) :
    let a := s3 (s2 (s1 x))
    let y := a + a / 256
    let z := y + y / 65536
    (z + z / 4294967296) % 128 = popc x ∧ a < 2 ^ 60 ∧ popc x ≤ 64 := by
  obtain ⟨l, h1, h2, h3, h4⟩ := steps x hx
  rw [h3, ← h4]
  exact last8 l h1 h2

theorem s1_lt (x : Nat) : s1 x ≤ 12297829382473034410 := by
  unfold s1
  have := @Nat.and_le_right (x / 2) 6148914691236517205
  have := @Nat.and_le_right x 6148914691236517205
  omega
theorem s2_lt (x : Nat) : s2 x ≤ 7378697629483820646 := by
  unfold s2
  have := @Nat.and_le_right (x / 4) 3689348814741910323
  have := @Nat.and_le_right x 3689348814741910323
  omega

theorem bitsOf_get (x n i : Nat) (hi : i < n) : (bitsOf x n)[i]'(by rw [bitsOf_length]; exact hi) = (x.testBit i).toNat := by
  induction n generalizing x i with
  | zero => omega
  | succ n ih =>
    cases i with
    | zero => simp [bitsOf, Nat.testBit_zero]; rcases Nat.mod_two_eq_zero_or_one x with h | h <;> simp [h]
    | succ i =>
      simp only [bitsOf, List.getElem_cons_succ]
      rw [ih _ _ (by omega), Nat.testBit_succ]

theorem mem_le_sum {l : List Nat} {d : Nat} (h : d ∈ l) : d ≤ l.sum := by
  induction l with
  | nil => cases h
  | cons x l ih =>
    rw [List.sum_cons]
    rcases List.mem_cons.1 h with rfl | h
    · omega
    · have := ih h; omega

theorem sum_two {l : List Nat} (h1 : ∀ d ∈ l, d ≤ 1) (i j : Nat) (hij : i < j) (hj : j < l.length) (a : l[i]'(by omega) = 1) (b : l[j] = 1) : 1 < l.sum := by
  induction l generalizing i j with
  | nil => simp at hj
  | cons d l ih =>
    cases j with
    | zero => omega
    | succ j =>
      have hj' : j < l.length := by simpa using hj
      have hb : l[j] = 1 := by simpa using b
      cases i with
      | zero =>
        have hm : l[j] ≤ l.sum := mem_le_sum (List.getElem_mem hj')
        have : d = 1 := by simpa using a
        simp only [List.sum_cons]
        omega
      | succ i =>
        have := ih (fun d h => h1 d (by simp [h])) i j (by omega) hj' (by simpa using a) hb
        simp only [List.sum_cons]
        omega

theorem sum_le_one {l : List Nat} (h1 : ∀ d ∈ l, d ≤ 1) (h : ∀ i j (hi : i < l.length) (hj : j < l.length), l[i] = 1 → l[j] = 1 → i = j) : l.sum ≤ 1 := by
  induction l with
  | nil => simp
  | cons d l ih =>
    have ih' := ih (fun d h => h1 d (by simp [h])) (fun i j hi hj a b => by
      have := h (i + 1) (j + 1) (by simpa using hi) (by simpa using hj) (by simpa using a) (by simpa using b)
      omega)
    have hd := h1 d (by simp)
    by_cases e : d = 1
    · have : l.sum = 0 := by
        have hz : ∀ x ∈ l, x = 0 := by
          intro x hx
          obtain ⟨i, hi, rfl⟩ := List.getElem_of_mem hx
          have a := h1 l[i] (by simp)
          by_cases e' : l[i] = 1
          · have := h 0 (i + 1) (by simp) (by simpa using hi) (by simpa using e) (by simpa using e')
            omega
          · omega
        clear ih ih' h h1
        induction l with
        | nil => rfl
        | cons y l ih =>
          rw [List.sum_cons, hz y (by simp), ih (fun x hx => hz x (by simp [hx]))]
      simp only [List.sum_cons]
      omega
    · simp only [List.sum_cons]
      omega

/-- More than one bit is set just if two are. -/
theorem popc_two (x : Nat) (hx : x < 2 ^ 64) : 1 < popc x ↔ ∃ i j, i < j ∧ x.testBit i = true ∧ x.testBit j = true := by
  have hlt : ∀ i, x.testBit i = true → i < 64 := fun i h => by
    rcases Nat.lt_or_ge i 64 with h' | h'
    · exact h'
    · rw [Nat.testBit_lt_two_pow (Nat.lt_of_lt_of_le hx (Nat.pow_le_pow_right (by omega) h'))] at h
      cases h
  have hb := bitsOf_le x 64
  have hl := bitsOf_length x 64
  have hg := bitsOf_get x 64
  unfold popc
  constructor
  · intro h
    rcases Classical.em (∃ i j, i < j ∧ x.testBit i = true ∧ x.testBit j = true) with h' | h'
    · exact h'
    · exfalso
      have := sum_le_one hb (fun i j hi hj a b => by
        rw [hg i (by omega)] at a
        rw [hg j (by omega)] at b
        have a' : x.testBit i = true := by cases h : x.testBit i <;> simp [h] at a ⊢
        have b' : x.testBit j = true := by cases h : x.testBit j <;> simp [h] at b ⊢
        rcases Nat.lt_trichotomy i j with q | q | q
        · exact absurd ⟨i, j, q, a', b'⟩ h'
        · exact q
        · exact absurd ⟨j, i, q, b', a'⟩ h')
      omega
  · rintro ⟨i, j, hij, a, b⟩
    have := hlt j b
    exact sum_two hb i j hij (by omega) (by rw [hg i (by omega), a]; rfl) (by rw [hg j (by omega), b]; rfl)

end Go.Proofs.Ytpjlhpaenmfieaa.OnesM
