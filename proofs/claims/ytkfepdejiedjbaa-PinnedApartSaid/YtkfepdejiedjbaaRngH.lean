/- ranges.Set: Has. -/
import Derived.Test.YtkfepdejiedjbaaRngA
import Derived.Test.YtkfepdejiedjbaaSrcL
namespace Go.Proofs.Ytkfepdejiedjbaa
open Go.RowKit Go.Shelf Go.Lib Go.Sort

set_option maxHeartbeats 2000000 in
theorem hasLess_any (blk off c Bs Br size : Nat) (r : Int) (W : World) (G : Nat → Int) (hs : W.cell? ⟨Bs, 0, none⟩ = some (.slice (some ⟨blk, off, none⟩) size c)) (hr : W.cell? ⟨Br, 0, none⟩ = some (.int .i32 r))
    (hc : ∀ t, t < size → W.cell? ⟨blk, off + t * 2 + 1, none⟩ = some (.int .i32 (G t))) (i : Nat) (hi : i < size) (_hsz : size < 4611686018427387904) :
    Calls Try.prog 83 #[.int .i64 i, .pointer (some ⟨Bs, 0, none⟩), .pointer (some ⟨Br, 0, none⟩)] W fun e w' => e = .returned (.bool (decide (r ≤ G i))) ∧ ∃ q, w' = W.drewN q := by
  have ci := hc i hi
  go_enter Try.func83, Try.ntmps83
  go_wp2
  go_quiet (fail)
  go_wp2
  go_ret
  exact ⟨rfl, nq, rfl⟩

/-- How many ranges end below a rune. -/
def cntBelow (l : List (Int × Int)) (r : Int) : Nat := (List.range l.length).countP fun i => !decide (r ≤ (l.getD i (0, 0)).2)

theorem canon_one {l : List (Int × Int)} {lo : Int} (h : canonFrom lo l) : ∀ j (hj : j < l.length), l[j].1 ≤ l[j].2 := by
  induction l generalizing lo with
  | nil => intro j hj; simp at hj
  | cons p l ih =>
    intro j hj
    cases j with
    | zero => exact h.2.1
    | succ j => simpa using ih h.2.2.2 j (by simpa using hj)

theorem canon_at {l : List (Int × Int)} {lo : Int} (h : canonFrom lo l) : ∀ i j (hij : i < j) (hj : j < l.length), l[i].2 + 2 ≤ l[j].1 := by
  induction l generalizing lo with
  | nil => intro i j _ hj; simp at hj
  | cons p l ih =>
    obtain ⟨h1, h2, h3, h4⟩ := h
    intro i j hij hj
    cases j with
    | zero => omega
    | succ j =>
      cases i with
      | zero =>
        have hj' : j < l.length := by simpa using hj
        have : inT l l[j].1 = true := inT_yes j hj' (Int.le_refl _) (by
          have := canon_one h4 j hj'; exact this)
        have := (canonFrom_in h4 this).1
        simpa using this
      | succ i => simpa using ih h4 i j (by omega) (by simpa using hj)

theorem countP_anti {n : Nat} {q : Nat → Bool} (h : ∀ a b, a ≤ b → b < n → q b = true → q a = true) : (List.range n).countP q ≤ n ∧ ∀ j, j < n → q j = decide (j < (List.range n).countP q) := by
  induction n with
  | zero => simp
  | succ n ih =>
    obtain ⟨h1, h2⟩ := ih fun a b hab hb => h a b hab (by omega)
    rw [List.range_succ, List.countP_append]
    cases hq : q n with
    | true =>
      have hall : (List.range n).countP q = n := by
        have := List.countP_eq_length (p := q) (l := List.range n)
        rw [List.length_range] at this
        exact this.2 fun a ha => h a n (by have := List.mem_range.1 ha; omega) (by omega) hq
      have hs : List.countP q [n] = 1 := by simp [hq]
      rw [hall, hs]
      refine ⟨Nat.le_refl _, fun j hj => ?_⟩
      rw [h j n (by omega) (by omega) hq]
      simp [hj]
    | false =>
      have hs : List.countP q [n] = 0 := by simp [hq]
      rw [hs, Nat.add_zero]
      refine ⟨by omega, fun j hj => ?_⟩
      by_cases e : j = n
      · subst e; rw [hq]; simp; omega
      · exact h2 j (by omega)

theorem below_mono {l : List (Int × Int)} {lo r : Int} (h : canonFrom lo l) : ∀ a b, a ≤ b → b < l.length → (!decide (r ≤ (l.getD b (0, 0)).2)) = true → (!decide (r ≤ (l.getD a (0, 0)).2)) = true := by
  intro a b hab hb hq
  have ha : a < l.length := by omega
  simp only [List.getD_eq_getElem?_getD, List.getElem?_eq_getElem hb, List.getElem?_eq_getElem ha, Option.getD_some] at hq ⊢
  by_cases e : a = b
  · subst e; exact hq
  · have h1 := canon_at h a b (by omega) hb
    have h2 := canon_one h b hb
    simp at hq ⊢
    omega

theorem has_of_cnt {l : List (Int × Int)} {lo r : Int} (h : canonFrom lo l) : cntBelow l r ≤ l.length ∧ inT l r = decide (cntBelow l r < l.length ∧ (l.getD (cntBelow l r) (0, 0)).1 ≤ r) := by
  obtain ⟨h1, h2⟩ := countP_anti (below_mono (r := r) h)
  change cntBelow l r ≤ _ at h1
  change ∀ j, j < l.length → _ = decide (j < cntBelow l r) at h2
  refine ⟨h1, ?_⟩
  have h3 : ∀ j (hj : j < l.length), (l[j].2 < r ↔ j < cntBelow l r) := by
    intro j hj
    have := h2 j hj
    simp only [List.getD_eq_getElem?_getD, List.getElem?_eq_getElem hj, Option.getD_some] at this
    rw [Bool.eq_iff_iff] at this
    simpa using this
  by_cases hc : cntBelow l r < l.length
  · have hg : l.getD (cntBelow l r) (0, 0) = l[cntBelow l r] := by simp [List.getD_eq_getElem?_getD, hc]
    rw [hg]
    have hn := h3 _ hc
    by_cases h4 : l[cntBelow l r].1 ≤ r
    · rw [inT_yes _ hc h4 (by omega)]
      simp [hc, h4]
    · rw [inT_no fun k hk => ?_]
      · simp [h4]
      · by_cases h5 : k < cntBelow l r
        · exact .inr ((h3 k hk).2 h5)
        · refine .inl ?_
          by_cases e : k = cntBelow l r
          · subst e; omega
          · have := canon_at h (cntBelow l r) k (by omega) hk
            omega
  · rw [inT_no fun k hk => .inr ((h3 k hk).2 (by omega))]
    simp [hc]

set_option maxRecDepth 100000 in
set_option maxHeartbeats 1000000 in
theorem setHas_any (A : Option Addr) (c : Nat) (l : List (Int × Int)) (r : Int) (w : World) (h : RngAt w w.heap.size A l) (hl : l.length ≤ 10000000) (hcan : canonFrom 0 l) :
    Calls Try.prog 41 #[.agg #[.slice A l.length c], .int .i32 r] w (fun e w' => e = .returned (.bool (inT l r)) ∧ Ext w w') := by
  obtain ⟨hcnt, hin⟩ := has_of_cnt (r := r) hcan
  obtain ⟨W0, hW0⟩ : ∃ W0, W0 = (w.alloc (.cells #[.slice A l.length c] 49)).alloc (.cells #[.int .i32 r] 21) := ⟨_, rfl⟩
  have hsize : W0.heap.size = w.heap.size + 1 + 1 := by rw [hW0]; simp
  have hE0 : Ext w W0 := by rw [hW0]; exact ((Ext.rfl' w).alloc (Nat.le_refl _) _).alloc (by simp) _
  have ca : W0.cell? ⟨w.heap.size, 0, none⟩ = some (.slice A l.length c) := by
    rw [hW0]; exact ((Blk.new w 49 #[.slice A l.length c]).alloc _).cell 0
  have cx : W0.cell? ⟨w.heap.size + 1, 0, none⟩ = some (.int .i32 r) := by
    rw [hW0]; simp
  have hS := Any.sort_Search (P := Try.prog) Try.sl16 83 #[.pointer (some ⟨w.heap.size, 0, none⟩), .pointer (some ⟨w.heap.size + 1, 0, none⟩)] l.length (fun i => decide (r ≤ (l.getD i (0, 0)).2)) W0
    (enters_of Try.func83 (by kernel_rfl) rfl) (by omega)
    (fun m os i hi => by
      obtain ⟨b, o, rfl, hbs, hcell⟩ := h.cell (by omega)
      refine (hasLess_any b o c w.heap.size (w.heap.size + 1) l.length r (grow (W0.drewN m) os) (fun t => (l.getD t (0, 0)).2) ?_ ?_ (fun t ht => ?_) i hi (by omega)).mono fun _ _ ⟨he, q, hq⟩ => ⟨he, q, #[], by rw [hq, grow_empty]⟩
      · rw [cell?_grow _ _ _ (by simp [hsize]; omega)]; exact ca
      · rw [cell?_grow _ _ _ (by simp [hsize])]; exact cx
      · rw [cell?_grow _ _ _ (by simp [hsize]; omega)]
        refine ((hE0.cell (p := ⟨b, o + t * 2 + 1, none⟩) hbs).trans (hcell t ht).2).trans ?_
        simp [List.getD_eq_getElem?_getD, ht])
    (fun a b hab hb hq => by
      cases hx : decide (r ≤ (l.getD b (0, 0)).2) with
      | true => rfl
      | false => exact absurd (below_mono (r := r) hcan a b hab hb (by rw [hx]; rfl)) (by rw [hq]; decide))
  obtain ⟨cn, hcn⟩ : ∃ cn, cn = cntBelow l r := ⟨_, rfl⟩
  change Calls Try.prog 82 _ _ (fun e w' => e = .returned (.int .i64 (cntBelow l r : Nat)) ∧ _) at hS
  rw [← hcn] at hS hcnt hin
  have HS := hide hS
  have HIN := hide hin
  have HE0 := hide hE0
  have CA := hide ca
  have CX := hide cx
  have HSZ := hide hsize
  clear hS hin hcn hE0 ca cx hsize
  go_enter Try.func41, Try.ntmps41
  go_wp2_with fail
  rw [← hW0]
  refine HS.out.mono ?_
  rintro e w1 ⟨rfl, q, os, rfl⟩
  have hE1 : Ext W0 (grow (W0.drewN q) os) := ⟨rfl, rfl, rfl, by simp [grow], fun k hk => by simp only [grow]; rw [Array.getElem?_append_left (xs := (W0.drewN q).heap) hk]; rfl⟩
  have ca1 : (grow (W0.drewN q) os).cell? ⟨w.heap.size, 0, none⟩ = some (.slice A l.length c) := (hE1.cell (p := ⟨w.heap.size, 0, none⟩) (by rw [HSZ.out]; show w.heap.size < _; omega)).trans CA.out
  have cx1 : (grow (W0.drewN q) os).cell? ⟨w.heap.size + 1, 0, none⟩ = some (.int .i32 r) := (hE1.cell (p := ⟨w.heap.size + 1, 0, none⟩) (by rw [HSZ.out]; show w.heap.size + 1 < _; omega)).trans CX.out
  have HE1 := hide (Ext.trans' HE0.out hE1)
  by_cases hc : cn < l.length
  · obtain ⟨b, o, rfl, hbs, hcell⟩ := h.cell (by omega)
    have q1 := ((Ext.trans' HE0.out hE1).cell (p := ⟨b, o + cn * 2, none⟩) hbs).trans (hcell cn hc).1
    obtain ⟨lo, hlo⟩ : ∃ lo, lo = l[cn].1 := ⟨_, rfl⟩
    rw [← hlo] at q1
    have hd : inT l r = decide (lo ≤ r) := by
      rw [HIN.out, hlo]
      simp [hc, List.getD_eq_getElem?_getD]
    have HD := hide hd
    obtain ⟨W1, hW1⟩ : ∃ W1, W1 = grow (W0.drewN q) os := ⟨_, rfl⟩
    rw [← hW1] at ca1 cx1 q1 HE1 ⊢
    clear hcell hlo hd hE1 hW1 hW0
    by_cases hlr : lo ≤ r
    · go_wp2_with fail
      go_quiet (fail)
      go_wp2_with fail
      go_ret
      exact ⟨ret_bool (by rw [HD.out] <;> simp [hlr]), below_drewN HE1.out _⟩
    · go_wp2_with fail
      go_quiet (fail)
      go_wp2_with fail
      go_ret
      exact ⟨ret_bool (by rw [HD.out] <;> simp [hlr]), below_drewN HE1.out _⟩
  · have hd : inT l r = false := by rw [HIN.out]; simp [hc]
    have HD := hide hd
    obtain ⟨W1, hW1⟩ : ∃ W1, W1 = grow (W0.drewN q) os := ⟨_, rfl⟩
    rw [← hW1] at ca1 cx1 HE1 ⊢
    clear hd hE1 hW1 hW0
    go_wp2_with fail
    go_quiet (fail)
    go_wp2_with fail
    go_ret
    exact ⟨ret_bool (by rw [HD.out]), below_drewN HE1.out _⟩

end Go.Proofs.Ytkfepdejiedjbaa
