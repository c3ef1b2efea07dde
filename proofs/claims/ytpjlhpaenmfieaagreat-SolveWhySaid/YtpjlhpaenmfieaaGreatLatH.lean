/- The Lattice's block in memory, and what bounds holds of the world. -/
import Derived.Test.YtpjlhpaenmfieaaGreatLatZ
import Derived.Test.YtpjlhpaenmfieaaGreatLatPl
import Derived.Test.YtpjlhpaenmfieaaGreatRelAll
namespace Go.Proofs.YtpjlhpaenmfieaaGreat
open Go.RowKit

/-- The Lattice's block: names, table, relation, joins and meets. -/
def LBlk (w : World) (g : Nat) (c0 c1 c2 : Value) (J M : Nat → Nat → Int) : Prop :=
  ∃ cs : Array Value, Blk w g 78 cs ∧ cs.size = 2051 ∧ cs[0]? = some c0 ∧ cs[1]? = some c1 ∧ cs[2]? = some c2 ∧
    (∀ a b, a < 32 → b < 32 → cs[3 + a * 32 + b]? = some (.int .i64 (J a b))) ∧ ∀ a b, a < 32 → b < 32 → cs[1027 + a * 32 + b]? = some (.int .i64 (M a b))
def upd (J : Nat → Nat → Int) (a b : Nat) (v : Int) : Nat → Nat → Int := fun x y => if x = a ∧ y = b then v else J x y
theorem place_inj {a b x y : Nat} (hb : b < 32) (hy : y < 32) (h : a * 32 + b = x * 32 + y) : x = a ∧ y = b := by omega

section
variable {w w' : World} {g : Nat} {c0 c1 c2 : Value} {J M : Nat → Nat → Int}
theorem LBlk.lt (h : LBlk w g c0 c1 c2 J M) : g < w.heap.size := by obtain ⟨cs, h1, _⟩ := h; exact h1.lt
theorem LBlk.free (h : LBlk w g c0 c1 c2 J M) (i : Nat) : w.frozen? ⟨g, i, none⟩ = false := by obtain ⟨cs, h1, _⟩ := h; exact h1.free i
theorem LBlk.cell0 (h : LBlk w g c0 c1 c2 J M) : w.cell? ⟨g, 0, none⟩ = some c0 := by obtain ⟨cs, h1, _, h2, _⟩ := h; rw [h1.cell]; exact h2
theorem LBlk.cell1 (h : LBlk w g c0 c1 c2 J M) : w.cell? ⟨g, 1, none⟩ = some c1 := by obtain ⟨cs, h1, _, _, h2, _⟩ := h; rw [h1.cell]; exact h2
theorem LBlk.cell2 (h : LBlk w g c0 c1 c2 J M) : w.cell? ⟨g, 2, none⟩ = some c2 := by obtain ⟨cs, h1, _, _, _, h2, _⟩ := h; rw [h1.cell]; exact h2
theorem LBlk.cellJ (h : LBlk w g c0 c1 c2 J M) {a b : Nat} (ha : a < 32) (hb : b < 32) : w.cell? ⟨g, 3 + a * 32 + b, none⟩ = some (.int .i64 (J a b)) := by obtain ⟨cs, h1, _, _, _, _, h2, _⟩ := h; rw [h1.cell]; exact h2 a b ha hb
theorem LBlk.cellM (h : LBlk w g c0 c1 c2 J M) {a b : Nat} (ha : a < 32) (hb : b < 32) : w.cell? ⟨g, 1027 + a * 32 + b, none⟩ = some (.int .i64 (M a b)) := by obtain ⟨cs, h1, _, _, _, _, _, h2⟩ := h; rw [h1.cell]; exact h2 a b ha hb
theorem LBlk.setJ (h : LBlk w g c0 c1 c2 J M) {a b : Nat} (ha : a < 32) (hb : b < 32) (v : Int) : LBlk (w.setCell ⟨g, 3 + a * 32 + b, none⟩ (.int .i64 v)) g c0 c1 c2 (upd J a b v) M := by
  obtain ⟨cs, h1, hs, e0, e1, e2, e3, e4⟩ := h
  refine ⟨_, h1.set_ _ _, by simp [hs], ?_, ?_, ?_, fun x y hx hy => ?_, fun x y hx hy => ?_⟩
  · rw [Array.getElem?_setIfInBounds, if_neg (by omega), e0]
  · rw [Array.getElem?_setIfInBounds, if_neg (by omega), e1]
  · rw [Array.getElem?_setIfInBounds, if_neg (by omega), e2]
  · rw [Array.getElem?_setIfInBounds]
    unfold upd
    by_cases e : x = a ∧ y = b
    · rw [if_pos (by rw [e.1, e.2]), if_pos (by omega), if_pos e]
    · rw [if_neg (fun h => e (place_inj hb hy (by omega))), if_neg e, e3 x y hx hy]
  · rw [Array.getElem?_setIfInBounds, if_neg (by omega), e4 x y hx hy]
theorem LBlk.setM (h : LBlk w g c0 c1 c2 J M) {a b : Nat} (ha : a < 32) (hb : b < 32) (v : Int) : LBlk (w.setCell ⟨g, 1027 + a * 32 + b, none⟩ (.int .i64 v)) g c0 c1 c2 J (upd M a b v) := by
  obtain ⟨cs, h1, hs, e0, e1, e2, e3, e4⟩ := h
  refine ⟨_, h1.set_ _ _, by simp [hs], ?_, ?_, ?_, fun x y hx hy => ?_, fun x y hx hy => ?_⟩
  · rw [Array.getElem?_setIfInBounds, if_neg (by omega), e0]
  · rw [Array.getElem?_setIfInBounds, if_neg (by omega), e1]
  · rw [Array.getElem?_setIfInBounds, if_neg (by omega), e2]
  · rw [Array.getElem?_setIfInBounds, if_neg (by omega), e3 x y hx hy]
  · rw [Array.getElem?_setIfInBounds]
    unfold upd
    by_cases e : x = a ∧ y = b
    · rw [if_pos (by rw [e.1, e.2]), if_pos (by omega), if_pos e]
    · rw [if_neg (fun h => e (place_inj hb hy (by omega))), if_neg e, e4 x y hx hy]
theorem LBlk.of_block (h : LBlk w g c0 c1 c2 J M) (hb : w'.heap[g]? = w.heap[g]?) : LBlk w' g c0 c1 c2 J M := by
  obtain ⟨cs, h1, h2⟩ := h
  exact ⟨cs, hb.trans h1, h2⟩
theorem LBlk.ext (h : LBlk w g c0 c1 c2 J M) (hE : Ext w w') : LBlk w' g c0 c1 c2 J M := h.of_block (hE.block g h.lt)
theorem LBlk.far (h : LBlk w g c0 c1 c2 J M) {p : Addr} (hp : g ≠ p.block) (u : Value) : LBlk (w.setCell p u) g c0 c1 c2 J M := h.of_block (Below.heap_setCell w p u g hp)
theorem Blk.new_eq (w : World) (t : TypeId) (cs : Array Value) {g : Nat} (h : g = w.heap.size) : Blk (w.alloc (.cells cs t)) g t cs := by subst h; exact Blk.new w t cs
theorem Blk.of_block {t : TypeId} {cs : Array Value} (h : Blk w g t cs) (hb : w'.heap[g]? = w.heap[g]?) : Blk w' g t cs := hb.trans h
/-- A relation's blocks are none of another type's. -/
theorem RelAt.kept {gr : Nat} {rs : List Nat} {t : TypeId} {cs : Array Value} (hr : RelAt w gr rs) (hB : Blk w g t cs) (n1 : t ≠ 126) (n2 : t ≠ 127) (hb : ∀ k, k < w.heap.size → k ≠ g → w'.heap[k]? = w.heap[k]?) : RelAt w' gr rs := by
  obtain ⟨A, c, h1, h2, h3, h4⟩ := hr
  have ne1 : gr ≠ g := by
    rintro rfl
    unfold Blk at h1 hB
    rw [h1] at hB
    injection hB with hB
    injection hB with _ hB
    exact n1 hB.symm
  refine ⟨A, c, h1.of_block (hb gr h1.lt ne1), ⟨h2.1, ?_⟩, h3, h4⟩
  rcases h2.2 with h5 | ⟨b, cap, cur, hv, hg, hh, r⟩
  · exact .inl h5
  · have ne2 : b ≠ g := by
      rintro rfl
      unfold Blk at hB
      rw [hh] at hB
      injection hB with hB
      injection hB with _ hB
      exact n2 hB.symm
    exact .inr ⟨b, cap, cur, hv, hg, by rw [hb b (h2.lt b (by rw [hv]; rfl)).2 ne2]; exact hh, r⟩
end

/-- What holds of the world while bounds runs. -/
structure BMem (w : World) (g gr : Nat) (rs : List Nat) (c0 c1 : Value) (J M : Nat → Nat → Int) (wr : World) : Prop where
  grown : w.grownBy wr (some g)
  t : Blk wr w.heap.size 28 #[.pointer (some ⟨g, 0, none⟩)]
  d : Blk wr (w.heap.size + 1) 98 #[.func (.func 79) #[] #[.pointer (some ⟨w.heap.size, 0, none⟩)]]
  u : Blk wr (w.heap.size + 2) 98 #[.func (.func 81) #[] #[.pointer (some ⟨w.heap.size, 0, none⟩)]]
  l : LBlk wr g c0 c1 (.pointer (some ⟨gr, 0, none⟩)) J M
  r : RelAt wr gr rs
  lt : g < w.heap.size
section
variable {w wr w' : World} {g gr : Nat} {rs : List Nat} {c0 c1 : Value} {J M : Nat → Nat → Int}
theorem BMem.keep (h : BMem w g gr rs c0 c1 J M wr) (hg : wr.grownBy w' none) : BMem w g gr rs c0 c1 J M w' := by
  have hE := ext_of_grown hg
  exact ⟨h.grown.trans (hg.but _), h.t.ext hE, h.d.ext hE, h.u.ext hE, h.l.ext hE, h.r.ext hE, h.lt⟩
theorem BMem.alloc (h : BMem w g gr rs c0 c1 J M wr) (o : Obj) : BMem w g gr rs c0 c1 J M (wr.alloc o) := h.keep (World.grownBy_alloc wr o _)
theorem BMem.drew (h : BMem w g gr rs c0 c1 J M wr) : BMem w g gr rs c0 c1 J M wr.drew := h.keep (grown_of_ext (Ext.rfl' wr).drew' _)
theorem grownBy_setCell {b : Nat} (wr : World) (p : Addr) (u : Value) (hp : p.block = b) : wr.grownBy (wr.setCell p u) (some b) := by
  subst hp
  exact ⟨rfl, rfl, rfl, by simp, fun k _ hk => Below.heap_setCell wr p u k (fun e => hk (by rw [e]))⟩
theorem BMem.var (h : BMem w g gr rs c0 c1 J M wr) {b : Nat} {cs : Array Value} (hB : Blk wr b 3 cs) (hb : w.heap.size + 3 ≤ b) (i : Nat) (u : Value) : BMem w g gr rs c0 c1 J M (wr.setCell ⟨b, i, none⟩ u) := by
  have hl := h.lt
  exact ⟨⟨h.grown.os, h.grown.tape, h.grown.output, by simpa using h.grown.size, fun k hk hne => by rw [Below.heap_setCell wr ⟨b, i, none⟩ u k (by show k ≠ b; omega)]; exact h.grown.block k hk hne⟩,
    h.t.far (by show _ ≠ b; omega) _, h.d.far (by show _ ≠ b; omega) _, h.u.far (by show _ ≠ b; omega) _, h.l.far (by show _ ≠ b; omega) _,
    h.r.kept hB (by decide) (by decide) (fun k _ hk => Below.heap_setCell wr _ u k hk), hl⟩
theorem BMem.cell (h : BMem w g gr rs c0 c1 J M wr) (i : Nat) (u : Value) {J' M' : Nat → Nat → Int} (hL : LBlk (wr.setCell ⟨g, i, none⟩ u) g c0 c1 (.pointer (some ⟨gr, 0, none⟩)) J' M') : BMem w g gr rs c0 c1 J' M' (wr.setCell ⟨g, i, none⟩ u) := by
  have hl := h.lt
  refine ⟨h.grown.trans (grownBy_setCell wr _ u rfl), h.t.far (by show _ ≠ g; omega) _, h.d.far (by show _ ≠ g; omega) _, h.u.far (by show _ ≠ g; omega) _, hL, ?_, hl⟩
  obtain ⟨cs, hB, _⟩ := h.l
  exact h.r.kept hB (by decide) (by decide) (fun k _ hk => Below.heap_setCell wr _ u k hk)
theorem BMem.setJ (h : BMem w g gr rs c0 c1 J M wr) {a b : Nat} (ha : a < 32) (hb : b < 32) (v : Int) : BMem w g gr rs c0 c1 (upd J a b v) M (wr.setCell ⟨g, 3 + a * 32 + b, none⟩ (.int .i64 v)) := h.cell _ _ (h.l.setJ ha hb v)
theorem BMem.setM (h : BMem w g gr rs c0 c1 J M wr) {a b : Nat} (ha : a < 32) (hb : b < 32) (v : Int) : BMem w g gr rs c0 c1 J (upd M a b v) (wr.setCell ⟨g, 1027 + a * 32 + b, none⟩ (.int .i64 v)) := h.cell _ _ (h.l.setM ha hb v)
/-- Which joins stand in the table: all of the levels ahead of b, and those of b with the ones ahead of a. -/
def DoneTo (F : Nat → Nat → Int) (J : Nat → Nat → Int) (b a : Nat) : Prop := ∀ x y, (x < b ∧ y < b) ∨ (y = b ∧ x < a) ∨ (x = b ∧ y < a) → J x y = F x y
theorem DoneTo.step {F J : Nat → Nat → Int} {b a : Nat} (h : DoneTo F J b a) (hc : F a b = F b a) : DoneTo F (upd (upd J a b (F a b)) b a (F a b)) b (a + 1) ∧ DoneTo F (upd (upd J b a (F a b)) a b (F a b)) b (a + 1) := by
  constructor
  all_goals
    intro x y hxy
    unfold upd
    split
    · next e => rw [e.1, e.2]; try exact hc
    · next e1 =>
      split
      · next e => rw [e.1, e.2]; try exact hc
      · next e2 => exact h x y (by omega)
theorem DoneTo.next {F J : Nat → Nat → Int} {b : Nat} (h : DoneTo F J b (b + 1)) : DoneTo F J (b + 1) 0 := fun x y hxy => h x y (by omega)
end
end Go.Proofs.YtpjlhpaenmfieaaGreat
