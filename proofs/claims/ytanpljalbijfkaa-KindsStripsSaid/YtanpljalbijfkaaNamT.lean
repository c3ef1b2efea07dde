/- What sorted unlike texts are, plain; append of texts; Find of no table. -/
import Derived.Test.YtanpljalbijfkaaNamF
namespace Go.Proofs.Ytanpljalbijfkaa
open Go.RowKit

/-- All unlike texts of a list, by bytes. -/
def SortedOf (l R : List ByteArray) : Prop := R.Pairwise (fun x y => bl x y = true) ∧ ∀ x, x ∈ R ↔ x ∈ l
theorem up_unique {R R' : List ByteArray} (h : R.Pairwise (fun x y => bl x y = true)) (h' : R'.Pairwise (fun x y => bl x y = true)) (hm : ∀ x, x ∈ R ↔ x ∈ R') : R = R' := by
  induction R generalizing R' with
  | nil =>
    cases R' with
    | nil => rfl
    | cons y R' => exact absurd ((hm y).2 (by simp)) (by simp)
  | cons x R ih =>
    cases R' with
    | nil => exact absurd ((hm x).1 (by simp)) (by simp)
    | cons y R' =>
      rw [List.pairwise_cons] at h h'
      have e : x = y := by
        rcases List.mem_cons.1 ((hm x).1 (by simp)) with e | hx
        · exact e
        · rcases List.mem_cons.1 ((hm y).2 (by simp)) with e | hy
          · exact e.symm
          · have := bl_asymm (h.1 y hy)
            rw [h'.1 x hx] at this
            cases this
      subst e
      congr 1
      refine ih h.2 h'.2 fun z => ⟨fun hz => ?_, fun hz => ?_⟩
      · rcases List.mem_cons.1 ((hm z).1 (by simp [hz])) with e | h2
        · subst e; exact absurd rfl (bl_ne (h.1 z hz))
        · exact h2
      · rcases List.mem_cons.1 ((hm z).2 (by simp [hz])) with e | h2
        · subst e; exact absurd rfl (bl_ne (h'.1 z hz))
        · exact h2
theorem SortedOf.unique {l R R' : List ByteArray} (h : SortedOf l R) (h' : SortedOf l R') : R = R' :=
  up_unique h.1 h'.1 fun x => (h.2 x).trans (h'.2 x).symm

theorem table_sorted {l : List ByteArray} {O : List Nat} (h : TableOK l O) : SortedOf l (O.map (sAt l)) := by
  refine ⟨List.pairwise_map.2 h.up, fun x => ⟨fun hx => ?_, fun hx => ?_⟩⟩
  · obtain ⟨p, hp, rfl⟩ := List.mem_map.1 hx
    have := (h.first p hp).1
    rw [sAt_eq this]
    exact List.getElem_mem this
  · obtain ⟨q, hq, rfl⟩ := List.getElem_of_mem hx
    obtain ⟨p, hp, e⟩ := h.has q hq
    exact List.mem_map.2 ⟨p, hp, by rw [e, sAt_eq hq]⟩

theorem info_parts3 {t : TypeId} {a b : Nat} {v : Value} {s : Nat} (h : (Try.prog.info? t).map (fun i => (i.size, i.bytes, i.zero, (i.zero.map (·.cells.size)))) = some (a, b, some v, some s)) :
    ∃ i, Try.prog.info? t = some i ∧ i.zero = some v ∧ i.size = a ∧ i.bytes = b := by
  cases hi : Try.prog.info? t with
  | none => simp [hi] at h
  | some i =>
    simp [hi] at h
    exact ⟨i, rfl, h.2.2.1, h.1, h.2.1⟩
theorem info_str : ∃ i, Try.prog.info? 9 = some i ∧ i.zero = some (.string ⟨#[]⟩) ∧ i.size = 1 ∧ i.bytes = 16 :=
  info_parts3 (a := 1) (b := 16) (v := .string ⟨#[]⟩) (s := 1) (by kernel_rfl)
theorem info_int : ∃ i, Try.prog.info? 3 = some i ∧ i.zero = some (.int .i64 0) ∧ i.size = 1 ∧ i.bytes = 8 :=
  info_parts3 (a := 1) (b := 8) (v := .int .i64 0) (s := 1) (by kernel_rfl)

/-- append of one text that has just been laid. -/
theorem wpList_append_S (w : World) {ops : Array Oper} {rest : List Oper} {o : Oper} {a : Act} {Q : Exit → Act → World → Prop} (hgd : o.guard = none) (s x : Operand)
    (ho : o.op = .call { callee := .builtin .append, args := #[s, x], argTypes := #[63, 63] })
    (base : Nat) (v : Value) (n : Nat) (l : List ByteArray) (hs : a.eval s = v) (g : Nat) (u : ByteArray) (c : Nat) (hx : a.eval x = .slice (some ⟨g, 0, none⟩) 1 c)
    (hown : w.ownsRow base 9 1 v n (strCells l)) (hr : Reads w (g + 1) 1 (some ⟨g, 0, none⟩) 1 [.string u]) (hn : n ≤ 1073741823) (hbase : base ≤ w.heap.size)
    (h : ∀ A' c' w', w'.ownsRow base 9 1 (.slice A' (n + 1) c') (n + 1) (strCells (l ++ [u])) → w.grownBy w' v.ownBlock → (Value.ownBlock (.slice A' (n + 1) c') = v.ownBlock ∨ Value.ownBlock (.slice A' (n + 1) c') = some w.heap.size) → wpList Try.prog ops Q rest (a.put o.dst (.slice A' (n + 1) c')) w') : wpList Try.prog ops Q (o :: rest) a w := by
  obtain ⟨i0, hi, hz, hs2, hb⟩ := info_str
  refine wpList_append_1 w hgd s x 63 ho base 9 i0 _ 16 Try.underlying63 hi hz hs2 hb rfl v n (strCells l) hs g (.string u) c hx rfl hn (by decide) hown hr hbase ?_
  rw [strCells_append] at h
  exact h

def SortedPost (l : List ByteArray) (w : World) (e : Ending) (w' : World) : Prop :=
  ∃ A c n R, e = .returned (.slice A n c) ∧ n = List.length R ∧ StrAt w' w'.heap.size A R ∧ SortedOf l R ∧ Ext w w'

theorem grown_ext' {w wr w0 w3 : World} {base size n : Nat} {e : TypeId} {v : Value} {xs : List Value} (hE : Ext w wr) (h1 : Ext wr w0) (hg : w0.grownBy w3 v.ownBlock) (hO : wr.ownsRow base e size v n xs) (hb : w.heap.size ≤ base) : Ext w w3 := by
  have h := hE.trans' h1
  refine ⟨hg.os.trans h.os, hg.tape.trans h.tape, hg.output.trans h.output, Nat.le_trans h.size hg.size, fun k' hk' => (hg.block k' (by have := h.size; omega) ?_).trans (h.block k' hk')⟩
  intro e
  have := (hO.lt k' e.symm).1
  omega

theorem tabFind_nil (s : ByteArray) (w : World) : Calls Try.prog 52 #[.pointer none, .string s] w (fun e w' => e = .returned (.tuple #[.int .i64 0, .bool false]) ∧ Ext w w') := by
  go_enter Try.func52, Try.ntmps52
  go_wp2_with fail
  go_ret2
  exact ⟨rfl, ((Ext.rfl' w).alloc (Nat.le_refl _) _).alloc (by simp) _⟩
end Go.Proofs.Ytanpljalbijfkaa
