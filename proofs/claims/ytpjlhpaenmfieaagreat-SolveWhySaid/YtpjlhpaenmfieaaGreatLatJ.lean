/- lattice: Build. -/
import Derived.Test.YtpjlhpaenmfieaaGreatLatI
import Derived.Test.YtpjlhpaenmfieaaGreatLatE
namespace Go.Proofs.YtpjlhpaenmfieaaGreat
open Go.RowKit

/-- A lattice in memory. -/
def LatAt (w : World) (g : Nat) (ws : List Wd) (os : List (Wd × Wd)) : Prop :=
  ∃ (A : Option Addr) (c gt gr : Nat) (J M : Nat → Nat → Int), LBlk w g (.slice A ws.length c) (.pointer (some ⟨gt, 0, none⟩)) (.pointer (some ⟨gr, 0, none⟩)) J M ∧ StrAt w w.heap.size A (nms ws) ∧ TabAt w gt (nms ws) ∧
    RelAt w gr (RelM.close (newRows ws.length (prs ws os))) ∧ ∀ x y, x < ws.length → y < ws.length → J x y = LatM.joinL ws.length (leqL ws os) x y ∧ M x y = LatM.joinL ws.length (fun a b => leqL ws os b a) x y
theorem LatAt.ext {w w' : World} {g : Nat} {ws : List Wd} {os : List (Wd × Wd)} (h : LatAt w g ws os) (hE : Ext w w') : LatAt w' g ws os := by
  obtain ⟨A, c, gt, gr, J, M, h1, h2, h3, h4, h5⟩ := h
  exact ⟨A, c, gt, gr, J, M, h1.ext hE, h2.ext hE, h3.ext hE, h4.ext hE, h5⟩
def BuildPost (ws : List Wd) (os : List (Wd × Wd)) (w : World) (e : Ending) (w' : World) : Prop :=
  ((wrongL ws os).1 ≠ 0 ∧ e = .returned (.tuple #[.pointer none, fltV (wrongL ws os)]) ∧ Ext w w') ∨
  (wrongL ws os = (0, 0) ∧ ∃ g, e = .returned (.tuple #[.pointer (some ⟨g, 0, none⟩), fltV (0, 0)]) ∧ LatAt w' g ws os ∧ Ext w w')

theorem setCell_same (w : World) {g i : Nat} {t : TypeId} {cs : Array Value} {v : Value} (h : Blk w g t cs) (hv : cs[i]? = some v) : w.setCell ⟨g, i, none⟩ v = w := by
  have e : cs.setIfInBounds i v = cs := by
    apply Array.ext_getElem?
    intro j
    rw [Array.getElem?_setIfInBounds]
    by_cases hj : i = j
    · subst hj
      rw [if_pos rfl, hv]
      obtain ⟨hlt, _⟩ := Array.getElem?_eq_some_iff.1 hv
      rw [if_pos hlt]
    · rw [if_neg hj]
  have hh : (w.setCell ⟨g, i, none⟩ v).heap = w.heap := by
    apply Array.ext_getElem?
    intro j
    by_cases hj : j = g
    · subst hj
      have h1 := h.set_ i v
      rw [e] at h1
      exact h1.trans h.symm
    · exact Below.heap_setCell w ⟨g, i, none⟩ v j hj
  have h3 : w.setCell ⟨g, i, none⟩ v = { w with heap := (w.setCell ⟨g, i, none⟩ v).heap } := rfl
  rw [h3, hh]

def LatCells (cs : Array Value) (u v : Value) : Prop := cs.size = 2051 ∧ cs[0]? = some u ∧ cs[1]? = some v ∧ cs[2]? = some (.pointer none) ∧ ∀ i, i < 2048 → cs[3 + i]? = some (.int .i64 0)
theorem LatCells.blk {cs : Array Value} {u v : Value} (h : LatCells cs u v) {w : World} {g : Nat} (hB : Blk w g 78 cs) : LBlk w g u v (.pointer none) (fun _ _ => 0) fun _ _ => 0 := by
  obtain ⟨h1, h2, h3, h4, h5⟩ := h
  refine ⟨cs, hB, h1, h2, h3, h4, fun a b ha hb => ?_, fun a b ha hb => ?_⟩
  · rw [show 3 + a * 32 + b = 3 + (a * 32 + b) by omega]; exact h5 _ (by omega)
  · rw [show 1027 + a * 32 + b = 3 + (1024 + a * 32 + b) by omega]; exact h5 _ (by omega)
theorem LBlk.set2 {w : World} {g : Nat} {c0 c1 c2 : Value} {J M : Nat → Nat → Int} (h : LBlk w g c0 c1 c2 J M) (u : Value) : LBlk (w.setCell ⟨g, 2, none⟩ u) g c0 c1 u J M := by
  obtain ⟨cs, h1, hs, e0, e1, e2, e3, e4⟩ := h
  refine ⟨_, h1.set_ _ _, by simp [hs], ?_, ?_, ?_, fun x y hx hy => ?_, fun x y hx hy => ?_⟩
  · rw [Array.getElem?_setIfInBounds, if_neg (by omega), e0]
  · rw [Array.getElem?_setIfInBounds, if_neg (by omega), e1]
  · rw [Array.getElem?_setIfInBounds, if_pos rfl, if_pos (by omega)]
  · rw [Array.getElem?_setIfInBounds, if_neg (by omega), e3 x y hx hy]
  · rw [Array.getElem?_setIfInBounds, if_neg (by omega), e4 x y hx hy]
/-- A Lattice is laid with its names and its table. -/
theorem wpList_build_lat {ops : Array Oper} {rest : List Oper} {o : Oper} {a : Act} {w : World} {Q : Exit → Act → World → Prop} (hg : o.guard = none) (x y : Operand) (ho : o.op = .build 78 #[(0, x), (1, y)]) (u v : Value) (hx : a.eval x = u) (hy : a.eval y = v) (hu : u.cells = #[u]) (hv : v.cells = #[v])
    (h : ∀ cs : Array Value, Hid (LatCells cs u v) → wpList Tryz.prog ops Q rest (a.put o.dst (.agg cs)) w) : wpList Tryz.prog ops Q (o :: rest) a w := by
  obtain ⟨cs, hb, hcs⟩ := lat_built u v hu hv
  have e : ((#[(0, x), (1, y)] : Array (Nat × Operand)).map fun (i, x) => (i, a.eval x)).toList = [(0, u), (1, v)] := by simp [hx, hy]
  refine wpList_build hg _ _ ho (by rw [e, hb]; rfl) ?_
  rw [e, hb]
  exact h cs hcs

theorem many_split (ws : List Wd) (os : List (Wd × Wd)) : (manyL ws os = (0, 0) ∧ 0 < ws.length ∧ ws.length ≤ 32 ∧ os.length ≤ 256) ∨ ∃ x y, manyL ws os = (x, y) ∧ x ≠ 0 ∧ wrongL ws os = (x, y) := by
  unfold manyL wrongL
  by_cases c1 : ws.length = 0
  · rw [if_pos c1, if_pos c1]; exact .inr ⟨_, _, rfl, by decide, rfl⟩
  rw [if_neg c1, if_neg c1]
  by_cases c2 : 32 < ws.length
  · rw [if_pos c2, if_pos c2]; exact .inr ⟨_, _, rfl, by decide, rfl⟩
  rw [if_neg c2, if_neg c2]
  by_cases c3 : 256 < os.length
  · rw [if_pos c3, if_pos c3]; exact .inr ⟨_, _, rfl, by decide, rfl⟩
  rw [if_neg c3]
  exact .inl ⟨rfl, by omega, by omega, by omega⟩
theorem nameBad_ne {ws : List Wd} {n : Nat} {x : Int × Int} (h : firstOf (nameBad ws) n = some x) : x.1 ≠ 0 := by
  obtain ⟨i, _, hi⟩ := List.exists_of_findSome?_eq_some h
  unfold nameBad at hi
  split at hi
  · cases hi; exact show (9 : Int) ≠ 0 by decide
  · split at hi
    · cases hi; exact show (10 : Int) ≠ 0 by decide
    · cases hi
theorem orderBad_ne {ws : List Wd} {os : List (Wd × Wd)} {n : Nat} {x : Int × Int} (h : firstOf (orderBad ws os) n = some x) : x.1 ≠ 0 := by
  obtain ⟨i, _, hi⟩ := List.exists_of_findSome?_eq_some h
  unfold orderBad at hi
  split at hi
  · cases hi; exact show (17 : Int) ≠ 0 by decide
  · split at hi
    · cases hi; exact show (17 : Int) ≠ 0 by decide
    · cases hi
/-- What is wrong, once there are not too many. -/
theorem wrong_few {ws : List Wd} {os : List (Wd × Wd)} (h1 : 0 < ws.length) (h2 : ws.length ≤ 32) (h3 : os.length ≤ 256) :
    (∀ x, firstOf (nameBad ws) ws.length = some x → wrongL ws os = x) ∧
    (firstOf (nameBad ws) ws.length = none → ∀ x, firstOf (orderBad ws os) os.length = some x → wrongL ws os = x) ∧
    (firstOf (nameBad ws) ws.length = none → firstOf (orderBad ws os) os.length = none → wrongL ws os = loopBad ws os) := by
  unfold wrongL
  rw [if_neg (by omega), if_neg (by omega), if_neg (by omega)]
  exact ⟨fun x h => by rw [h], fun h x h' => by rw [h]; dsimp only; rw [h'], fun h h' => by rw [h]; dsimp only; rw [h']⟩
end Go.Proofs.YtpjlhpaenmfieaaGreat
