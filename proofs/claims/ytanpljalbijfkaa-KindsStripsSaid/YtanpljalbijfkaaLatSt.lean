/- Words (a name and where it stands) in memory. -/
import Derived.Test.YtanpljalbijfkaaBase
import Derived.Test.YtanpljalbijfkaaNamAll
namespace Go.Proofs.Ytanpljalbijfkaa
open Go.RowKit

/-- A name and where it stands. -/
abbrev Wd := ByteArray × Int
def wd0 : Wd := (⟨#[]⟩, 0)
def nms (ws : List Wd) : List ByteArray := ws.map (·.1)
theorem nms_length (ws : List Wd) : (nms ws).length = ws.length := by simp [nms]
def wNm (ws : List Wd) (i : Nat) : ByteArray := (ws.getD i wd0).1
def wPl (ws : List Wd) (i : Nat) : Int := (ws.getD i wd0).2
theorem nms_at {ws : List Wd} {i : Nat} (h : i < (nms ws).length) : (nms ws)[i] = wNm ws i := by
  have h' : i < ws.length := by simpa [nms] using h
  simp [nms, wNm, List.getD_eq_getElem?_getD, List.getElem?_eq_getElem h']
def firstOf (f : Nat → Option (Int × Int)) (n : Nat) : Option (Int × Int) := (List.range n).findSome? f
theorem firstOf_hit {f : Nat → Option (Int × Int)} {n k : Nat} {x : Int × Int} (hk : k < n) (h0 : ∀ j, j < k → f j = none) (h : f k = some x) : firstOf f n = some x := by
  unfold firstOf
  have e : List.range n = List.range k ++ (List.range (n - k)).map (k + ·) := by
    rw [← List.range_add]; congr 1; omega
  rw [e, List.findSome?_append, List.findSome?_eq_none_iff.2 (fun j hj => h0 j (List.mem_range.1 hj))]
  obtain ⟨d, hd⟩ : ∃ d, n - k = d + 1 := ⟨n - k - 1, by omega⟩
  rw [hd, List.range_succ_eq_map]
  simp [h]
theorem firstOf_miss {f : Nat → Option (Int × Int)} {n : Nat} : firstOf f n = none ↔ ∀ j, j < n → f j = none := by
  unfold firstOf
  rw [List.findSome?_eq_none_iff]
  exact ⟨fun h j hj => h j (List.mem_range.2 hj), fun h j hj => h j (List.mem_range.1 hj)⟩
def wdCells (ws : List Wd) : List Value := ws.flatMap fun p => [.string p.1, .int .i64 p.2]
theorem wdCells_length (ws : List Wd) : (wdCells ws).length = ws.length * 2 := by
  induction ws with
  | nil => rfl
  | cons p ps ih => simp only [wdCells, List.flatMap_cons, List.length_append] at ih ⊢; rw [ih]; simp; omega
theorem wdCells_get (ws : List Wd) (k : Nat) (hk : k < ws.length) : (wdCells ws)[k * 2]? = some (.string (wNm ws k)) ∧ (wdCells ws)[k * 2 + 1]? = some (.int .i64 (wPl ws k)) := by
  induction ws generalizing k with
  | nil => simp at hk
  | cons p ps ih =>
    cases k with
    | zero => exact ⟨rfl, rfl⟩
    | succ k =>
      have := ih k (by simpa using hk)
      simp only [wdCells, List.flatMap_cons] at this ⊢
      rw [show (k + 1) * 2 = k * 2 + 1 + 1 by omega]
      simpa [wNm, wPl] using this
def WdsAt (w : World) (B : Nat) (A : Option Addr) (ws : List Wd) : Prop := Reads w B 2 A ws.length (wdCells ws)
theorem WdsAt.cell {w : World} {B : Nat} {A : Option Addr} {ws : List Wd} (h : WdsAt w B A ws) (hn : 0 < ws.length) :
    ∃ b o, A = some ⟨b, o, none⟩ ∧ b < B ∧ ∀ k, k < ws.length → w.cell? ⟨b, o + k * 2, none⟩ = some (.string (wNm ws k)) ∧ w.cell? ⟨b, o + k * 2 + 1, none⟩ = some (.int .i64 (wPl ws k)) := by
  obtain ⟨b, o, e, hb, hc⟩ := h.form hn (by omega)
  exact ⟨b, o, e, hb, fun k hk => ⟨hc _ _ (wdCells_get ws k hk).1, hc _ _ (wdCells_get ws k hk).2⟩⟩
theorem WdsAt.ext {w w' : World} {A : Option Addr} {ws : List Wd} (h : WdsAt w w.heap.size A ws) (hE : Ext w w') : WdsAt w' w'.heap.size A ws :=
  (Reads.keep h fun _p hp => hE.cell hp).more hE.size

/-- A fault. -/
def fltV (f : Int × Int) : Value := .agg #[.int .i64 f.1, .int .i64 f.2]
end Go.Proofs.Ytanpljalbijfkaa
