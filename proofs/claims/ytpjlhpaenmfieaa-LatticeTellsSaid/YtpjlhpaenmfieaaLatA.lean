/- Words and pairs of words in memory. -/
import Derived.Test.YtpjlhpaenmfieaaLatS
namespace Go.Proofs.Ytpjlhpaenmfieaa
open Go.RowKit

def wdCells (ws : List Wd) : List Value := ws.flatMap fun p => [.string p.1, .int .i64 p.2]
theorem wdCells_length (ws : List Wd) : (wdCells ws).length = ws.length * 2 := by
  induction ws with
  | nil => rfl
  | cons p ps ih => simp only [wdCells, List.flatMap_cons, List.length_append] at ih ⊢; rw [ih]; simp; omega
theorem wdCells_get (ws : List Wd) (k : Nat) (hk : k < ws.length) : (wdCells ws)[k * 2]? = some (.string (wNm ws k)) ∧ (wdCells ws)[k * 2 + 1]? = some (.int .i64 (wPl ws k)) := by
  induction ws generalizing k with
  | nil => simp at hk
  | cons p ps ih =>
    cases k with
    | zero => exact ⟨rfl, rfl⟩
    | succ k =>
      have := ih k (by simpa using hk)
      simp only [wdCells, List.flatMap_cons] at this ⊢
      rw [show (k + 1) * 2 = k * 2 + 1 + 1 by omega]
      simpa [wNm, wPl] using this
def WdsAt (w : World) (B : Nat) (A : Option Addr) (ws : List Wd) : Prop := Reads w B 2 A ws.length (wdCells ws)
theorem WdsAt.cell {w : World} {B : Nat} {A : Option Addr} {ws : List Wd} (h : WdsAt w B A ws) (hn : 0 < ws.length) :
    ∃ b o, A = some ⟨b, o, none⟩ ∧ b < B ∧ ∀ k, k < ws.length → w.cell? ⟨b, o + k * 2, none⟩ = some (.string (wNm ws k)) ∧ w.cell? ⟨b, o + k * 2 + 1, none⟩ = some (.int .i64 (wPl ws k)) := by
  obtain ⟨b, o, e, hb, hc⟩ := h.form hn (by omega)
  exact ⟨b, o, e, hb, fun k hk => ⟨hc _ _ (wdCells_get ws k hk).1, hc _ _ (wdCells_get ws k hk).2⟩⟩
theorem WdsAt.ext {w w' : World} {A : Option Addr} {ws : List Wd} (h : WdsAt w w.heap.size A ws) (hE : Ext w w') : WdsAt w' w'.heap.size A ws :=
  (Reads.keep h fun _p hp => hE.cell hp).more hE.size

def odCells (os : List (Wd × Wd)) : List Value := os.flatMap fun p => [.string p.1.1, .int .i64 p.1.2, .string p.2.1, .int .i64 p.2.2]
theorem odCells_length (os : List (Wd × Wd)) : (odCells os).length = os.length * 4 := by
  induction os with
  | nil => rfl
  | cons p ps ih => simp only [odCells, List.flatMap_cons, List.length_append] at ih ⊢; rw [ih]; simp; omega
theorem odCells_get (os : List (Wd × Wd)) (k : Nat) (hk : k < os.length) : (odCells os)[k * 4]? = some (.string (lo os k).1) ∧ (odCells os)[k * 4 + 1]? = some (.int .i64 (lo os k).2) ∧ (odCells os)[k * 4 + 2]? = some (.string (hi os k).1) ∧ (odCells os)[k * 4 + 3]? = some (.int .i64 (hi os k).2) := by
  induction os generalizing k with
  | nil => simp at hk
  | cons p ps ih =>
    cases k with
    | zero => exact ⟨rfl, rfl, rfl, rfl⟩
    | succ k =>
      have := ih k (by simpa using hk)
      simp only [odCells, List.flatMap_cons] at this ⊢
      rw [show (k + 1) * 4 = k * 4 + 1 + 1 + 1 + 1 by omega]
      simpa [lo, hi] using this
def OdsAt (w : World) (B : Nat) (A : Option Addr) (os : List (Wd × Wd)) : Prop := Reads w B 4 A os.length (odCells os)
theorem OdsAt.cell {w : World} {B : Nat} {A : Option Addr} {os : List (Wd × Wd)} (h : OdsAt w B A os) (hn : 0 < os.length) :
    ∃ b o, A = some ⟨b, o, none⟩ ∧ b < B ∧ ∀ k, k < os.length → w.cell? ⟨b, o + k * 4, none⟩ = some (.string (lo os k).1) ∧ w.cell? ⟨b, o + k * 4 + 1, none⟩ = some (.int .i64 (lo os k).2) ∧ w.cell? ⟨b, o + k * 4 + 2, none⟩ = some (.string (hi os k).1) ∧ w.cell? ⟨b, o + k * 4 + 3, none⟩ = some (.int .i64 (hi os k).2) := by
  obtain ⟨b, o, e, hb, hc⟩ := h.form hn (by omega)
  refine ⟨b, o, e, hb, fun k hk => ?_⟩
  obtain ⟨h0, h1, h2, h3⟩ := odCells_get os k hk
  exact ⟨hc _ _ h0, hc _ _ h1, hc _ _ h2, hc _ _ h3⟩
theorem OdsAt.ext {w w' : World} {A : Option Addr} {os : List (Wd × Wd)} (h : OdsAt w w.heap.size A os) (hE : Ext w w') : OdsAt w' w'.heap.size A os :=
  (Reads.keep h fun _p hp => hE.cell hp).more hE.size
/-- A fault. -/
def fltV (f : Int × Int) : Value := .agg #[.int .i64 f.1, .int .i64 f.2]
end Go.Proofs.Ytpjlhpaenmfieaa
