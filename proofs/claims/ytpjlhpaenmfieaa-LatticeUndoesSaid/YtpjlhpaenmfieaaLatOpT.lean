/- How three numbers read as an argument. -/
import Derived.Test.YtpjlhpaenmfieaaLatOpen
namespace Go.Proofs.Ytpjlhpaenmfieaa
open Go.ChangeShapes Go.WideShapes Go.ChangeAt Go.RowKit Go.Deep
section
variable {H : Type} {enc : TypeId × Value → H} {W : World} {base : Nat} {spare : Nat → Bool} {held : Bool}

theorem list3 {α : Type} {l : List α} (h : l.length = 3) : ∃ a b c, l = [a, b, c] := by
  match l, h with
  | [a, b, c], _ => exact ⟨a, b, c, rfl⟩

set_option maxRecDepth 100000 in
theorem trod_tri {fuel : Nat} {cs : List Value} {x : DataW H × List MemPlace} (h : DataW.trod enc Try.prog W base spare held fuel 33 cs = some x) : ∃ a b c : Int, cs = [.int .i64 a, .int .i64 b, .int .i64 c] := by
  obtain ⟨xs, m, _, _, hl, hxl, hx⟩ := DataW.trod_array Try.underlying33 h
  have h2 : Try.prog.cellsOf 33 = 3 := by kernel_rfl
  have h1 : Try.prog.cellsOf 3 = 1 := by kernel_rfl
  have hl' : cs.length = 3 := hl.trans h2
  clear hl h2
  obtain ⟨u, v, t, rfl⟩ := list3 hl'
  have e0 := hx 0 (by omega)
  have e1 := hx 1 (by omega)
  have e2 := hx 2 (by omega)
  obtain ⟨x0, hx0⟩ : ∃ x0, xs[0]? = some x0 := ⟨_, List.getElem?_eq_getElem (by omega)⟩
  obtain ⟨x1, hx1⟩ : ∃ x1, xs[1]? = some x1 := ⟨_, List.getElem?_eq_getElem (by omega)⟩
  obtain ⟨x2, hx2⟩ : ∃ x2, xs[2]? = some x2 := ⟨_, List.getElem?_eq_getElem (by omega)⟩
  generalize Try.prog.cellsOf 3 = k at e0 e1 e2 h1
  subst h1
  obtain ⟨a, ha, _, _⟩ := DataW.trod_int Try.underlying3 (e0.trans hx0)
  obtain ⟨b, hb, _, _⟩ := DataW.trod_int Try.underlying3 (e1.trans hx1)
  obtain ⟨c, hc, _, _⟩ := DataW.trod_int Try.underlying3 (e2.trans hx2)
  simp at ha hb hc
  exact ⟨a, b, c, by rw [ha, hb, hc]⟩

set_option maxRecDepth 100000 in
theorem open_tri {r : Reach} {b0 : Nat} {v : Value} {d : DataW H} {p : List MemPlace} (hv : Value.okWide Try.prog W r b0 33 v) (h : DataW.Trod enc Try.prog W base spare held 33 v d p) : ∃ a b c : Int, v = .agg #[.int .i64 a, .int .i64 b, .int .i64 c] := by
  simp only [Value.okWide, Try.underlying33] at hv
  obtain ⟨cs, rfl, _, _⟩ := hv
  obtain ⟨fuel, hf⟩ := h
  obtain ⟨a, b, c, e⟩ := trod_tri hf
  refine ⟨a, b, c, ?_⟩
  have : cs.toList = [.int .i64 a, .int .i64 b, .int .i64 c] := by simpa [Value.cells] using e
  rw [← Array.toArray_toList (xs := cs), this]

end
end Go.Proofs.Ytpjlhpaenmfieaa
