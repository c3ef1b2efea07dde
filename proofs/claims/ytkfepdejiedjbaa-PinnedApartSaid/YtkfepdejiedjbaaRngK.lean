/- Sets of runes: the contracts in one form: a set, its ranges, their number. -/
import Derived.Test.YtkfepdejiedjbaaRngG
import Derived.Test.YtkfepdejiedjbaaRngL
namespace Go.Proofs.Ytkfepdejiedjbaa
open Go.RowKit

abbrev in32 (l : List (Int × Int)) : Prop := ∀ p ∈ l, -2147483648 ≤ p.1 ∧ p.1 ≤ 2147483647 ∧ -2147483648 ≤ p.2 ∧ p.2 ≤ 2147483647

theorem ext_ret {P : Program} {f : FuncId} {args : Array Value} {w : World} {u v : Value} (h : Calls P f args w (fun e w' => e = .returned u ∧ Ext w w')) (e : u = v) : Calls P f args w (fun e w' => e = .returned v ∧ Ext w w') := e ▸ h

/-- A slice of n that holds the ranges o, which rise. -/
structure SetAt (w : World) (A : Option Addr) (n : Nat) (o : List (Int × Int)) (f : Int → Bool) : Prop where
  len : n = o.length
  most : n ≤ 557056
  at_ : RngAt w w.heap.size A o
  canon : canonFrom 0 o
  mem : ∀ r, inT o r = f r

theorem SetAt.ext {w w' : World} {A : Option Addr} {n : Nat} {o : List (Int × Int)} {f : Int → Bool} (h : SetAt w A n o f) (hE : Ext w w') : SetAt w' A n o f := ⟨h.len, h.most, h.at_.ext hE, h.canon, h.mem⟩

def Fresh (w : World) (A : Option Addr) (n : Nat) : Prop := 0 < n → ∃ g, A = some ⟨g, 0, none⟩ ∧ w.heap.size ≤ g
theorem SetAt.far {w w0 : World} {A : Option Addr} {n : Nat} {o : List (Int × Int)} {f : Int → Bool} (h : SetAt w A n o f) (hF : Fresh w0 A n) {p : Addr} (hp : p.block < w0.heap.size) (u : Value) : SetAt (w.setCell p u) A n o f := by
  refine ⟨h.len, h.most, ⟨h.at_.1, fun hn => ?_⟩, h.canon, h.mem⟩
  obtain ⟨ad, e, hb, hc⟩ := h.at_.2 hn
  obtain ⟨g, e2, hg⟩ := hF (by rw [h.len]; exact hn)
  rw [e] at e2
  injection e2 with e2
  refine ⟨ad, e, by simpa using hb, fun j u' hu => (World.cell?_setCell_other w p _ u (fun e' => ?_)).trans (hc j u' hu)⟩
  rw [e', block_of_add, e2] at hp
  exact absurd hp (by show ¬ g < _; omega)
def SetQ (f : Int → Bool) (w : World) (e : Ending) (w' : World) : Prop := ∃ A c n o, e = .returned (.agg #[.slice A n c]) ∧ SetAt w' A n o f ∧ Fresh w A n ∧ Ext w w'
def RowQ (n : Nat) (o : List (Int × Int)) (w : World) (e : Ending) (w' : World) : Prop := ∃ A c, e = .returned (.slice A n c) ∧ RngAt w' w'.heap.size A o ∧ Ext w w'

theorem setQ_of {f : Int → Bool} {n : Nat} {w w' : World} {e : Ending} (h : SetPost f n w e w') : SetQ f w e w' := by
  obtain ⟨A, c, o, he, hO, hc, hi, _, hE⟩ := h
  refine ⟨A, c, o.length, o, he, ⟨rfl, canon_len0 hc, RngAt.of_own hO, hc, hi⟩, fun hn => ?_, hE⟩
  obtain ⟨g, e, hg, _⟩ := own_cell2 hO hn
  exact ⟨g, e, hg⟩

section
variable {w : World} {A A2 : Option Addr} {c c2 n m : Nat} {s t : List (Int × Int)} {f g : Int → Bool}

theorem newQ (l : List (Int × Int)) (h : RngAt w w.heap.size A l) (hl : l.length ≤ 17592186044416) (hn : n = l.length) : Calls Try.prog 34 #[.slice A n c] w (SetQ (hasT l) w) := by
  subst hn
  exact (newR_any A c l w h hl).mono fun _ _ h => setQ_of h
theorem joinQ (h : SetAt w A n s f) (h2 : SetAt w A2 m t g) : Calls Try.prog 36 #[.agg #[.slice A n c], .agg #[.slice A2 m c2]] w (SetQ (fun r => f r || g r) w) := by
  have e1 := h.len
  have e2 := h2.len
  have m1 := h.most
  have m2 := h2.most
  subst e1 e2
  rw [← funext h.mem, ← funext h2.mem]
  exact (join_any A c s A2 c2 t w h.at_ h2.at_ (by omega) (by omega) h.canon h2.canon).mono fun _ _ h => setQ_of h
theorem bothQ (h : SetAt w A n s f) (h2 : SetAt w A2 m t g) : Calls Try.prog 39 #[.agg #[.slice A n c], .agg #[.slice A2 m c2]] w (SetQ (fun r => f r && g r) w) := by
  have e1 := h.len
  have e2 := h2.len
  have m1 := h.most
  have m2 := h2.most
  subst e1 e2
  rw [← funext h.mem, ← funext h2.mem]
  exact (both_any A c s A2 c2 t w h.at_ h2.at_ (by omega) h.canon h2.canon).mono fun _ _ h => setQ_of h
theorem lessQ (h : SetAt w A n s f) (h2 : SetAt w A2 m t g) : Calls Try.prog 40 #[.agg #[.slice A n c], .agg #[.slice A2 m c2]] w (SetQ (fun r => f r && !g r) w) := by
  have e1 := h.len
  have e2 := h2.len
  have m1 := h.most
  have m2 := h2.most
  subst e1 e2
  rw [← funext h.mem, ← funext h2.mem]
  exact (less_any A c s A2 c2 t w h.at_ h2.at_ (by omega) h.canon h2.canon).mono fun _ _ h => setQ_of h
theorem rangesQ (h : SetAt w A n s f) : Calls Try.prog 37 #[.agg #[.slice A n c]] w (RowQ n s w) := by
  have e1 := h.len
  have m1 := h.most
  subst e1
  exact (setRanges_any A c s w h.at_ (by omega)).mono fun _ _ ⟨A, c, he, hO, hE⟩ => ⟨A, c, he, RngAt.of_own hO, hE⟩
theorem hasQ (r : Int) (h : SetAt w A n s f) : Calls Try.prog 41 #[.agg #[.slice A n c], .int .i32 r] w (fun e w' => e = .returned (.bool (f r)) ∧ Ext w w') := by
  have e1 := h.len
  have m1 := h.most
  subst e1
  rw [← h.mem r]
  exact setHas_any A c s r w h.at_ (by omega) h.canon
theorem countQ (h : SetAt w A n s f) : Calls Try.prog 43 #[.agg #[.slice A n c]] w (fun e w' => e = .returned (.int .i64 (cntL s)) ∧ Ext w w') := by
  have e1 := h.len
  have m1 := h.most
  subst e1
  exact setCount_any A c s w h.at_ (by omega) (canon_ok (by omega) h.canon)
theorem countQ' (h : SetAt w A n s f) : Calls Try.prog 43 #[.agg #[.slice A n c]] w (fun e w' => e = .returned (.int .i64 (cardF f)) ∧ Ext w w') := by
  have := countQ (c := c) h
  rwa [cntL_card (by omega) h.canon, funext h.mem] at this
theorem sameQ (h : RngAt w w.heap.size A s) (h2 : RngAt w w.heap.size A2 s) (hn : n = s.length) (hm : n ≤ 557056) : Calls Try.prog 35 #[.slice A n c, .slice A2 n c2] w (fun e w' => e = .returned (.bool true) ∧ Ext w w') := by
  subst hn
  exact refSame_any A c s A2 c2 s w h h2 (by omega) (by omega) rfl
theorem refQ (a b : List (Int × Int)) (how : Int) (h : RngAt w w.heap.size A a) (h2 : RngAt w w.heap.size A2 b) (hl : a.length ≤ 17592186044416) (hl2 : b.length ≤ 17592186044416) (h32 : in32 a) (h322 : in32 b)
    {N M : Nat} (hN : N = a.length) (hM : M = b.length) (hc : canonFrom 0 s) (hi : ∀ r, inT s r = kindL a b how r) (hs : n = s.length) :
    Calls Try.prog 38 #[.slice A N c, .slice A2 M c2, .int .i64 how] w (RowQ n s w) := by
  subst hN hM hs
  refine (refRanges_any A c a A2 c2 b how w h h2 hl hl2 h32 h322).mono ?_
  rintro e w' ⟨A', c', O, he, hR, hcO, hiO, hE⟩
  obtain rfl : s = O := canon_unique hc hcO fun r => by rw [hi r, hiO r]
  exact ⟨A', c', he, hR, hE⟩
end
end Go.Proofs.Ytkfepdejiedjbaa
