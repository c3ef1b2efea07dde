/- kinds: types in memory; how many, how deep, the same (plain). -/
import Derived.Test.YtanpljalbijfkaaLatSt
namespace Go.Proofs.Ytanpljalbijfkaa
open Go.RowKit

/-- A type, but for its parts. -/
structure TyH where
  kind : Int
  at_ : Int
  lo : Int
  hi : Int
  most : Int
  names : List Wd
  name : Wd
/-- A part, but for its type. -/
structure PtH where
  name : Wd
  bare : Bool
  label : List Wd
  wide : Int
  ck : Int
  cn : Int
  cat : Int
  cl : List Wd
/-- A type: n parts, each with a type ('nil' stands where no part is). -/
inductive Ty
  | nil
  | mk (h : TyH) (n : Nat) (p : Nat → PtH) (t : Nat → Ty)
def tyV (h : TyH) (An : Option Addr) (cn : Nat) (Ap : Option Addr) (n cp : Nat) : List Value := [.int .i64 h.kind, .int .i64 h.at_, .int .i64 h.lo, .int .i64 h.hi, .int .i64 h.most, .slice An h.names.length cn, .slice Ap n cp, .string h.name.1, .int .i64 h.name.2]
def ptV (q : PtH) (Al : Option Addr) (cl : Nat) (Ac : Option Addr) (cc : Nat) : List Value := [.string q.name.1, .int .i64 q.name.2, .bool q.bare, .slice Al q.label.length cl, .int .i64 q.wide, .int .i64 q.ck, .int .i64 q.cn, .int .i64 q.cat, .slice Ac q.cl.length cc]
/-- These cells are a type. -/
def TyAt (w : World) (B : Nat) : Ty → List Value → Prop
  | .nil, _ => False
  | .mk h n p t, vs => ∃ An cn Ap cp, vs = tyV h An cn Ap n cp ∧ WdsAt w B An h.names ∧ (0 < n → ∃ b o, Ap = some ⟨b, o, none⟩ ∧ b < B ∧ ∀ i, i < n → ∃ Al cl Ac cc vt, (∀ j v, (ptV (p i) Al cl Ac cc ++ vt)[j]? = some v → w.cell? ⟨b, o + i * 18 + j, none⟩ = some v) ∧ WdsAt w B Al (p i).label ∧ WdsAt w B Ac (p i).cl ∧ TyAt w B (t i) vt)
/-- How great strings and lists are. -/
def WdsSz (l : List Wd) : Prop := l.length ≤ 5864062014634 ∧ ∀ k, (wNm l k).size ≤ maxLen
def TySz : Ty → Prop
  | .nil => False
  | .mk h n p t => WdsSz h.names ∧ h.name.1.size ≤ maxLen ∧ n ≤ 5864062014634 ∧ ∀ i, i < n → (p i).name.1.size ≤ maxLen ∧ WdsSz (p i).label ∧ WdsSz (p i).cl ∧ TySz (t i)
theorem TyAt.ext {t : Ty} : ∀ {w w' : World} {vs : List Value}, TyAt w w.heap.size t vs → Ext w w' → TyAt w' w'.heap.size t vs := by
  induction t with
  | nil => intro w w' vs h _; exact h.elim
  | mk h n p t ih =>
    rintro w w' vs ⟨An, cn, Ap, cp, rfl, h1, h2⟩ hE
    refine ⟨An, cn, Ap, cp, rfl, h1.ext hE, fun hn => ?_⟩
    obtain ⟨b, o, e, hb, hc⟩ := h2 hn
    refine ⟨b, o, e, Nat.lt_of_lt_of_le hb hE.size, fun i hi => ?_⟩
    obtain ⟨Al, cl, Ac, cc, vt, q1, q2, q3, q4⟩ := hc i hi
    exact ⟨Al, cl, Ac, cc, vt, fun j v hv => (hE.cell (p := ⟨b, o + i * 18 + j, none⟩) hb).trans (q1 j v hv), q2.ext hE, q3.ext hE, ih i q4 hE⟩

theorem TyAt.form {t : Ty} {w : World} {B : Nat} {vs : List Value} (h : TyAt w B t vs) : ∃ (h' : TyH) (n' : Nat) (An : Option Addr) (cn : Nat) (Ap : Option Addr) (cp : Nat), vs = tyV h' An cn Ap n' cp := by
  cases t with
  | nil => exact h.elim
  | mk h' n' p' t' =>
    obtain ⟨An, cn, Ap, cp, e, _⟩ := h
    exact ⟨h', n', An, cn, Ap, cp, e⟩

/-- How many types, added up as the code does. -/
def cntTo (b : Nat → Bool) (f : Nat → Int) : Nat → Int
  | 0 => 1
  | k + 1 => if b k = true then cntTo b f k else IntKind.i64.wrap (cntTo b f k + f k)
def cntI : Ty → Int
  | .nil => 0
  | .mk _ n p t => cntTo (fun i => (p i).bare) (fun i => cntI (t i)) n
def depTo (b : Nat → Bool) (f : Nat → Int) : Nat → Int
  | 0 => 0
  | k + 1 => if b k = true then depTo b f k else if depTo b f k < f k then f k else depTo b f k
def depI : Ty → Int
  | .nil => 0
  | .mk _ n p t => IntKind.i64.wrap (depTo (fun i => (p i).bare) (fun i => depI (t i)) n + 1)

def wdsEq (a b : List Wd) : Bool := decide (nms a = nms b)
def hdrEq (a b : TyH) : Bool := decide (a.kind = b.kind) && decide (a.lo = b.lo) && decide (a.hi = b.hi) && decide (a.most = b.most) && decide (a.name.1 = b.name.1) && wdsEq a.names b.names
def plainB (p q : PtH) : Bool := decide (p.bare = q.bare) && decide (p.wide = q.wide) && wdsEq p.label q.label && decide (p.ck = q.ck) && decide (p.cn = q.cn) && wdsEq p.cl q.cl
def ptEq (p q : PtH) : Bool := decide (p.name.1 = q.name.1) && plainB p q
def sameT : Ty → Ty → Bool
  | .nil, .nil => true
  | .nil, .mk _ _ _ _ => false
  | .mk _ _ _ _, .nil => false
  | .mk h n p t, .mk h' n' p' t' => hdrEq h h' && decide (n = n') && (List.range n).all fun i => ptEq (p i) (p' i) && sameT (t i) (t' i)
theorem sameT_mk (h : TyH) (n : Nat) (p : Nat → PtH) (t : Nat → Ty) (h' : TyH) (n' : Nat) (p' : Nat → PtH) (t' : Nat → Ty) : sameT (.mk h n p t) (.mk h' n' p' t') = (hdrEq h h' && decide (n = n') && (List.range n).all fun i => ptEq (p i) (p' i) && sameT (t i) (t' i)) := rfl
theorem plainB_self (p : PtH) : plainB p p = true := by simp [plainB, wdsEq]
theorem sameT_self (t : Ty) : sameT t t = true := by
  induction t with
  | nil => rfl
  | mk h n p t ih =>
    rw [sameT_mk]
    simp [hdrEq, wdsEq, ptEq, plainB_self, ih]
end Go.Proofs.Ytanpljalbijfkaa
