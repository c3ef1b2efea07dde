/- kinds: types in memory; how many, how deep, the same (plain). -/
import Derived.Test.YtanpljalbijfkaaLatSt
import Derived.Deep.MidRow
import Derived.Deep.WholeRow
namespace Go.Proofs.Ytanpljalbijfkaa
open Go.RowKit

/-- A type, but for its parts. -/
structure TyH where
  kind : Int
  at_ : Int
  lo : Int
  hi : Int
  most : Int
  names : List Wd
  name : Wd
/-- A part, but for its type. -/
structure PtH where
  name : Wd
  bare : Bool
  label : List Wd
  wide : Int
  ck : Int
  cn : Int
  cat : Int
  cl : List Wd
/-- A type: n parts, each with a type ('nil' stands where no part is). -/
inductive Ty
  | nil
  | mk (h : TyH) (n : Nat) (p : Nat → PtH) (t : Nat → Ty)
def tyV (h : TyH) (An : Option Addr) (cn : Nat) (Ap : Option Addr) (n cp : Nat) : List Value := [.int .i64 h.kind, .int .i64 h.at_, .int .i64 h.lo, .int .i64 h.hi, .int .i64 h.most, .slice An h.names.length cn, .slice Ap n cp, .string h.name.1, .int .i64 h.name.2]
def ptV (q : PtH) (Al : Option Addr) (cl : Nat) (Ac : Option Addr) (cc : Nat) : List Value := [.string q.name.1, .int .i64 q.name.2, .bool q.bare, .slice Al q.label.length cl, .int .i64 q.wide, .int .i64 q.ck, .int .i64 q.cn, .int .i64 q.cat, .slice Ac q.cl.length cc]
/-- These cells are a type. -/
def TyAt (w : World) (B : Nat) : Ty → List Value → Prop
  | .nil, _ => False
  | .mk h n p t, vs => ∃ An cn Ap cp, vs = tyV h An cn Ap n cp ∧ WdsAt w B An h.names ∧ (0 < n → ∃ b o, Ap = some ⟨b, o, none⟩ ∧ b < B ∧ ∀ i, i < n → ∃ Al cl Ac cc vt, (∀ j v, (ptV (p i) Al cl Ac cc ++ vt)[j]? = some v → w.cell? ⟨b, o + i * 18 + j, none⟩ = some v) ∧ WdsAt w B Al (p i).label ∧ WdsAt w B Ac (p i).cl ∧ TyAt w B (t i) vt)
/-- How great strings and lists are. -/
def WdsSz (l : List Wd) : Prop := l.length ≤ 5864062014634 ∧ ∀ k, (wNm l k).size ≤ maxLen
def TySz : Ty → Prop
  | .nil => False
  | .mk h n p t => WdsSz h.names ∧ h.name.1.size ≤ maxLen ∧ n ≤ 628292358710 ∧ ∀ i, i < n → (p i).name.1.size ≤ maxLen ∧ WdsSz (p i).label ∧ WdsSz (p i).cl ∧ TySz (t i)
theorem TyAt.ext {t : Ty} : ∀ {w w' : World} {vs : List Value}, TyAt w w.heap.size t vs → Ext w w' → TyAt w' w'.heap.size t vs := by
  induction t with
  | nil => intro w w' vs h _; exact h.elim
  | mk h n p t ih =>
    rintro w w' vs ⟨An, cn, Ap, cp, rfl, h1, h2⟩ hE
    refine ⟨An, cn, Ap, cp, rfl, h1.ext hE, fun hn => ?_⟩
    obtain ⟨b, o, e, hb, hc⟩ := h2 hn
    refine ⟨b, o, e, Nat.lt_of_lt_of_le hb hE.size, fun i hi => ?_⟩
    obtain ⟨Al, cl, Ac, cc, vt, q1, q2, q3, q4⟩ := hc i hi
    exact ⟨Al, cl, Ac, cc, vt, fun j v hv => (hE.cell (p := ⟨b, o + i * 18 + j, none⟩) hb).trans (q1 j v hv), q2.ext hE, q3.ext hE, ih i q4 hE⟩

theorem TyAt.form {t : Ty} {w : World} {B : Nat} {vs : List Value} (h : TyAt w B t vs) : ∃ (h' : TyH) (n' : Nat) (An : Option Addr) (cn : Nat) (Ap : Option Addr) (cp : Nat), vs = tyV h' An cn Ap n' cp := by
  cases t with
  | nil => exact h.elim
  | mk h' n' p' t' =>
    obtain ⟨An, cn, Ap, cp, e, _⟩ := h
    exact ⟨h', n', An, cn, Ap, cp, e⟩

/-- How many types, added up as the code does. -/
def cntTo (b : Nat → Bool) (f : Nat → Int) : Nat → Int
  | 0 => 1
  | k + 1 => if b k = true then cntTo b f k else IntKind.i64.wrap (cntTo b f k + f k)
def cntI : Ty → Int
  | .nil => 0
  | .mk _ n p t => cntTo (fun i => (p i).bare) (fun i => cntI (t i)) n
def depTo (b : Nat → Bool) (f : Nat → Int) : Nat → Int
  | 0 => 0
  | k + 1 => if b k = true then depTo b f k else if depTo b f k < f k then f k else depTo b f k
def depI : Ty → Int
  | .nil => 0
  | .mk _ n p t => IntKind.i64.wrap (depTo (fun i => (p i).bare) (fun i => depI (t i)) n + 1)

def wdsEq (a b : List Wd) : Bool := decide (nms a = nms b)
def hdrEq (a b : TyH) : Bool := decide (a.kind = b.kind) && decide (a.lo = b.lo) && decide (a.hi = b.hi) && decide (a.most = b.most) && decide (a.name.1 = b.name.1) && wdsEq a.names b.names
def plainB (p q : PtH) : Bool := decide (p.bare = q.bare) && decide (p.wide = q.wide) && wdsEq p.label q.label && decide (p.ck = q.ck) && decide (p.cn = q.cn) && wdsEq p.cl q.cl
def ptEq (p q : PtH) : Bool := decide (p.name.1 = q.name.1) && plainB p q
def sameT : Ty → Ty → Bool
  | .nil, .nil => true
  | .nil, .mk _ _ _ _ => false
  | .mk _ _ _ _, .nil => false
  | .mk h n p t, .mk h' n' p' t' => hdrEq h h' && decide (n = n') && (List.range n).all fun i => ptEq (p i) (p' i) && sameT (t i) (t' i)
theorem sameT_mk (h : TyH) (n : Nat) (p : Nat → PtH) (t : Nat → Ty) (h' : TyH) (n' : Nat) (p' : Nat → PtH) (t' : Nat → Ty) : sameT (.mk h n p t) (.mk h' n' p' t') = (hdrEq h h' && decide (n = n') && (List.range n).all fun i => ptEq (p i) (p' i) && sameT (t i) (t' i)) := rfl
theorem plainB_self (p : PtH) : plainB p p = true := by simp [plainB, wdsEq]
theorem sameT_self (t : Ty) : sameT t t = true := by
  induction t with
  | nil => rfl
  | mk h n p t ih =>
    rw [sameT_mk]
    simp [hdrEq, wdsEq, ptEq, plainB_self, ih]
end Go.Proofs.Ytanpljalbijfkaa
/- kinds: Size, walked. -/
namespace Go.Proofs.Ytanpljalbijfkaa
open Go.RowKit

theorem wrap_64 (x : Int) : IntKind.i64.wrap x = wrap64 x := IntWalk.i64_left x
def SizePost (t : Ty) (w : World) (e : Ending) (w' : World) : Prop := e = .returned (.tuple #[.int .i64 (cntI t), .int .i64 (depI t)]) ∧ Ext w w'
set_option maxRecDepth 100000 in
set_option maxHeartbeats 2000000 in
theorem size_any (t : Ty) : ∀ (w : World) (vs : List Value), TyAt w w.heap.size t vs → TySz t → Calls Try.prog 10 #[.agg vs.toArray] w (SizePost t w) := by
  induction t with
  | nil => intro w vs hT; exact hT.elim
  | mk h n p t ih =>
    intro w vs hT hS
    obtain ⟨An, cn, Ap, cp, rfl, hN, hP⟩ := hT
    obtain ⟨_, _, hn, hSz⟩ := hS
    obtain ⟨w1, hw1⟩ : ∃ w1, w1 = w.alloc (.cells #[.int .i64 h.kind, .int .i64 h.at_, .int .i64 h.lo, .int .i64 h.hi, .int .i64 h.most, .slice An h.names.length cn, .slice Ap n cp, .string h.name.1, .int .i64 h.name.2] 27) := ⟨_, rfl⟩
    obtain ⟨g, hg⟩ : ∃ g, g = w.heap.size := ⟨_, rfl⟩
    have hB : Blk w1 g 27 #[.int .i64 h.kind, .int .i64 h.at_, .int .i64 h.lo, .int .i64 h.hi, .int .i64 h.most, .slice An h.names.length cn, .slice Ap n cp, .string h.name.1, .int .i64 h.name.2] := by rw [hw1, hg]; exact Blk.new _ _ _
    have HB := hide hB
    have HE1 := hide (show Ext w w1 by rw [hw1]; exact (Ext.rfl' w).alloc (Nat.le_refl _) _)
    have HIH := hide ih
    have HP := hide hP
    have HSZ := hide hSz
    obtain ⟨C, hC⟩ : ∃ C, C = cntTo (fun i => (p i).bare) (fun i => cntI (t i)) := ⟨_, rfl⟩
    obtain ⟨D, hD⟩ : ∃ D, D = depTo (fun i => (p i).bare) (fun i => depI (t i)) := ⟨_, rfl⟩
    have HC := hide (fun k => (show C (k + 1) = if (p k).bare = true then C k else IntKind.i64.wrap (C k + cntI (t k)) by rw [hC]; rfl))
    have HD := hide (fun k => (show D (k + 1) = if (p k).bare = true then D k else if D k < depI (t k) then depI (t k) else D k by rw [hD]; rfl))
    have HC0 := hide (show C 0 = 1 by rw [hC]; rfl)
    have HD0 := hide (show D 0 = 0 by rw [hD]; rfl)
    have HR := hide (show cntI (.mk h n p t) = C n ∧ depI (.mk h n p t) = IntKind.i64.wrap (D n + 1) by rw [hC, hD]; exact ⟨rfl, rfl⟩)
    have HW1 := hide hw1
    have HG := hide hg
    show Calls Try.prog 10 #[.agg #[.int .i64 h.kind, .int .i64 h.at_, .int .i64 h.lo, .int .i64 h.hi, .int .i64 h.most, .slice An h.names.length cn, .slice Ap n cp, .string h.name.1, .int .i64 h.name.2]] w _
    clear hw1 hg hB ih hP hSz hN hC hD
    go_enter Try.func10, Try.ntmps10
    go_upto_region 1 with fail
    rw [← HW1.out, ← HG.out]
    go_wp2_with fail
    go_loopw [6, 5, 4] (fun i dv cv wr => ∃ k : Nat, k ≤ n ∧ i = .int .i64 (k : Int) ∧ dv = .int .i64 (D k) ∧ cv = .int .i64 (C k) ∧ Ext w1 wr) (fun i _ _ _ => n - (intOf i).toNat)
    case atStart => exact ⟨0, Nat.zero_le _, rfl, by rw [HD0.out], by rw [HC0.out], Ext.rfl' _⟩
    case round =>
      obtain ⟨k, hk, rfl, rfl, rfl, hE⟩ := hrel
      have HE := hide hE
      have b6 := (HB.out.ext hE).cell 6
      simp only [List.getElem?_toArray, List.getElem?_cons_zero, List.getElem?_cons_succ] at b6
      by_cases hkn : k < n
      · obtain ⟨b, o, rfl, hb, hc⟩ := HP.out (by omega)
        obtain ⟨Al, cl, Ac, cc, vt, q1, q2, q3, q4⟩ := hc k hkn
        have hEw := HE1.out.trans' hE
        have hcell := fun j v hv => (hEw.cell (p := ⟨b, o + k * 18 + j, none⟩) hb).trans (q1 j v hv)
        have hcall := HIH.out k wr vt (q4.ext hEw) (HSZ.out k hkn).2.2.2
        obtain ⟨h', n', An', cn', Ap', cp', rfl⟩ := q4.form
        have hck := HC.out k
        have hdk := HD.out k
        have c1 := hcell 2 _ rfl
        have d0 := hcell 9 _ rfl
        have d1 := hcell 10 _ rfl
        have d2 := hcell 11 _ rfl
        have d3 := hcell 12 _ rfl
        have d4 := hcell 13 _ rfl
        have d5 := hcell 14 _ rfl
        have d6 := hcell 15 _ rfl
        have d7 := hcell 16 _ rfl
        have d8 := hcell 17 _ rfl
        obtain ⟨br, hbr⟩ : ∃ x, x = (p k).bare := ⟨_, rfl⟩
        obtain ⟨x, hx⟩ : ∃ x, x = cntI (t k) := ⟨_, rfl⟩
        obtain ⟨y, hy⟩ : ∃ x, x = depI (t k) := ⟨_, rfl⟩
        unfold SizePost at hcall
        rw [← hbr] at hck hdk c1
        rw [← hx] at hck hcall
        rw [← hy] at hdk hcall
        have HCALL := hide (show Calls Try.prog 10 #[.agg #[.int .i64 h'.kind, .int .i64 h'.at_, .int .i64 h'.lo, .int .i64 h'.hi, .int .i64 h'.most, .slice An' h'.names.length cn', .slice Ap' n' cp', .string h'.name.1, .int .i64 h'.name.2]] wr (fun e w' => e = .returned (.tuple #[.int .i64 x, .int .i64 y]) ∧ Ext wr w') from hcall)
        have i0 : (0 : Int) ≤ (k : Int) := by omega
        have i1 : (k : Int) < (n : Int) := by omega
        clear hcell hcall hc q1 q2 q3 q4 hE hEw hbr hx hy
        cases br with
        | true =>
          rw [if_pos rfl] at hck hdk
          have HCK := hide hck
          have HDK := hide hdk
          clear hck hdk
          go_wp2_with fail
          go_roundw
          case rel => exact ⟨k + 1, by omega, by go_num, by rw [HDK.out], by first | (rw [HCK.out]; done) | (rw [HCK.out, wrap_64]), HE.out⟩
          case measure => simp [intOf]; omega
        | false =>
          rw [if_neg (by decide)] at hck hdk
          by_cases hlt : D k < y
          · rw [if_pos hlt] at hdk
            have HCK := hide hck
            have HDK := hide hdk
            clear hck hdk
            go_wp2_with fail
            refine HCALL.out.mono ?_
            rintro e w5 ⟨rfl, hE5⟩
            have HE5 := hide (HE.out.trans' hE5)
            clear hE5 c1 d0 d1 d2 d3 d4 d5 d6 d7 d8 b6
            go_wp2_with fail
            go_roundw
            case rel => exact ⟨k + 1, by omega, by go_num, by rw [HDK.out], by first | (rw [HCK.out]; done) | (rw [HCK.out, wrap_64]), HE5.out⟩
            case measure => simp [intOf]; omega
          · rw [if_neg hlt] at hdk
            have HCK := hide hck
            have HDK := hide hdk
            clear hck hdk
            go_wp2_with fail
            refine HCALL.out.mono ?_
            rintro e w5 ⟨rfl, hE5⟩
            have HE5 := hide (HE.out.trans' hE5)
            clear hE5 c1 d0 d1 d2 d3 d4 d5 d6 d7 d8 b6
            go_wp2_with fail
            go_roundw
            case rel => exact ⟨k + 1, by omega, by go_num, by rw [HDK.out], by first | (rw [HCK.out]; done) | (rw [HCK.out, wrap_64]), HE5.out⟩
            case measure => simp [intOf]; omega
      · obtain rfl : k = n := by omega
        clear hE
        go_wp2_with fail
        go_ret2
        exact ⟨by rw [HR.out.1, HR.out.2, wrap_64]; rfl, HE1.out.trans' HE.out⟩
end Go.Proofs.Ytanpljalbijfkaa
/- kinds: a part taken out of a slice and laid into a variable: one step, whatever its cells. -/
namespace Go.Proofs.Ytanpljalbijfkaa
open Go.RowKit

theorem wpList_store_new {P : Program} {ops : Array Oper} {rest : List Oper} {op : Oper} {a : Act} {w : World} {Q : Exit → Act → World → Prop} (hgd : op.guard = none) (ty : TypeId) (x y : Operand) (ho : op.op = .store ty x y)
    (c c' : Array Value) (hx : a.eval x = .pointer (some ⟨w.heap.size, 0, none⟩)) (hy : a.eval y = .agg c') (hi : (P.info? ty).map (·.size) = some c'.size) (hs : c.size = c'.size) (h1 : c'.all (·.oneCell') = true)
    (h : wpList P ops Q rest (a.put op.dst undef) (w.alloc (.cells c' ty))) : wpList P ops Q (op :: rest) a (w.alloc (.cells c ty)) :=
  wpList_plain hgd fun K hK => by
    unfold Oper.wp execOp
    simp only [ho, hx, hy, Sem.run_bind, Sem.run_pure, Result.andThen_ok, run_storeAt_new w ty c c' hi hs h1]
    exact hK _ _ h
end Go.Proofs.Ytanpljalbijfkaa
