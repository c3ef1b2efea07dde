/- kinds: types without places (plain). -/
import Derived.Test.YtanpljalbijfkaaKinQ
import Derived.Test.YtanpljalbijfkaaKinD
namespace Go.Proofs.Ytanpljalbijfkaa
open Go.RowKit

def strP (q : PtH) : PtH := ⟨(q.name.1, 0), q.bare, bareWs q.label, q.wide, q.ck, q.cn, 0, bareWs q.cl⟩
def strH (h : TyH) : TyH := ⟨h.kind, 0, h.lo, h.hi, h.most, bareWs h.names, (h.name.1, 0)⟩
def strip : Ty → Ty
  | .nil => .nil
  | .mk h n p t => .mk (strH h) n (fun i => strP (p i)) (fun i => strip (t i))
theorem strip_mk (h : TyH) (n : Nat) (p : Nat → PtH) (t : Nat → Ty) : strip (.mk h n p t) = .mk (strH h) n (fun i => strP (p i)) (fun i => strip (t i)) := rfl
theorem bareWs_bare (l : List Wd) : bareWs (bareWs l) = bareWs l := bareWs_eq.2 (nms_bare l)
theorem strP_strP (q : PtH) : strP (strP q) = strP q := by unfold strP; simp only [bareWs_bare]
theorem strH_strH (h : TyH) : strH (strH h) = strH h := by unfold strH; simp only [bareWs_bare]
theorem strip_strip (t : Ty) : strip (strip t) = strip t := by
  induction t with
  | nil => rfl
  | mk h n p t ih =>
    rw [strip_mk, strip_mk, strH_strH]
    congr 1
    · funext i; exact strP_strP _
    · funext i; exact ih i
theorem wdsEq_bareL (a b : List Wd) : wdsEq (bareWs a) b = wdsEq a b := by unfold wdsEq; rw [nms_bare]
theorem wdsEq_bareR (a b : List Wd) : wdsEq a (bareWs b) = wdsEq a b := by unfold wdsEq; rw [nms_bare]
theorem ptEq_strL (p q : PtH) : ptEq (strP p) q = ptEq p q := by
  unfold ptEq plainB strP
  simp only [wdsEq_bareL]
theorem ptEq_strR (p q : PtH) : ptEq p (strP q) = ptEq p q := by
  unfold ptEq plainB strP
  simp only [wdsEq_bareR]
theorem hdrEq_strL (a b : TyH) : hdrEq (strH a) b = hdrEq a b := by
  unfold hdrEq strH
  simp only [wdsEq_bareL]
theorem hdrEq_strR (a b : TyH) : hdrEq a (strH b) = hdrEq a b := by
  unfold hdrEq strH
  simp only [wdsEq_bareR]
theorem sameT_strL (t : Ty) : ∀ u, sameT (strip t) u = sameT t u := by
  induction t with
  | nil => intro u; rfl
  | mk h n p t ih =>
    intro u
    cases u with
    | nil => rfl
    | mk h' n' p' t' =>
      rw [strip_mk, sameT_mk, sameT_mk, hdrEq_strL]
      simp only [ptEq_strL, ih]
theorem sameT_strR (t : Ty) : ∀ u, sameT t (strip u) = sameT t u := by
  induction t with
  | nil => intro u; cases u <;> rfl
  | mk h n p t ih =>
    intro u
    cases u with
    | nil => rfl
    | mk h' n' p' t' =>
      rw [strip_mk, sameT_mk, sameT_mk, hdrEq_strR]
      simp only [ptEq_strR, ih]
theorem cntI_strip (t : Ty) : cntI (strip t) = cntI t := by
  induction t with
  | nil => rfl
  | mk h n p t ih =>
    show cntTo (fun i => (strP (p i)).bare) (fun i => cntI (strip (t i))) n = cntTo (fun i => (p i).bare) (fun i => cntI (t i)) n
    congr 1
    funext i
    exact ih i

/-! ### The fault is the same but for its place -/
theorem findSome_sim {f g : Nat → Option Flt} (h : ∀ i, (f i).map Prod.fst = (g i).map Prod.fst) (l : List Nat) : (l.findSome? f).map Prod.fst = (l.findSome? g).map Prod.fst := by
  induction l with
  | nil => rfl
  | cons a r ih =>
    have ha := h a
    cases hf : f a with
    | none =>
      cases hg : g a with
      | none => rw [List.findSome?_cons, List.findSome?_cons, hf, hg]; exact ih
      | some y => rw [hf, hg] at ha; cases ha
    | some x =>
      cases hg : g a with
      | none => rw [hf, hg] at ha; cases ha
      | some y => rw [List.findSome?_cons, List.findSome?_cons, hf, hg]; rw [hf, hg] at ha; exact ha
theorem firstOf_sim {f g : Nat → Option Flt} (h : ∀ i, (f i).map Prod.fst = (g i).map Prod.fst) (n : Nat) : ((firstOf f n).getD (0, 0)).1 = ((firstOf g n).getD (0, 0)).1 := by
  have := findSome_sim h (List.range n)
  unfold firstOf
  cases hf : (List.range n).findSome? f with
  | none =>
    cases hg : (List.range n).findSome? g with
    | none => rfl
    | some y => rw [hf, hg] at this; cases this
  | some x =>
    cases hg : (List.range n).findSome? g with
    | none => rw [hf, hg] at this; cases this
    | some y => rw [hf, hg] at this; exact Option.some.inj this
theorem wNm_bare (l : List Wd) (i : Nat) : wNm (bareWs l) i = wNm l i := by
  unfold wNm bareWs
  rw [List.getD_eq_getElem?_getD, List.getD_eq_getElem?_getD, List.getElem?_map]
  cases l[i]? <;> rfl
theorem wPl_bare (l : List Wd) (i : Nat) : wPl (bareWs l) i = 0 := by
  unfold wPl bareWs
  rw [List.getD_eq_getElem?_getD, List.getElem?_map]
  cases l[i]? <;> rfl
theorem labelF_str (l : List Wd) : (labelF (bareWs l)).1 = (labelF l).1 := by
  unfold labelF
  rw [bareWs_length]
  split
  · rfl
  · refine firstOf_sim (fun i => ?_) _
    unfold badAt
    rw [wNm_bare]
    split <;> rfl
theorem enumF_str (a b : Int) (l : List Wd) : (enumF a (bareWs l)).1 = (enumF b l).1 := by
  unfold enumF
  rw [bareWs_length]
  split
  · rfl
  split
  · rfl
  · refine firstOf_sim (fun i => ?_) _
    unfold listAt
    rw [nms_bare]
    split <;> rfl
theorem coarseF_str (q : PtH) : (coarseF (strP q)).1 = (coarseF q).1 := by
  unfold coarseF
  rw [show (strP q).ck = q.ck from rfl, show (strP q).cn = q.cn from rfl, show (strP q).cl = bareWs q.cl from rfl, bareWs_length]
  split
  · split <;> rfl
  split
  · rfl
  split
  · rfl
  · exact labelF_str _
theorem widthF_str (q : PtH) : (widthF (strP q)).1 = (widthF q).1 := by
  unfold widthF
  rw [show (strP q).label = bareWs q.label from rfl, labelF_str]
  split
  · exact coarseF_str q
  · exact labelF_str _
theorem partF_str (q : PtH) : (partF (strP q)).1 = (partF q).1 := by
  unfold partF
  rw [show (strP q).wide = q.wide from rfl]
  split
  · rfl
  · exact widthF_str q
theorem bareB_str (q : PtH) (t : Ty) : bareB (strP q) (strip t) = bareB q t := by
  unfold bareB
  rw [ptEq_strL, sameT_strL]
  rfl
/-- The same fault, but for its place, and as many types. -/
def Sim (a b : Wr) : Prop := a.1.1 = b.1.1 ∧ a.2 = b.2
theorem stepF_sim {k : Int} {n : Nat} {p : Nat → PtH} {t : Nat → Ty} {sub sub' : Nat → Int → Wr} {i : Nat} {m : Int} (h : Sim (sub' i m) (sub i m)) : Sim (stepF k n (fun i => strP (p i)) (fun i => strip (t i)) sub' i m) (stepF k n p t sub i m) := by
  unfold stepF
  rw [show pNames n (fun i => strP (p i)) = pNames n p from rfl]
  split
  · exact ⟨rfl, rfl⟩
  rw [show (strP (p i)).bare = (p i).bare from rfl]
  split
  · rw [bareB_str]
    split <;> exact ⟨rfl, rfl⟩
  rw [partF_str]
  split
  · exact ⟨partF_str _, rfl⟩
  · exact h
theorem goTo_sim {g g' : Nat → Int → Wr} (h : ∀ i m, Sim (g' i m) (g i m)) (n : Nat) (m : Int) : Sim (goTo g' n m) (goTo g n m) := by
  induction n with
  | zero => exact ⟨rfl, rfl⟩
  | succ n ih =>
    show Sim (if (goTo g' n m).1.1 ≠ 0 then goTo g' n m else g' n (goTo g' n m).2) (if (goTo g n m).1.1 ≠ 0 then goTo g n m else g n (goTo g n m).2)
    rw [ih.1, ih.2]
    split
    · exact ih
    · exact h n _
theorem ownB_str (h : TyH) (n : Nat) : ownB (strH h) n = ownB h n := by
  unfold ownB strH
  simp only [bareWs_length]
theorem kindF_sim {h : TyH} {n : Nat} {p : Nat → PtH} {t : Nat → Ty} {sub sub' : Nat → Int → Wr} {m : Int} (hs : ∀ i m, Sim (sub' i m) (sub i m)) : Sim (kindF (strH h) n (fun i => strP (p i)) (fun i => strip (t i)) sub' m) (kindF h n p t sub m) := by
  unfold kindF
  rw [show (strH h).kind = h.kind from rfl, show (strH h).hi = h.hi from rfl, show (strH h).lo = h.lo from rfl, show (strH h).most = h.most from rfl, show (strH h).name.1 = h.name.1 from rfl]
  split
  · split <;> exact ⟨rfl, rfl⟩
  split
  · split <;> exact ⟨rfl, rfl⟩
  split
  · exact ⟨enumF_str _ _ _, rfl⟩
  split
  · unfold oneF
    rw [ptEq_strL, show (strH h).most = h.most from rfl]
    split
    · split
      · exact ⟨rfl, rfl⟩
      · exact hs 0 _
    · exact ⟨rfl, rfl⟩
  split
  · unfold partsF
    rw [show (strH h).kind = h.kind from rfl]
    split
    · exact ⟨rfl, rfl⟩
    split
    · exact ⟨rfl, rfl⟩
    · exact goTo_sim (fun i m => stepF_sim (hs i m)) _ _
  split
  · split <;> exact ⟨rfl, rfl⟩
  · exact ⟨rfl, rfl⟩
theorem chk_strip (t : Ty) : ∀ d m, Sim (chk (strip t) d m) (chk t d m) := by
  induction t with
  | nil => intro d m; exact ⟨rfl, rfl⟩
  | mk h n p t ih =>
    intro d m
    rw [strip_mk, chk_mk, chk_mk]
    generalize IntKind.i64.wrap (m + 1) = m1
    unfold headF
    rw [ownB_str, show (strH h).kind = h.kind from rfl]
    split
    · exact ⟨rfl, rfl⟩
    split
    · exact ⟨rfl, rfl⟩
    split
    · exact ⟨rfl, rfl⟩
    split
    · exact kindF_sim (fun i m' => ih i _ m')
    · exact ⟨rfl, rfl⟩
theorem WdsSz.bare {l : List Wd} (h : WdsSz l) : WdsSz (bareWs l) := ⟨by rw [bareWs_length]; exact h.1, fun k => by rw [wNm_bare]; exact h.2 k⟩
theorem strip_sz (t : Ty) : TySz t → TySz (strip t) := by
  induction t with
  | nil => intro h; exact h.elim
  | mk h n p t ih =>
    rintro ⟨h1, h2, h3, h4⟩
    exact ⟨h1.bare, h2, h3, fun i hi => ⟨(h4 i hi).1, (h4 i hi).2.1.bare, (h4 i hi).2.2.1.bare, ih i (h4 i hi).2.2.2⟩⟩
end Go.Proofs.Ytanpljalbijfkaa
