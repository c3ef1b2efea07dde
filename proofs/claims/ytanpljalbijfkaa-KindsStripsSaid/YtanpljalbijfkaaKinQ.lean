/- kinds: what is wrong with a type (plain). -/
import Derived.Test.YtanpljalbijfkaaKinP
import Derived.Test.YtanpljalbijfkaaNamXP
namespace Go.Proofs.Ytanpljalbijfkaa
open Go.RowKit

abbrev Flt := Int × Int
def badAt (l : List Wd) (i : Nat) : Option Flt := if rightB (wNm l i) = false then some (9, wPl l i) else none
/-- What is wrong with a label. -/
def labelF (l : List Wd) : Flt := if 32 < l.length then (8, wPl l 32) else (firstOf (badAt l) l.length).getD (0, 0)
/-- What is wrong with the name at a place of some. -/
def listE (l : List ByteArray) (i : Nat) : Int := if rightB (l.getD i ⟨#[]⟩) = false then 9 else if twiceP l i = true then 10 else 0
def listAt (l : List Wd) (i : Nat) : Option Flt := if listE (nms l) i = 0 then none else some (listE (nms l) i, wPl l i)
def enumF (a : Int) (l : List Wd) : Flt := if l.length = 0 then (15, a) else if 64 < l.length then (8, wPl l 64) else (firstOf (listAt l) l.length).getD (0, 0)
/-- What is wrong with what others may see. -/
def coarseF (q : PtH) : Flt :=
  if q.ck = 0 then (if q.cn = 0 ∧ q.cl.length = 0 then (0, 0) else (19, q.name.2)) else if q.ck < 0 ∨ 3 < q.ck then (14, q.cat) else
  if (q.ck = 1 ∧ q.cn < 1) ∨ (q.ck = 2 ∧ (q.cn < 0 ∨ 4096 < q.cn)) ∨ (q.ck = 3 ∧ q.cn ≠ 0) then (20, q.cat) else labelF q.cl
def widthF (q : PtH) : Flt := if (labelF q.label).1 = 0 then coarseF q else labelF q.label
def partF (q : PtH) : Flt := if q.wide < 0 ∨ 64 < q.wide then (20, q.name.2) else widthF q
def zTy : Ty := .mk ⟨0, 0, 0, 0, 0, [], wd0⟩ 0 (fun _ => ⟨wd0, false, [], 0, 0, 0, 0, []⟩) (fun _ => .nil)
def zPt (nm : Wd) (b : Bool) : PtH := ⟨nm, b, [], 0, 0, 0, 0, []⟩
/-- A bare part has its name alone. -/
def bareB (q : PtH) (t : Ty) : Bool := ptEq q (zPt q.name true) && sameT t zTy
def pNames (n : Nat) (p : Nat → PtH) : List ByteArray := (List.range n).map fun i => (p i).name.1
abbrev Wr := Flt × Int
def stepF (k : Int) (n : Nat) (p : Nat → PtH) (t : Nat → Ty) (sub : Nat → Int → Wr) (i : Nat) (m : Int) : Wr :=
  if listE (pNames n p) i ≠ 0 then ((listE (pNames n p) i, (p i).name.2), m) else
  if (p i).bare = true then (if k = 8 ∧ bareB (p i) (t i) = true then ((0, 0), m) else ((19, (p i).name.2), m)) else
  if (partF (p i)).1 ≠ 0 then (partF (p i), m) else sub i m
def goTo (g : Nat → Int → Wr) : Nat → Int → Wr
  | 0, m => ((0, 0), m)
  | k + 1, m => if (goTo g k m).1.1 ≠ 0 then goTo g k m else g k (goTo g k m).2
def partsF (h : TyH) (n : Nat) (p : Nat → PtH) (g : Nat → Int → Wr) (m : Int) : Wr :=
  if h.kind = 8 ∧ n = 0 then ((15, h.at_), m) else if 64 < n then ((8, (p 64).name.2), m) else goTo g n m
def oneF (h : TyH) (n : Nat) (p : Nat → PtH) (g : Int → Wr) (m : Int) : Wr :=
  if n = 1 ∧ ptEq (p 0) (zPt wd0 false) = true then (if h.most < 0 ∨ 1024 < h.most then ((20, h.at_), m) else g m) else ((19, h.at_), m)
def kindF (h : TyH) (n : Nat) (p : Nat → PtH) (t : Nat → Ty) (sub : Nat → Int → Wr) (m : Int) : Wr :=
  if h.kind = 2 then (if h.hi < h.lo then ((20, h.at_), m) else ((0, 0), m)) else
  if h.kind = 3 then (if h.most < 0 ∨ 4096 < h.most then ((20, h.at_), m) else ((0, 0), m)) else
  if h.kind = 4 then (enumF h.at_ h.names, m) else
  if h.kind = 5 ∨ h.kind = 6 then oneF h n p (sub 0) m else
  if h.kind = 7 ∨ h.kind = 8 then partsF h n p (stepF h.kind n p t sub) m else
  if h.kind = 9 then (if rightB h.name.1 = true then ((0, 0), m) else ((9, h.name.2), m)) else ((0, 0), m)
def headF (h : TyH) (n : Nat) (p : Nat → PtH) (t : Nat → Ty) (sub : Nat → Int → Wr) (d m : Int) : Wr :=
  if 24 < d then ((6, h.at_), m) else if 512 < m then ((8, h.at_), m) else if h.kind < 1 ∨ 9 < h.kind then ((14, h.at_), m) else
  if ownB h n = true then kindF h n p t sub m else ((19, h.at_), m)
/-- What is wrong with a type of a depth, behind so many. -/
def chk : Ty → Int → Int → Wr
  | .nil, _, m => ((0, 0), m)
  | .mk h n p t, d, m => headF h n p t (fun i m' => chk (t i) (IntKind.i64.wrap (d + 1)) m') d (IntKind.i64.wrap (m + 1))
theorem chk_mk (h : TyH) (n : Nat) (p : Nat → PtH) (t : Nat → Ty) (d m : Int) : chk (.mk h n p t) d m = headF h n p t (fun i m' => chk (t i) (IntKind.i64.wrap (d + 1)) m') d (IntKind.i64.wrap (m + 1)) := rfl

theorem goTo_stick {g : Nat → Int → Wr} {k n : Nat} {m : Int} (hk : k ≤ n) (h : (goTo g k m).1.1 ≠ 0) : goTo g n m = goTo g k m := by
  induction n with
  | zero => rw [show k = 0 by omega]
  | succ n ih =>
    rcases Nat.lt_or_ge n k with h1 | h1
    · rw [show k = n + 1 by omega]
    · have e := ih h1
      show (if (goTo g n m).1.1 ≠ 0 then goTo g n m else g n (goTo g n m).2) = _
      rw [e, if_pos h]
theorem goTo_next {g : Nat → Int → Wr} {k : Nat} {m : Int} (h : (goTo g k m).1.1 = 0) : goTo g (k + 1) m = g k (goTo g k m).2 := if_neg (by rw [h]; simp)
theorem pNames_length (n : Nat) (p : Nat → PtH) : (pNames n p).length = n := by simp [pNames]
theorem pNames_at {n : Nat} {p : Nat → PtH} {i : Nat} (h : i < (pNames n p).length) : (pNames n p)[i] = (p i).name.1 := by simp [pNames]
theorem pNames_take {n k : Nat} {p : Nat → PtH} (h : k ≤ n) : (pNames n p).take k = pNames k p := by
  unfold pNames
  rw [← List.map_take, List.take_range, Nat.min_eq_left h]
theorem listE_zero {l : List ByteArray} {i : Nat} (h : listE l i = 0) : rightB (l.getD i ⟨#[]⟩) = true ∧ twiceP l i = false := by
  unfold listE at h
  split at h
  · cases h
  · split at h
    · cases h
    · exact ⟨by simpa using ‹¬ rightB _ = false›, by simpa using ‹¬ twiceP _ _ = true›⟩
theorem twiceP_own {l : List ByteArray} {i : Nat} (hi : i < l.length) : twiceP l i = true ↔ ∃ k, k < i ∧ ∃ h : k < l.length, l[k] = l[i] := by
  have e : twiceP l i = decide (findL l l[i] < (i : Int)) := by
    unfold twiceP
    rw [List.getD_eq_getElem?_getD, List.getElem?_eq_getElem hi]
    rfl
  rw [e, decide_eq_true_iff]
  unfold findL
  cases hf : l.findIdx? (fun x => decide (x = l[i])) with
  | none =>
    rw [List.findIdx?_eq_none_iff] at hf
    have := hf l[i] (List.getElem_mem hi)
    simp at this
  | some j =>
    rw [List.findIdx?_eq_some_iff_getElem] at hf
    obtain ⟨hj, h1, h2⟩ := hf
    show (j : Int) < i ↔ _
    constructor
    · intro hlt
      exact ⟨j, by omega, hj, by simpa using h1⟩
    · rintro ⟨k, hk, hkl, e⟩
      rcases Nat.lt_or_ge j i with h3 | h3
      · omega
      · have := h2 k (by omega)
        simp [e] at this
/-- The first of a list, as far as a place. -/
theorem twiceP_take {l : List ByteArray} {j k : Nat} (hj : j < k) (hk : k ≤ l.length) : twiceP (l.take k) j = twiceP l j := by
  have h1 : j < (l.take k).length := by rw [List.length_take]; omega
  have h2 : j < l.length := by omega
  rw [Bool.eq_iff_iff, twiceP_own h1, twiceP_own h2]
  constructor
  · rintro ⟨a, ha, hl, e⟩
    exact ⟨a, ha, by omega, by simpa using e⟩
  · rintro ⟨a, ha, hl, e⟩
    exact ⟨a, ha, by rw [List.length_take]; omega, by simpa using e⟩
/-- The new name alone can be there twice, if those ahead are not. -/
theorem twice_new {l : List ByteArray} {k : Nat} (hk : k < l.length) (h : ∀ j, j < k → twiceP l j = false) : twiceL (l.take (k + 1)) < 0 ↔ twiceP l k = false := by
  rw [twice_neg]
  constructor
  · intro hh
    rw [← twiceP_take (Nat.lt_succ_self k) hk]
    exact hh k (by rw [List.length_take]; omega)
  · intro h1 j hj
    rw [List.length_take] at hj
    rw [twiceP_take (by omega) hk]
    rcases Nat.lt_or_ge j k with h2 | h2
    · exact h j h2
    · rw [show j = k by omega]; exact h1

theorem firstOf_nz {f : Nat → Option Flt} {n : Nat} (hf : ∀ i x, f i = some x → x.1 ≠ 0) (h : ((firstOf f n).getD (0, 0)).1 = 0) : (firstOf f n).getD (0, 0) = (0, 0) := by
  cases e : firstOf f n with
  | none => rfl
  | some x =>
    rw [e] at h
    obtain ⟨i, _, hi⟩ := List.exists_of_findSome?_eq_some e
    exact absurd h (hf i x hi)
theorem labelF_zero {l : List Wd} (h : (labelF l).1 = 0) : labelF l = (0, 0) := by
  unfold labelF at h ⊢
  split
  · rw [if_pos (by assumption)] at h; cases h
  · rw [if_neg (by assumption)] at h
    refine firstOf_nz (fun i x hx => ?_) h
    unfold badAt at hx
    split at hx
    · cases hx; simp
    · cases hx
theorem enumF_zero {a : Int} {l : List Wd} (h : (enumF a l).1 = 0) : enumF a l = (0, 0) := by
  unfold enumF at h ⊢
  split
  · rw [if_pos (by assumption)] at h; cases h
  · rw [if_neg (by assumption)] at h
    split
    · rw [if_pos (by assumption)] at h; cases h
    · rw [if_neg (by assumption)] at h
      refine firstOf_nz (fun i x hx => ?_) h
      unfold listAt at hx
      split at hx
      · cases hx
      · cases hx; assumption
theorem coarseF_zero {q : PtH} (h : (coarseF q).1 = 0) : coarseF q = (0, 0) := by
  unfold coarseF at h ⊢
  split
  · rw [if_pos (by assumption)] at h
    split
    · rfl
    · rw [if_neg (by assumption)] at h; cases h
  · rw [if_neg (by assumption)] at h
    split
    · rw [if_pos (by assumption)] at h; cases h
    · rw [if_neg (by assumption)] at h
      split
      · rw [if_pos (by assumption)] at h; cases h
      · rw [if_neg (by assumption)] at h; exact labelF_zero h
theorem goTo_zero {g : Nat → Int → Wr} {n : Nat} (hg : ∀ i m, i < n → (g i m).1.1 = 0 → (g i m).1 = (0, 0)) {k : Nat} (hk : k ≤ n) {m : Int} (h : (goTo g k m).1.1 = 0) : (goTo g k m).1 = (0, 0) := by
  induction k with
  | zero => rfl
  | succ k ih =>
    by_cases h1 : (goTo g k m).1.1 = 0
    · rw [goTo_next h1] at h ⊢
      exact hg k _ hk h
    · rw [goTo_stick (Nat.le_succ k) h1] at h; exact absurd h h1
theorem chk_zero (t : Ty) : ∀ {d m : Int}, (chk t d m).1.1 = 0 → (chk t d m).1 = (0, 0) := by
  induction t with
  | nil => intro d m _; rfl
  | mk h n p t ih =>
    intro d m hh
    rw [chk_mk] at hh ⊢
    generalize IntKind.i64.wrap (m + 1) = m1 at hh ⊢
    generalize IntKind.i64.wrap (d + 1) = d1 at hh ⊢
    have hsub : ∀ i m', ((fun i m' => chk (t i) d1 m') i m').1.1 = 0 → ((fun i m' => chk (t i) d1 m') i m').1 = (0, 0) := fun i m' e => ih i e
    generalize (fun i m' => chk (t i) d1 m') = sub at hh hsub ⊢
    unfold headF at hh ⊢
    repeat' split at hh
    all_goals first | (cases hh; done) | skip
    rename_i c1 c2 c3 c4
    rw [if_neg c1, if_neg c2, if_neg c3, if_pos c4]
    unfold kindF at hh ⊢
    by_cases k2 : h.kind = 2
    · rw [if_pos k2] at hh ⊢
      split
      · rw [if_pos (by assumption)] at hh; cases hh
      · rfl
    rw [if_neg k2] at hh ⊢
    by_cases k3 : h.kind = 3
    · rw [if_pos k3] at hh ⊢
      split
      · rw [if_pos (by assumption)] at hh; cases hh
      · rfl
    rw [if_neg k3] at hh ⊢
    by_cases k4 : h.kind = 4
    · rw [if_pos k4] at hh ⊢
      exact enumF_zero hh
    rw [if_neg k4] at hh ⊢
    by_cases k5 : h.kind = 5 ∨ h.kind = 6
    · rw [if_pos k5] at hh ⊢
      unfold oneF at hh ⊢
      split
      · rw [if_pos (by assumption)] at hh
        split
        · rw [if_pos (by assumption)] at hh; cases hh
        · rw [if_neg (by assumption)] at hh; exact hsub 0 _ hh
      · rw [if_neg (by assumption)] at hh; cases hh
    rw [if_neg k5] at hh ⊢
    by_cases k7 : h.kind = 7 ∨ h.kind = 8
    · rw [if_pos k7] at hh ⊢
      unfold partsF at hh ⊢
      split
      · rw [if_pos (by assumption)] at hh; cases hh
      rw [if_neg (by assumption)] at hh
      split
      · rw [if_pos (by assumption)] at hh; cases hh
      rw [if_neg (by assumption)] at hh
      refine goTo_zero (n := n) (fun i m' _ e => ?_) (Nat.le_refl _) hh
      unfold stepF at e ⊢
      split
      · rw [if_pos (by assumption)] at e; contradiction
      rw [if_neg (by assumption)] at e
      split
      · rw [if_pos (by assumption)] at e
        split
        · rfl
        · rw [if_neg (by assumption)] at e; cases e
      rw [if_neg (by assumption)] at e
      split
      · rw [if_pos (by assumption)] at e; contradiction
      · rw [if_neg (by assumption)] at e; exact hsub i _ e
    rw [if_neg k7] at hh ⊢
    by_cases k9 : h.kind = 9
    · rw [if_pos k9] at hh ⊢
      split
      · rfl
      · rw [if_neg (by assumption)] at hh; cases hh
    rw [if_neg k9]

/-- A type that has just what is its own. -/
def ownH (h : TyH) : TyH := ⟨h.kind, 0, if h.kind = 2 then h.lo else 0, if h.kind = 2 then h.hi else 0, if h.kind = 3 ∨ h.kind = 5 then h.most else 0, if h.kind = 4 then h.names else [], if h.kind = 9 then h.name else wd0⟩
def ownN (h : TyH) (n : Nat) : Nat := if 4 < h.kind ∧ h.kind < 9 then n else 0
theorem wdsEq_nil (l : List Wd) : wdsEq l [] = (l.length == 0) := by
  unfold wdsEq nms
  cases l <;> simp
theorem wdsEq_self (l : List Wd) : wdsEq l l = true := by unfold wdsEq; simp
theorem ptEq_self (p : PtH) : ptEq p p = true := by unfold ptEq; rw [plainB_self]; simp
theorem own_same (h : TyH) (n : Nat) (p : Nat → PtH) (t : Nat → Ty) : sameT (.mk h n p t) (.mk (ownH h) (ownN h n) p t) = ownB h n := by
  rw [sameT_mk]
  have e1 : (decide (n = ownN h n) && (List.range n).all fun i => ptEq (p i) (p i) && sameT (t i) (t i)) = ((n == 0) || (decide (5 ≤ h.kind) && decide (h.kind ≤ 8))) := by
    have e2 : ((List.range n).all fun i => ptEq (p i) (p i) && sameT (t i) (t i)) = true := by
      rw [List.all_eq_true]
      intro i _
      rw [ptEq_self, sameT_self]; rfl
    rw [e2, Bool.and_true]
    unfold ownN
    by_cases c : 4 < h.kind ∧ h.kind < 9
    · rw [if_pos c]
      have : (decide (5 ≤ h.kind) && decide (h.kind ≤ 8)) = true := by simp; omega
      simp [this]
    · rw [if_neg c]
      have : (decide (5 ≤ h.kind) && decide (h.kind ≤ 8)) = false := by simp; omega
      simp [this]; rfl
  rw [Bool.and_assoc, e1]
  unfold hdrEq ownB ownI
  have e3 : wdsEq h.names (ownH h).names = ((h.names.length == 0) || (h.kind == 4)) := by
    unfold ownH
    by_cases c : h.kind = 4
    · simp [c, wdsEq_self]
    · simp [c, wdsEq_nil]
  have e4 : decide (h.name.1 = (ownH h).name.1) = (decide (h.name.1 = ⟨#[]⟩) || (h.kind == 9)) := by
    unfold ownH
    by_cases c : h.kind = 9
    · simp [c]
    · simp [c, wd0]
  have e5 : (decide (h.lo = (ownH h).lo) && decide (h.hi = (ownH h).hi)) = ((h.lo == 0) && (h.hi == 0) || (h.kind == 2)) := by
    unfold ownH
    by_cases c : h.kind = 2
    · simp [c]
    · have c' : (h.kind == 2) = false := by simpa using c
      simp only [if_neg c, c', Bool.or_false]; rfl
  have e6 : decide (h.most = (ownH h).most) = ((h.most == 0) || (h.kind == 3) || (h.kind == 5)) := by
    unfold ownH
    by_cases c : h.kind = 3
    · simp [c]
    · by_cases c' : h.kind = 5
      · simp [c']
      · have d : (h.kind == 3) = false := by simpa using c
        have d' : (h.kind == 5) = false := by simpa using c'
        simp only [if_neg (show ¬ (h.kind = 3 ∨ h.kind = 5) by omega), d, d', Bool.or_false]; rfl
  have e7 : decide (h.kind = (ownH h).kind) = true := by simp [ownH]
  rw [e3, e4, e6, e7, Bool.true_and, e5]
  generalize ((h.lo == 0) && (h.hi == 0) || (h.kind == 2)) = a
  generalize ((h.most == 0) || (h.kind == 3) || (h.kind == 5)) = b
  generalize ((n == 0) || (decide (5 ≤ h.kind) && decide (h.kind ≤ 8))) = c
  generalize ((h.names.length == 0) || (h.kind == 4)) = d
  generalize (decide (h.name.1 = ⟨#[]⟩) || (h.kind == 9)) = e
  cases a <;> cases b <;> cases c <;> cases d <;> cases e <;> rfl
/-- An empty part. -/
theorem empty_eq (q : PtH) : (ptEq q (zPt wd0 false) && sameT zTy zTy) = ptEq q (zPt wd0 false) := by rw [sameT_self, Bool.and_true]
end Go.Proofs.Ytanpljalbijfkaa
