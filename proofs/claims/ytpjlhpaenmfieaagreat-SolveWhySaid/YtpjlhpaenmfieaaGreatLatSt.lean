/- Words (a name and where it stands) in memory. -/
import Derived.Test.YtpjlhpaenmfieaaGreatBase
import Derived.Test.YtpjlhpaenmfieaaGreatNamAll
import Derived.Test.YtpjlhpaenmfieaaGreatLatPl
import Derived.Test.YtpjlhpaenmfieaaGreatNamXP
import Derived.Test.YtpjlhpaenmfieaaGreatRelAll
namespace Go.Proofs.YtpjlhpaenmfieaaGreat
open Go.RowKit

/-- A name and where it stands. -/
abbrev Wd := ByteArray × Int
def wd0 : Wd := (⟨#[]⟩, 0)
def nms (ws : List Wd) : List ByteArray := ws.map (·.1)
theorem nms_length (ws : List Wd) : (nms ws).length = ws.length := by simp [nms]
def wNm (ws : List Wd) (i : Nat) : ByteArray := (ws.getD i wd0).1
def wPl (ws : List Wd) (i : Nat) : Int := (ws.getD i wd0).2
theorem nms_at {ws : List Wd} {i : Nat} (h : i < (nms ws).length) : (nms ws)[i] = wNm ws i := by
  have h' : i < ws.length := by simpa [nms] using h
  simp [nms, wNm, List.getD_eq_getElem?_getD, List.getElem?_eq_getElem h']
def firstOf (f : Nat → Option (Int × Int)) (n : Nat) : Option (Int × Int) := (List.range n).findSome? f
theorem firstOf_hit {f : Nat → Option (Int × Int)} {n k : Nat} {x : Int × Int} (hk : k < n) (h0 : ∀ j, j < k → f j = none) (h : f k = some x) : firstOf f n = some x := by
  unfold firstOf
  have e : List.range n = List.range k ++ (List.range (n - k)).map (k + ·) := by
    rw [← List.range_add]; congr 1; omega
  rw [e, List.findSome?_append, List.findSome?_eq_none_iff.2 (fun j hj => h0 j (List.mem_range.1 hj))]
  obtain ⟨d, hd⟩ : ∃ d, n - k = d + 1 := ⟨n - k - 1, by omega⟩
  rw [hd, List.range_succ_eq_map]
  simp [h]
theorem firstOf_miss {f : Nat → Option (Int × Int)} {n : Nat} : firstOf f n = none ↔ ∀ j, j < n → f j = none := by
  unfold firstOf
  rw [List.findSome?_eq_none_iff]
  exact ⟨fun h j hj => h j (List.mem_range.2 hj), fun h j hj => h j (List.mem_range.1 hj)⟩
def wdCells (ws : List Wd) : List Value := ws.flatMap fun p => [.string p.1, .int .i64 p.2]
theorem wdCells_length (ws : List Wd) : (wdCells ws).length = ws.length * 2 := by
  induction ws with
  | nil => rfl
  | cons p ps ih => simp only [wdCells, List.flatMap_cons, List.length_append] at ih ⊢; rw [ih]; simp; omega
theorem wdCells_get (ws : List Wd) (k : Nat) (hk : k < ws.length) : (wdCells ws)[k * 2]? = some (.string (wNm ws k)) ∧ (wdCells ws)[k * 2 + 1]? = some (.int .i64 (wPl ws k)) := by
  induction ws generalizing k with
  | nil => simp at hk
  | cons p ps ih =>
    cases k with
    | zero => exact ⟨rfl, rfl⟩
    | succ k =>
      have := ih k (by simpa using hk)
      simp only [wdCells, List.flatMap_cons] at this ⊢
      rw [show (k + 1) * 2 = k * 2 + 1 + 1 by omega]
      simpa [wNm, wPl] using this
def WdsAt (w : World) (B : Nat) (A : Option Addr) (ws : List Wd) : Prop := Reads w B 2 A ws.length (wdCells ws)
theorem WdsAt.cell {w : World} {B : Nat} {A : Option Addr} {ws : List Wd} (h : WdsAt w B A ws) (hn : 0 < ws.length) :
    ∃ b o, A = some ⟨b, o, none⟩ ∧ b < B ∧ ∀ k, k < ws.length → w.cell? ⟨b, o + k * 2, none⟩ = some (.string (wNm ws k)) ∧ w.cell? ⟨b, o + k * 2 + 1, none⟩ = some (.int .i64 (wPl ws k)) := by
  obtain ⟨b, o, e, hb, hc⟩ := h.form hn (by omega)
  exact ⟨b, o, e, hb, fun k hk => ⟨hc _ _ (wdCells_get ws k hk).1, hc _ _ (wdCells_get ws k hk).2⟩⟩
theorem WdsAt.ext {w w' : World} {A : Option Addr} {ws : List Wd} (h : WdsAt w w.heap.size A ws) (hE : Ext w w') : WdsAt w' w'.heap.size A ws :=
  (Reads.keep h fun _p hp => hE.cell hp).more hE.size

/-- A fault. -/
def fltV (f : Int × Int) : Value := .agg #[.int .i64 f.1, .int .i64 f.2]
end Go.Proofs.YtpjlhpaenmfieaaGreat
/- What is wrong with levels and their order, plain. -/
namespace Go.Proofs.YtpjlhpaenmfieaaGreat
open Go.RowKit

def nameBad (ws : List Wd) (i : Nat) : Option (Int × Int) :=
  if rightB (wNm ws i) = false then some (9, wPl ws i) else if findL (nms ws) (wNm ws i) < (i : Int) then some (10, wPl ws i) else none
def lo (os : List (Wd × Wd)) (i : Nat) : Wd := (os.getD i (wd0, wd0)).1
def hi (os : List (Wd × Wd)) (i : Nat) : Wd := (os.getD i (wd0, wd0)).2
def orderBad (ws : List Wd) (os : List (Wd × Wd)) (i : Nat) : Option (Int × Int) :=
  if findL (nms ws) (lo os i).1 < 0 then some (17, (lo os i).2) else if findL (nms ws) (hi os i).1 < 0 then some (17, (hi os i).2) else none
def prs (ws : List Wd) (os : List (Wd × Wd)) : List (Int × Int) := os.map fun p => (findL (nms ws) p.1.1, findL (nms ws) p.2.1)
theorem prs_length (ws : List Wd) (os : List (Wd × Wd)) : (prs ws os).length = os.length := by simp [prs]
theorem prs_at {ws : List Wd} {os : List (Wd × Wd)} {i : Nat} (h : i < (prs ws os).length) : (prs ws os)[i] = (findL (nms ws) (lo os i).1, findL (nms ws) (hi os i).1) := by
  have h' : i < os.length := by simpa [prs] using h
  simp [prs, lo, hi, List.getD_eq_getElem?_getD, List.getElem?_eq_getElem h']
/-- Is a level at most another one? -/
def leqL (ws : List Wd) (os : List (Wd × Wd)) (a b : Nat) : Bool := mat (leads ws.length (prs ws os)) a b
def boundBad (ws : List Wd) (os : List (Wd × Wd)) : Int × Int :=
  if LatM.boundsL ws.length (leqL ws os) < 0 then (0, 0) else (12, wPl ws (LatM.boundsL ws.length (leqL ws os)).toNat)
def loopBad (ws : List Wd) (os : List (Wd × Wd)) : Int × Int :=
  match refLoop (leads ws.length (prs ws os)) with
  | some a => (11, wPl ws a)
  | none => boundBad ws os
def wrongL (ws : List Wd) (os : List (Wd × Wd)) : Int × Int :=
  if ws.length = 0 then (15, 0) else if 32 < ws.length then (8, wPl ws 32) else if 256 < os.length then (8, (lo os 256).2) else
  match firstOf (nameBad ws) ws.length with
  | some x => x
  | none => match firstOf (orderBad ws os) os.length with
    | some x => x
    | none => loopBad ws os

theorem prs_ok {ws : List Wd} {os : List (Wd × Wd)} (h : ∀ j, j < os.length → orderBad ws os j = none) : okPs ws.length (prs ws os) = true := by
  unfold okPs
  rw [List.all_eq_true]
  intro p hp
  obtain ⟨i, hi', rfl⟩ := List.getElem_of_mem hp
  rw [prs_at hi']
  have h1 := h i (by simpa [prs] using hi')
  unfold orderBad at h1
  have b1 := findL_bound (nms ws) (lo os i).1
  have b2 := findL_bound (nms ws) (hi os i).1
  rw [nms_length] at b1 b2
  by_cases c1 : findL (nms ws) (lo os i).1 < 0
  · rw [if_pos c1] at h1; cases h1
  by_cases c2 : findL (nms ws) (hi os i).1 < 0
  · rw [if_neg c1, if_pos c2] at h1; cases h1
  unfold okP
  simp
  omega

/-- Levels and an order with nothing wrong. -/
structure GoodL (ws : List Wd) (os : List (Wd × Wd)) : Prop where
  pos : 0 < ws.length
  few : ws.length ≤ 32
  fewO : os.length ≤ 256
  named : ∀ i, i < ws.length → nameBad ws i = none
  found : ∀ i, i < os.length → orderBad ws os i = none
  lat : LatM.Lat ws.length (leqL ws os)

theorem po_of {n : Nat} {ps : List (Int × Int)} (hok : okPs n ps = true) (h : refLoop (leads n ps) = none) : LatM.Po n (mat (leads n ps)) := by
  refine ⟨fun a ha => (leads_mat hok a a ha).2 (.refl _), fun a b c ha hb hc h1 h2 => ?_, fun a b ha hb h1 h2 => ?_⟩
  · exact (leads_mat hok a c ha).2 (((leads_mat hok a b ha).1 h1).trans ((leads_mat hok b c hb).1 h2))
  · by_cases e : a = b
    · exact e
    · have := noloop hok h a b ha hb e h1; rw [this] at h2; cases h2
theorem bounds_none {n : Nat} {M : Nat → Nat → Bool} (h : LatM.boundsL n M < 0) : ∀ j, j < n → LatM.lacks n M j = false := by
  intro j hj
  unfold LatM.boundsL at h
  cases hf : (List.range n).find? (LatM.lacks n M) with
  | some b => rw [hf] at h; exact absurd h (by show ¬ (b : Int) < 0; omega)
  | none =>
    rw [List.find?_eq_none] at hf
    simpa using hf j (List.mem_range.2 hj)
theorem good_of {ws : List Wd} {os : List (Wd × Wd)} (h : (wrongL ws os).1 = 0) : GoodL ws os := by
  unfold wrongL at h
  by_cases c1 : ws.length = 0
  · rw [if_pos c1] at h; cases h
  rw [if_neg c1] at h
  by_cases c2 : 32 < ws.length
  · rw [if_pos c2] at h; cases h
  rw [if_neg c2] at h
  by_cases c3 : 256 < os.length
  · rw [if_pos c3] at h; cases h
  rw [if_neg c3] at h
  cases h1 : firstOf (nameBad ws) ws.length with
  | some x =>
    rw [h1] at h
    exfalso
    obtain ⟨i, _, hi'⟩ := List.exists_of_findSome?_eq_some h1
    unfold nameBad at hi'
    split at hi'
    · cases hi'; cases h
    · split at hi'
      · cases hi'; cases h
      · cases hi'
  | none =>
    rw [h1] at h
    have hn := firstOf_miss.1 h1
    cases h2 : firstOf (orderBad ws os) os.length with
    | some x =>
      rw [h2] at h
      exfalso
      obtain ⟨i, _, hi'⟩ := List.exists_of_findSome?_eq_some h2
      unfold orderBad at hi'
      split at hi'
      · cases hi'; cases h
      · split at hi'
        · cases hi'; cases h
        · cases hi'
    | none =>
      rw [h2] at h
      have ho := firstOf_miss.1 h2
      have hok := prs_ok ho
      unfold loopBad at h
      cases h3 : refLoop (leads ws.length (prs ws os)) with
      | some a => rw [h3] at h; cases h
      | none =>
        rw [h3] at h
        have hpo := po_of hok h3
        unfold boundBad at h
        dsimp only at h
        by_cases c4 : LatM.boundsL ws.length (leqL ws os) < 0
        · exact ⟨by omega, by omega, by omega, hn, ho, LatM.lat_of hpo (by omega) (bounds_none c4)⟩
        · rw [if_neg c4] at h; cases h
end Go.Proofs.YtpjlhpaenmfieaaGreat
/- Words and pairs of words in memory. -/
namespace Go.Proofs.YtpjlhpaenmfieaaGreat
open Go.RowKit

def odCells (os : List (Wd × Wd)) : List Value := os.flatMap fun p => [.string p.1.1, .int .i64 p.1.2, .string p.2.1, .int .i64 p.2.2]
theorem odCells_length (os : List (Wd × Wd)) : (odCells os).length = os.length * 4 := by
  induction os with
  | nil => rfl
  | cons p ps ih => simp only [odCells, List.flatMap_cons, List.length_append] at ih ⊢; rw [ih]; simp; omega
theorem odCells_get (os : List (Wd × Wd)) (k : Nat) (hk : k < os.length) : (odCells os)[k * 4]? = some (.string (lo os k).1) ∧ (odCells os)[k * 4 + 1]? = some (.int .i64 (lo os k).2) ∧ (odCells os)[k * 4 + 2]? = some (.string (hi os k).1) ∧ (odCells os)[k * 4 + 3]? = some (.int .i64 (hi os k).2) := by
  induction os generalizing k with
  | nil => simp at hk
  | cons p ps ih =>
    cases k with
    | zero => exact ⟨rfl, rfl, rfl, rfl⟩
    | succ k =>
      have := ih k (by simpa using hk)
      simp only [odCells, List.flatMap_cons] at this ⊢
      rw [show (k + 1) * 4 = k * 4 + 1 + 1 + 1 + 1 by omega]
      simpa [lo, hi] using this
def OdsAt (w : World) (B : Nat) (A : Option Addr) (os : List (Wd × Wd)) : Prop := Reads w B 4 A os.length (odCells os)
theorem OdsAt.cell {w : World} {B : Nat} {A : Option Addr} {os : List (Wd × Wd)} (h : OdsAt w B A os) (hn : 0 < os.length) :
    ∃ b o, A = some ⟨b, o, none⟩ ∧ b < B ∧ ∀ k, k < os.length → w.cell? ⟨b, o + k * 4, none⟩ = some (.string (lo os k).1) ∧ w.cell? ⟨b, o + k * 4 + 1, none⟩ = some (.int .i64 (lo os k).2) ∧ w.cell? ⟨b, o + k * 4 + 2, none⟩ = some (.string (hi os k).1) ∧ w.cell? ⟨b, o + k * 4 + 3, none⟩ = some (.int .i64 (hi os k).2) := by
  obtain ⟨b, o, e, hb, hc⟩ := h.form hn (by omega)
  refine ⟨b, o, e, hb, fun k hk => ?_⟩
  obtain ⟨h0, h1, h2, h3⟩ := odCells_get os k hk
  exact ⟨hc _ _ h0, hc _ _ h1, hc _ _ h2, hc _ _ h3⟩
theorem OdsAt.ext {w w' : World} {A : Option Addr} {os : List (Wd × Wd)} (h : OdsAt w w.heap.size A os) (hE : Ext w w') : OdsAt w' w'.heap.size A os :=
  (Reads.keep h fun _p hp => hE.cell hp).more hE.size
end Go.Proofs.YtpjlhpaenmfieaaGreat
/- lattice: many. -/
namespace Go.Proofs.YtpjlhpaenmfieaaGreat
open Go.RowKit

/-- A function that hands back a fault from its cell. -/
theorem flt_ret {g : Nat} {w2 : World} {fn : Func} {p : Tmp} {a : Act} {R : Ending → World → Prop} {f : Int × Int} (hB : Blk w2 g 31 #[.int .i64 f.1, .int .i64 f.2]) (hfn : fn.results = #[.cell p 31]) (hp : a.tmps.getD p undef = .pointer (some ⟨g, 0, none⟩)) (hd : a.defers = [])
    (hR : R (.returned (fltV f)) w2) : bodyPost Tryz.prog fn R .ret a w2 :=
  bodyPost_ret (results_cell_row hfn _ _ g 31 _ (0, 0) _ hp hB Tryz.underlying31 rfl (by kernel_rfl)) hd hR
theorem results_tmp_flt {fn : Func} {u p : Tmp} (h : fn.results = #[.tmp u, .cell p 31]) (tmps : Array Value) (w : World) (g : Nat) (f : Int × Int)
    (hp : tmps.getD p undef = .pointer (some ⟨g, 0, none⟩)) (hB : Blk w g 31 #[.int .i64 f.1, .int .i64 f.2]) :
    (results fn tmps).run Tryz.prog w = .ok (.tuple #[tmps.getD u undef, fltV f]) w := by
  have hp' : tmps[p]?.getD undef = .pointer (some ⟨g, 0, none⟩) := by simpa using hp
  have hl := run_loadVar_row (P := Tryz.prog) (ty := 31) w g 31 #[.int .i64 f.1, .int .i64 f.2] (0, 0) _ hB Tryz.underlying31 rfl (by kernel_rfl)
  simp [results, h, hp', asAddr, hl, fltV]
/-- A function that hands back a value and, from its cell, a fault. -/
theorem val_flt_ret {g : Nat} {w2 : World} {fn : Func} {u p : Tmp} {a : Act} {R : Ending → World → Prop} {f : Int × Int} {v : Value} (hB : Blk w2 g 31 #[.int .i64 f.1, .int .i64 f.2]) (hfn : fn.results = #[.tmp u, .cell p 31]) (hu : a.tmps.getD u undef = v) (hp : a.tmps.getD p undef = .pointer (some ⟨g, 0, none⟩)) (hd : a.defers = [])
    (hR : R (.returned (.tuple #[v, fltV f])) w2) : bodyPost Tryz.prog fn R .ret a w2 := by
  subst hu
  exact bodyPost_ret (results_tmp_flt hfn _ _ g f hp hB) hd hR

def manyL (ws : List Wd) (os : List (Wd × Wd)) : Int × Int :=
  if ws.length = 0 then (15, 0) else if 32 < ws.length then (8, wPl ws 32) else if 256 < os.length then (8, (lo os 256).2) else (0, 0)

set_option maxRecDepth 100000 in
theorem many_any (A : Option Addr) (c n : Nat) (ws : List Wd) (A2 : Option Addr) (c2 m : Nat) (os : List (Wd × Wd)) (w : World) (h : WdsAt w w.heap.size A ws) (hn : n = ws.length) (h2 : OdsAt w w.heap.size A2 os) (hm : m = os.length) :
    Calls Tryz.prog 32 #[.slice A n c, .slice A2 m c2] w (fun e w' => e = .returned (fltV (manyL ws os)) ∧ Ext w w') := by
  by_cases c0 : n = 0
  · have e : manyL ws os = (15, 0) := by unfold manyL; rw [if_pos (by omega)]
    rw [e]
    subst c0
    clear h h2 hn hm e
    go_enter Tryz.func32, Tryz.ntmps32
    go_wp2_with fail
    exact flt_ret (f := (15, 0)) (Blk.new _ _ _) rfl rfl rfl ⟨rfl, (Ext.rfl' w).alloc (Nat.le_refl _) _⟩
  by_cases c1 : 32 < n
  · have e : manyL ws os = (8, wPl ws 32) := by unfold manyL; rw [if_neg (by omega), if_pos (by omega)]
    rw [e]
    obtain ⟨b, o, rfl, hbs, hcell⟩ := h.cell (by omega)
    have d1 := (hcell 32 (by omega)).2
    obtain ⟨x, hx⟩ : ∃ x, x = wPl ws 32 := ⟨_, rfl⟩
    rw [← hx] at d1 ⊢
    clear hx hcell h h2 hn hm e
    go_enter Tryz.func32, Tryz.ntmps32
    go_wp2_with fail
    exact flt_ret (f := (8, x)) (Blk.new _ _ _) rfl rfl rfl ⟨rfl, (Ext.rfl' w).alloc (Nat.le_refl _) _⟩
  by_cases c2 : 256 < m
  · have e : manyL ws os = (8, (lo os 256).2) := by unfold manyL; rw [if_neg (by omega), if_neg (by omega), if_pos (by omega)]
    rw [e]
    obtain ⟨b, o, rfl, hbs, hcell⟩ := h2.cell (by omega)
    have d1 := (hcell 256 (by omega)).2.1
    obtain ⟨x, hx⟩ : ∃ x, x = (lo os 256).2 := ⟨_, rfl⟩
    rw [← hx] at d1 ⊢
    clear hx hcell h h2 hn hm e
    go_enter Tryz.func32, Tryz.ntmps32
    go_wp2_with fail
    exact flt_ret (f := (8, x)) (Blk.new _ _ _) rfl rfl rfl ⟨rfl, (Ext.rfl' w).alloc (Nat.le_refl _) _⟩
  · have e : manyL ws os = (0, 0) := by unfold manyL; rw [if_neg (by omega), if_neg (by omega), if_neg (by omega)]
    rw [e]
    clear h h2 hn hm e
    go_enter Tryz.func32, Tryz.ntmps32
    go_wp2_with fail
    exact flt_ret (f := (0, 0)) (Blk.new _ _ _) rfl rfl rfl ⟨rfl, (Ext.rfl' w).alloc (Nat.le_refl _) _⟩
end Go.Proofs.YtpjlhpaenmfieaaGreat
/- The first names, plain: whether one of them stands twice. -/
namespace Go.Proofs.YtpjlhpaenmfieaaGreat
open Go.RowKit

theorem twice_take {l : List ByteArray} {k : Nat} (hk : k < l.length) (h0 : ∀ j (hj : j < l.length), j < k → ¬ findL l l[j] < (j : Int)) : twiceL (l.take (k + 1)) < 0 ↔ ¬ findL l l[k] < (k : Int) := by
  rw [twice_nodup, List.take_succ_eq_append_getElem hk, findL_lt hk]
  have hno : (l.take k).Nodup := by
    rw [List.Nodup, List.pairwise_iff_getElem]
    intro i j hi hj hij
    simp only [List.length_take] at hi hj
    rw [List.getElem_take, List.getElem_take]
    intro e
    exact h0 j (by omega) (by omega) ((findL_lt (by omega)).2 ⟨i, by omega, hij, e⟩)
  rw [List.nodup_append]
  constructor
  · rintro ⟨_, _, h3⟩ ⟨j, hj, hjk, e⟩
    refine h3 l[j] ?_ l[k] (List.mem_singleton.2 rfl) e
    rw [List.mem_take_iff_getElem]
    exact ⟨j, by omega, rfl⟩
  · intro h
    refine ⟨hno, by simp, fun x hx y hy e => h ?_⟩
    obtain ⟨j, hj, rfl⟩ := List.mem_take_iff_getElem.1 hx
    rw [List.mem_singleton] at hy
    subst hy
    exact ⟨j, by omega, by omega, e⟩

theorem nms_take (ws : List Wd) (k : Nat) (hk : k < ws.length) : (nms ws).take (k + 1) = (nms ws).take k ++ [wNm ws k] := by
  rw [List.take_succ_eq_append_getElem (by rw [nms_length]; exact hk), nms_at]
/-- What is asked of the next name. -/
theorem next_name {ws : List Wd} {k : Nat} (hk : k < ws.length) (h0 : ∀ j, j < k → nameBad ws j = none) :
    (rightB (wNm ws k) = false → nameBad ws k = some (9, wPl ws k)) ∧
    (rightB (wNm ws k) = true → ¬ twiceL ((nms ws).take (k + 1)) < 0 → nameBad ws k = some (10, wPl ws k)) ∧
    (rightB (wNm ws k) = true → twiceL ((nms ws).take (k + 1)) < 0 → nameBad ws k = none) := by
  have key : twiceL ((nms ws).take (k + 1)) < 0 ↔ ¬ findL (nms ws) (wNm ws k) < (k : Int) := by
    have := twice_take (l := nms ws) (k := k) (by rw [nms_length]; exact hk) fun j hj hjk => by
      have h1 := h0 j hjk
      unfold nameBad at h1
      rw [nms_at hj]
      intro hl
      split at h1
      · cases h1
      · cases h1
    rw [this, nms_at]
  unfold nameBad
  refine ⟨fun h => by rw [if_pos h], fun h h2 => ?_, fun h h2 => ?_⟩
  · rw [if_neg (by rw [h]; decide), if_pos (by rw [key] at h2; omega)]
  · rw [if_neg (by rw [h]; decide), if_neg (key.1 h2)]
end Go.Proofs.YtpjlhpaenmfieaaGreat
