/- kinds: worlds that have only grown but for one block; the contract of the checker's check. (Printed by wip/gen_kiny.py.) -/
import Derived.Test.YtanpljalbijfkaaKinX
namespace Go.Proofs.Ytanpljalbijfkaa
open Go.RowKit

/-- But for one block the world has only grown. -/
def Grw (gc : Nat) (w w' : World) : Prop := w.grownBy w' (some gc)
theorem Grw.of_ext {gc : Nat} {w w' : World} (h : Ext w w') : Grw gc w w' := grown_of_ext h _
theorem Grw.trans {gc : Nat} {a b c : World} (h : Grw gc a b) (k : Grw gc b c) : Grw gc a c :=
  ⟨k.os.trans h.os, k.tape.trans h.tape, k.output.trans h.output, Nat.le_trans h.size k.size, fun i hi hr => (k.block i (Nat.lt_of_lt_of_le hi h.size) hr).trans (h.block i hi hr)⟩
theorem Grw.ext {gc : Nat} {a b c : World} (h : Grw gc a b) (k : Ext b c) : Grw gc a c := h.trans (.of_ext k)
theorem Grw.sz {gc : Nat} {a b : World} (h : Grw gc a b) : a.heap.size ≤ b.heap.size := h.size
theorem size_setCell' (w : World) (p : Addr) (v : Value) : (w.setCell p v).heap.size = w.heap.size := by simp [World.setCell]
theorem Grw.set {gc g i : Nat} {a b : World} (h : Grw gc a b) (hg : a.heap.size ≤ g ∨ g = gc) (v : Value) : Grw gc a (b.setCell ⟨g, i, none⟩ v) := by
  refine ⟨h.os, h.tape, h.output, ?_, fun k hk hr => ?_⟩
  · rw [size_setCell']; exact h.size
  · refine (Below.heap_setCell b ⟨g, i, none⟩ v k ?_).trans (h.block k hk hr)
    rintro rfl
    rcases hg with hg | hg
    · exact absurd hk (Nat.not_lt.2 hg)
    · rw [hg] at hr; exact hr rfl
theorem Grw.blk {gc g : Nat} {w w' : World} {t : TypeId} {cs : Array Value} (hg : Grw gc w w') (h : Blk w g t cs) (hne : g ≠ gc) : Blk w' g t cs := h.grown hg (by intro e; cases e; exact hne rfl)
theorem TyAt.keep {t : Ty} {B : Nat} : ∀ {w w' : World} {vs : List Value}, TyAt w B t vs → (∀ p : Addr, p.block < B → w'.cell? p = w.cell? p) → TyAt w' B t vs := by
  induction t with
  | nil => intro w w' vs h _; exact h.elim
  | mk h n p t ih =>
    rintro w w' vs ⟨An, cn, Ap, cp, rfl, h1, h2⟩ hE
    refine ⟨An, cn, Ap, cp, rfl, Reads.keep h1 hE, fun hn => ?_⟩
    obtain ⟨b, o, e, hb, hc⟩ := h2 hn
    refine ⟨b, o, e, hb, fun i hi => ?_⟩
    obtain ⟨Al, cl, Ac, cc, vt, q1, q2, q3, q4⟩ := hc i hi
    exact ⟨Al, cl, Ac, cc, vt, fun j v hv => (hE ⟨b, o + i * 18 + j, none⟩ hb).trans (q1 j v hv), Reads.keep q2 hE, Reads.keep q3 hE, ih i q4 hE⟩
theorem TyAt.more {t : Ty} {B B' : Nat} (hB : B ≤ B') : ∀ {w : World} {vs : List Value}, TyAt w B t vs → TyAt w B' t vs := by
  induction t with
  | nil => intro w vs h; exact h.elim
  | mk h n p t ih =>
    rintro w vs ⟨An, cn, Ap, cp, rfl, h1, h2⟩
    refine ⟨An, cn, Ap, cp, rfl, Reads.more h1 hB, fun hn => ?_⟩
    obtain ⟨b, o, e, hb, hc⟩ := h2 hn
    refine ⟨b, o, e, Nat.lt_of_lt_of_le hb hB, fun i hi => ?_⟩
    obtain ⟨Al, cl, Ac, cc, vt, q1, q2, q3, q4⟩ := hc i hi
    exact ⟨Al, cl, Ac, cc, vt, q1, Reads.more q2 hB, Reads.more q3 hB, ih i q4⟩
theorem PartAt.keep {q : PtH} {t : Ty} {B : Nat} {w w' : World} {vs : List Value} (h : PartAt w B q t vs) (hE : ∀ p : Addr, p.block < B → w'.cell? p = w.cell? p) : PartAt w' B q t vs := by
  obtain ⟨Al, cl, Ac, cc, vt, e, h1, h2, h3⟩ := h
  exact ⟨Al, cl, Ac, cc, vt, e, Reads.keep h1 hE, Reads.keep h2 hE, h3.keep hE⟩
theorem PartAt.more {q : PtH} {t : Ty} {B B' : Nat} (hB : B ≤ B') {w : World} {vs : List Value} (h : PartAt w B q t vs) : PartAt w B' q t vs := by
  obtain ⟨Al, cl, Ac, cc, vt, e, h1, h2, h3⟩ := h
  exact ⟨Al, cl, Ac, cc, vt, e, Reads.more h1 hB, Reads.more h2 hB, h3.more hB⟩
theorem PartsAt.keep {A : Option Addr} {n : Nat} {p : Nat → PtH} {t : Nat → Ty} {B : Nat} {w w' : World} (h : PartsAt w B A n p t) (hE : ∀ p : Addr, p.block < B → w'.cell? p = w.cell? p) : PartsAt w' B A n p t := by
  intro hn
  obtain ⟨b, o, e, hb, hc⟩ := h hn
  refine ⟨b, o, e, hb, fun i hi => ?_⟩
  obtain ⟨vs, h1, h2⟩ := hc i hi
  exact ⟨vs, fun j v hv => (hE ⟨b, o + i * 18 + j, none⟩ hb).trans (h1 j v hv), h2.keep hE⟩
theorem Grw.cells {gc B : Nat} {w w' : World} (h : Grw gc w w') (hB : B ≤ w.heap.size) (hc : B ≤ gc) : ∀ p : Addr, p.block < B → w'.cell? p = w.cell? p := fun p hp => by
  have := h.block p.block (Nat.lt_of_lt_of_le hp hB) (by intro e; cases e; omega)
  unfold World.cell?
  rw [this]

def ChkPost (r : Wr) (gc : Nat) (w : World) (e : Ending) (w' : World) : Prop := e = .returned (fltV r.1) ∧ Grw gc w w' ∧ Blk w' gc 44 #[.int .i64 r.2]
/-- The check of a type, at one depth, as its caller needs it. -/
def ChkC (t : Ty) (d : Int) (B : Nat) : Prop := ∀ (gc : Nat) (m : Int) (w : World) (vs : List Value), TyAt w B t vs → B ≤ gc → Blk w gc 44 #[.int .i64 m] →
  Calls Try.prog 17 #[.pointer (some ⟨gc, 0, none⟩), .agg vs.toArray, .int .i64 d] w (ChkPost (chk t d m) gc w)
def partR (u : Bool) (q : PtH) (t : Ty) (sub : Int → Wr) (m : Int) : Wr :=
  if q.bare = true then (if u = true ∧ bareB q t = true then ((0, 0), m) else ((19, q.name.2), m)) else if (partF q).1 ≠ 0 then (partF q, m) else sub m
theorem infoTy' {vs : List Value} (h : vs.length = 9) : (Try.prog.info? 27).map (·.size) = some vs.length := by
  rw [h]; kernel_rfl

end Go.Proofs.Ytanpljalbijfkaa
/- kinds: the checker's part, walked, by check's contract. (Printed by wip/gen_kiny.py.) -/
namespace Go.Proofs.Ytanpljalbijfkaa
open Go.RowKit

set_option maxRecDepth 100000 in
set_option maxHeartbeats 8000000 in
theorem part_bare (u : Bool) (q : PtH) (t : Ty) (d m : Int) (gc B : Nat) (w : World) (vs : List Value) (hbare : q.bare = true) (h : PartAt w B q t vs) (hs : WdsSz q.label) (hs2 : WdsSz q.cl) (hst : TySz t) (hBg : B ≤ gc) (hC : Blk w gc 44 #[.int .i64 m]) (hsub : ChkC t (IntKind.i64.wrap (d + 1)) B) :
    Calls Try.prog 44 #[.pointer (some ⟨gc, 0, none⟩), .agg vs.toArray, .bool u, .int .i64 d] w (ChkPost (partR u q t (fun m => chk t (IntKind.i64.wrap (d + 1)) m) m) gc w) := by
  have e1 := IntWalk.i64_left (d + 1)
  rw [e1] at hsub ⊢
  clear e1
  obtain ⟨Al, cl, Ac, cc, vt, hvs, hl, hc, ht⟩ := id h
  have hBw : B ≤ w.heap.size := Nat.le_of_lt (Nat.lt_of_le_of_lt hBg hC.lt)
  have hpw : PartAt w w.heap.size q t vs := h.more hBw
  have hlab := fun w1 (hE : Ext w w1) => label_any Al cl q.label.length q.label w1 ((show WdsAt w w.heap.size Al q.label from Reads.more hl hBw).ext hE) rfl hs
  have hco := fun w1 (hE : Ext w w1) => coarse_any q t w1 vs (hpw.ext hE) hs2
  have hsame := fun w1 (hE : Ext w w1) => samePart_all q (zPt q.name true) t zTy w1 vs (ptV (zPt q.name true) none 0 none 0 ++ zCells) (hpw.ext hE) (zPt_at _ _ _ _) hs hs2 hst nil_sz nil_sz zTy_sz
  have hchk := fun w1 (hE : Ext w w1) (hC1 : Blk w1 gc 44 #[.int .i64 m]) => hsub gc m w1 vt (ht.keep fun p hp => hE.cell (Nat.lt_of_lt_of_le hp hBw)) hBg hC1
  have hvl : vs.length = 18 := hpw.len
  have hvo : vs.toArray.all (·.oneCell') = true := hpw.one
  have htl : vt.length = 9 := by obtain ⟨y0, y1, y2, y3, y4, y5, y6, y7, y8, e⟩ := ht.nine; rw [e]; rfl
  obtain ⟨x0, x1, x2, x3, x4, x5, x6, x7, x8, hvt⟩ := ht.nine
  have hx : partR u q t (fun m => chk t (wrap64 (d + 1)) m) m = if q.bare = true then (if u = true ∧ bareB q t = true then ((0, 0), m) else ((19, q.name.2), m)) else if (partF q).1 ≠ 0 then (partF q, m) else chk t (wrap64 (d + 1)) m := rfl
  have hpf : partF q = if q.wide < 0 ∨ 64 < q.wide then (20, q.name.2) else if (labelF q.label).1 = 0 then coarseF q else labelF q.label := rfl
  unfold bareB at hx
  clear hl hc ht h hs hs2 hst hsub
  generalize (ptEq q (zPt q.name true) && sameT t zTy) = SB at hsame hx
  generalize partF q = PF at hx hpf
  generalize labelF q.label = LF at hlab hpf
  generalize coarseF q = CF at hco hpf
  generalize hCK : chk t (wrap64 (d + 1)) m = CK at hx hchk
  clear hCK
  generalize hRR : partR u q t (fun m => chk t (wrap64 (d + 1)) m) m = R at hx ⊢
  clear hRR
  obtain ⟨nm, hnm⟩ : ∃ x, x = q.name.1 := ⟨_, rfl⟩
  obtain ⟨a, ha⟩ : ∃ x, x = q.name.2 := ⟨_, rfl⟩
  obtain ⟨br, hbr⟩ : ∃ x, x = q.bare := ⟨_, rfl⟩
  obtain ⟨nl, hnl⟩ : ∃ x, x = q.label.length := ⟨_, rfl⟩
  obtain ⟨wi, hwi⟩ : ∃ x, x = q.wide := ⟨_, rfl⟩
  obtain ⟨ck, hck⟩ : ∃ x, x = q.ck := ⟨_, rfl⟩
  obtain ⟨cn, hcn⟩ : ∃ x, x = q.cn := ⟨_, rfl⟩
  obtain ⟨ca, hca⟩ : ∃ x, x = q.cat := ⟨_, rfl⟩
  obtain ⟨nc, hnc⟩ : ∃ x, x = q.cl.length := ⟨_, rfl⟩
  have hve : vs.toArray = #[.string nm, .int .i64 a, .bool br, .slice Al nl cl, .int .i64 wi, .int .i64 ck, .int .i64 cn, .int .i64 ca, .slice Ac nc cc, x0, x1, x2, x3, x4, x5, x6, x7, x8] := by rw [hvs, hvt, hnm, ha, hbr, hnl, hwi, hck, hcn, hca, hnc]; rfl
  have hze : (ptV (zPt q.name true) none 0 none 0 ++ zCells).toArray = #[.string nm, .int .i64 a, .bool true, .slice none 0 0, .int .i64 0, .int .i64 0, .int .i64 0, .int .i64 0, .slice none 0 0, .int .i64 0, .int .i64 0, .int .i64 0, .int .i64 0, .int .i64 0, .slice none 0 0, .slice none 0 0, .string ⟨#[]⟩, .int .i64 0] := by rw [hnm, ha]; rfl
  rw [hze] at hsame
  rw [← ha, ← hbr] at hx
  rw [← hwi, ← ha] at hpf
  rw [← hnl] at hlab
  have hbb := hbr.trans hbare
  clear hbare
  clear hze hnm ha hbr hnl hwi hck hcn hca hnc hpw
  obtain ⟨L1, L2⟩ := LF
  obtain ⟨C1, C2⟩ := CF
  obtain ⟨w0, hw0⟩ : ∃ x, x = (w.alloc (.cells #[.string nm, .int .i64 a, .bool br, .slice Al nl cl, .int .i64 wi, .int .i64 ck, .int .i64 cn, .int .i64 ca, .slice Ac nc cc, x0, x1, x2, x3, x4, x5, x6, x7, x8] 52)).alloc (.cells #[.int .i64 0, .int .i64 0] 32) := ⟨_, rfl⟩
  have hP0 : Blk w0 w.heap.size 52 #[.string nm, .int .i64 a, .bool br, .slice Al nl cl, .int .i64 wi, .int .i64 ck, .int .i64 cn, .int .i64 ca, .slice Ac nc cc, x0, x1, x2, x3, x4, x5, x6, x7, x8] := by rw [hw0]; exact (Blk.new _ _ _).alloc _
  have hF0 : Blk w0 (w.heap.size + 1) 32 #[.int .i64 0, .int .i64 0] := by
    rw [hw0]; have := Blk.new (w.alloc (.cells #[.string nm, .int .i64 a, .bool br, .slice Al nl cl, .int .i64 wi, .int .i64 ck, .int .i64 cn, .int .i64 ca, .slice Ac nc cc, x0, x1, x2, x3, x4, x5, x6, x7, x8] 52)) 32 #[.int .i64 0, .int .i64 0]; simpa only [World.size_alloc] using this
  have hE0 : Ext w w0 := by rw [hw0]; exact ((Ext.rfl' w).alloc (Nat.le_refl _) _).alloc (by simp only [World.size_alloc]; omega) _
  have hs0 : w0.heap.size = w.heap.size + 2 := by rw [hw0]; simp only [World.size_alloc]
  obtain ⟨w1, hw1⟩ : ∃ x, x = w0.alloc (.cells #[.string nm, .int .i64 a, .bool true, .slice none 0 0, .int .i64 0, .int .i64 0, .int .i64 0, .int .i64 0, .slice none 0 0, .int .i64 0, .int .i64 0, .int .i64 0, .int .i64 0, .int .i64 0, .slice none 0 0, .slice none 0 0, .string ⟨#[]⟩, .int .i64 0] 52) := ⟨_, rfl⟩
  have hP : Blk w1 w.heap.size 52 #[.string nm, .int .i64 a, .bool br, .slice Al nl cl, .int .i64 wi, .int .i64 ck, .int .i64 cn, .int .i64 ca, .slice Ac nc cc, x0, x1, x2, x3, x4, x5, x6, x7, x8] := by rw [hw1]; exact hP0.alloc _
  have hF : Blk w1 (w.heap.size + 1) 32 #[.int .i64 0, .int .i64 0] := by rw [hw1]; exact hF0.alloc _
  have hZ : Blk w1 w0.heap.size 52 #[.string nm, .int .i64 a, .bool true, .slice none 0 0, .int .i64 0, .int .i64 0, .int .i64 0, .int .i64 0, .slice none 0 0, .int .i64 0, .int .i64 0, .int .i64 0, .int .i64 0, .int .i64 0, .slice none 0 0, .slice none 0 0, .string ⟨#[]⟩, .int .i64 0] := by rw [hw1]; exact Blk.new _ _ _
  have hE : Ext w w1 := by rw [hw1]; exact hE0.alloc hE0.size _
  have hC1 : Blk w1 gc 44 #[.int .i64 m] := hC.ext hE
  have hgl := hC.lt
  have n1 : w.heap.size + 1 ≠ gc := by omega
  have hlo : w.heap.size ≤ w.heap.size + 1 := Nat.le_succ _
  have hrg : w1.rangeAt w.heap.size 0 vs := blk_range (by rw [hve]; exact hP)
  have hzl : ∃ zs : List Value, zs.toArray = #[.string nm, .int .i64 a, .bool true, .slice none 0 0, .int .i64 0, .int .i64 0, .int .i64 0, .int .i64 0, .slice none 0 0, .int .i64 0, .int .i64 0, .int .i64 0, .int .i64 0, .int .i64 0, .slice none 0 0, .slice none 0 0, .string ⟨#[]⟩, .int .i64 0] ∧ zs.length = 18 := ⟨[.string nm, .int .i64 a, .bool true, .slice none 0 0, .int .i64 0, .int .i64 0, .int .i64 0, .int .i64 0, .slice none 0 0, .int .i64 0, .int .i64 0, .int .i64 0, .int .i64 0, .int .i64 0, .slice none 0 0, .slice none 0 0, .string ⟨#[]⟩, .int .i64 0], rfl, rfl⟩
  obtain ⟨zs, hzs, hzl⟩ := hzl
  have hrz : w1.rangeAt w0.heap.size 0 zs := blk_range (by rw [hzs]; exact hZ)
  have hrt : w1.rangeAt w.heap.size 9 vt := fun j v hv => by
    have := hrg (9 + j) v (by rw [hvs, List.getElem?_append_right (by show 9 ≤ 9 + j; omega)]; rw [show 9 + j - (ptV q Al cl Ac cc).length = j by show 9 + j - 9 = j; omega]; exact hv)
    rwa [Nat.zero_add] at this
  rw [← hzs] at hsame
  clear hvt
  obtain ⟨gz, hgz⟩ : ∃ g, g = w0.heap.size := ⟨_, rfl⟩
  obtain ⟨gf, hgf⟩ : ∃ g, g = w.heap.size + 1 := ⟨_, rfl⟩
  obtain ⟨gp, hgp⟩ : ∃ g, g = w.heap.size := ⟨_, rfl⟩
  rw [← hgf] at hF hF0 n1 hlo
  rw [← hgz] at hZ hrz
  rw [← hgp] at hP hP0 hrg hrt
  have z0 := hP0.cell 0
  have z1 := hP0.cell 1
  have p0 := hP.cell 0
  have p1 := hP.cell 1
  have p2 := hP.cell 2
  have p3 := hP.cell 3
  have p4 := hP.cell 4
  have b0 := hF.cell 0
  have b1 := hF.cell 1
  have f0 := hF.free 0
  have f1 := hF.free 1
  simp only [List.getElem?_toArray, List.getElem?_cons_zero, List.getElem?_cons_succ] at z0 z1 p0 p1 p2 p3 p4 b0 b1
  have HVE := hide hve
  have HX := hide hx
  have HPF := hide hpf
  have HLAB := hide hlab
  have HCO := hide hco
  have HSAME := hide hsame
  have HCHK := hide hchk
  have HVL := hide hvl
  have HTL := hide htl
  have HZL := hide hzl
  have HZS := hide hzs
  have HRG := hide hrg
  have HRZ := hide hrz
  have HRT := hide hrt
  have HP := hide hP
  have HF := hide hF
  have HE := hide hE
  have HC := hide hC1
  have HN := hide n1
  have HLO := hide hlo
  have HW0 := hide hw0
  have HW1 := hide hw1
  have HGZ := hide hgz
  have HGF := hide hgf
  have HGP := hide hgp
  rw [hve]
  clear hve hx hpf hlab hco hsame hchk hvl htl hzl hzs hrg hrz hrt hP hF hE hC1 n1 hlo hw0 hw1 hgz hgf hgp hP0 hF0 hE0 hs0 hZ hgl hC hBw hBg hvs hvo
  subst hbb
  · cases u with
    | false =>
      have HR := hide (show R = ((19, a), m) by rw [HX.out, if_pos rfl, if_neg (fun hh => by cases hh.1)])
      go_enter Try.func44, Try.ntmps44
      go_upto_region 1 with fail
      rw [← HW0.out, ← HGF.out, ← HGP.out]
      refine wp_region_lit ?_
      refine wpList_plain rfl ?_
      intro K1 hK1
      go_simp
      refine hK1 _ _ ?_
      refine wpList_plain rfl ?_
      intro K2 hK2
      go_simp
      refine hK2 _ _ ?_
      refine wpList_plain rfl ?_
      intro K3 hK3
      go_simp
      refine hK3 _ _ ?_
      refine wpList_plain rfl ?_
      intro K4 hK4
      go_simp
      refine hK4 _ _ ?_
      refine wpList_store_new rfl 52 _ _ rfl _ #[.string nm, .int .i64 a, .bool true, .slice none 0 0, .int .i64 0, .int .i64 0, .int .i64 0, .int .i64 0, .slice none 0 0, .int .i64 0, .int .i64 0, .int .i64 0, .int .i64 0, .int .i64 0, .slice none 0 0, .slice none 0 0, .string ⟨#[]⟩, .int .i64 0] rfl rfl (by kernel_rfl) (by kernel_rfl) (by kernel_rfl) ?_
      rw [← HW1.out, ← HGZ.out]
      clear z0 z1
      go_wp2_with fail
      refine (bad_any 19 a _).mono ?_
      rintro e w5 ⟨rfl, hE5⟩
      have HF5 := hide (HF.out.ext hE5)
      have HE5 := hide (HE.out.trans' hE5)
      have HC5 := hide (HC.out.ext hE5)
      have b0 := HF5.out.cell 0
      have b1 := HF5.out.cell 1
      have f0 := HF5.out.free 0
      have f1 := HF5.out.free 1
      simp only [List.getElem?_toArray, List.getElem?_cons_zero, List.getElem?_cons_succ] at b0 b1
      unfold fltV
      clear hE5
      go_wp2_with fail
      exact fault_ret (f := (19, a)) (g := gf) ((HF5.out.set_ 0 _).set_ 1 _) rfl rfl rfl ⟨by rw [HR.out], ((Grw.of_ext HE5.out).set (.inl HLO.out) _).set (.inl HLO.out) _, by rw [HR.out]; exact (HC5.out.far HN.out.symm _).far HN.out.symm _⟩
    | true =>
      cases SB with
      | false =>
        have HR := hide (show R = ((19, a), m) by rw [HX.out, if_pos rfl, if_neg (fun hh => by cases hh.2)])
        go_enter Try.func44, Try.ntmps44
        go_upto_region 1 with fail
        rw [← HW0.out, ← HGF.out, ← HGP.out]
        refine wp_region_lit ?_
        refine wpList_plain rfl ?_
        intro K1 hK1
        go_simp
        refine hK1 _ _ ?_
        refine wpList_plain rfl ?_
        intro K2 hK2
        go_simp
        refine hK2 _ _ ?_
        refine wpList_plain rfl ?_
        intro K3 hK3
        go_simp
        refine hK3 _ _ ?_
        refine wpList_plain rfl ?_
        intro K4 hK4
        go_simp
        refine hK4 _ _ ?_
        refine wpList_store_new rfl 52 _ _ rfl _ #[.string nm, .int .i64 a, .bool true, .slice none 0 0, .int .i64 0, .int .i64 0, .int .i64 0, .int .i64 0, .slice none 0 0, .int .i64 0, .int .i64 0, .int .i64 0, .int .i64 0, .int .i64 0, .slice none 0 0, .slice none 0 0, .string ⟨#[]⟩, .int .i64 0] rfl rfl (by kernel_rfl) (by kernel_rfl) (by kernel_rfl) ?_
        rw [← HW1.out, ← HGZ.out]
        clear z0 z1
        go_upto_region 2 with fail
        refine wp_region_lit ?_
        refine wpList_plain rfl ?_
        intro K5 hK5
        go_simp
        refine hK5 _ _ ?_
        refine wpList_plain rfl ?_
        intro K6 hK6
        go_simp
        refine hK6 _ _ ?_
        refine wpList_plain rfl ?_
        intro K7 hK7
        go_simp
        refine hK7 _ _ ?_
        refine wpList_unguard' (by rfl) ?_
        refine wpList_plain rfl ?_
        intro K8 hK8
        go_simp
        refine hK8 _ _ ?_
        refine wpList_unguard' (by rfl) ?_
        refine wpList_plain rfl ?_
        intro K9 hK9
        go_simp
        refine hK9 _ _ ?_
        refine wpList_unguard' (by rfl) ?_
        refine wpList_plain rfl ?_
        intro K10 hK10
        go_simp
        refine hK10 _ _ ?_
        refine wpList_unguard' (by rfl) ?_
        refine wpList_load_mid rfl 52 _ rfl gp 0 rfl vs _ HRG.out Try.underlying52 rfl (infoPart' HVL.out) ?_
        refine wpList_unguard' (by rfl) ?_
        refine wpList_load_mid rfl 52 _ rfl gz 0 rfl zs _ HRZ.out Try.underlying52 rfl (infoPart' HZL.out) ?_
        go_wp2_with fail
        refine (HSAME.out _ HE.out).mono ?_
        rintro e w3 ⟨rfl, hE3⟩
        have HF3 := hide (HF.out.ext hE3)
        have HE3 := hide (HE.out.trans' hE3)
        have HC3 := hide (HC.out.ext hE3)
        have hP3 := HP.out.ext hE3
        have p0 := hP3.cell 0
        have p1 := hP3.cell 1
        have p2 := hP3.cell 2
        have b0 := HF3.out.cell 0
        have b1 := HF3.out.cell 1
        have f0 := HF3.out.free 0
        have f1 := HF3.out.free 1
        simp only [List.getElem?_toArray, List.getElem?_cons_zero, List.getElem?_cons_succ] at b0 b1
        simp only [List.getElem?_toArray, List.getElem?_cons_zero, List.getElem?_cons_succ] at p0 p1 p2
        clear hE3 hP3
        go_wp2_with fail
        refine (bad_any 19 a _).mono ?_
        rintro e w5 ⟨rfl, hE5⟩
        have HF5 := hide (HF3.out.ext hE5)
        have HE5 := hide (HE3.out.trans' hE5)
        have HC5 := hide (HC3.out.ext hE5)
        have b0 := HF5.out.cell 0
        have b1 := HF5.out.cell 1
        have f0 := HF5.out.free 0
        have f1 := HF5.out.free 1
        simp only [List.getElem?_toArray, List.getElem?_cons_zero, List.getElem?_cons_succ] at b0 b1
        unfold fltV
        clear hE5
        go_wp2_with fail
        exact fault_ret (f := (19, a)) (g := gf) ((HF5.out.set_ 0 _).set_ 1 _) rfl rfl rfl ⟨by rw [HR.out], ((Grw.of_ext HE5.out).set (.inl HLO.out) _).set (.inl HLO.out) _, by rw [HR.out]; exact (HC5.out.far HN.out.symm _).far HN.out.symm _⟩
      | true =>
        have HR := hide (show R = ((0, 0), m) by rw [HX.out, if_pos rfl, if_pos ⟨rfl, rfl⟩])
        go_enter Try.func44, Try.ntmps44
        go_upto_region 1 with fail
        rw [← HW0.out, ← HGF.out, ← HGP.out]
        refine wp_region_lit ?_
        refine wpList_plain rfl ?_
        intro K1 hK1
        go_simp
        refine hK1 _ _ ?_
        refine wpList_plain rfl ?_
        intro K2 hK2
        go_simp
        refine hK2 _ _ ?_
        refine wpList_plain rfl ?_
        intro K3 hK3
        go_simp
        refine hK3 _ _ ?_
        refine wpList_plain rfl ?_
        intro K4 hK4
        go_simp
        refine hK4 _ _ ?_
        refine wpList_store_new rfl 52 _ _ rfl _ #[.string nm, .int .i64 a, .bool true, .slice none 0 0, .int .i64 0, .int .i64 0, .int .i64 0, .int .i64 0, .slice none 0 0, .int .i64 0, .int .i64 0, .int .i64 0, .int .i64 0, .int .i64 0, .slice none 0 0, .slice none 0 0, .string ⟨#[]⟩, .int .i64 0] rfl rfl (by kernel_rfl) (by kernel_rfl) (by kernel_rfl) ?_
        rw [← HW1.out, ← HGZ.out]
        clear z0 z1
        go_upto_region 2 with fail
        refine wp_region_lit ?_
        refine wpList_plain rfl ?_
        intro K5 hK5
        go_simp
        refine hK5 _ _ ?_
        refine wpList_plain rfl ?_
        intro K6 hK6
        go_simp
        refine hK6 _ _ ?_
        refine wpList_plain rfl ?_
        intro K7 hK7
        go_simp
        refine hK7 _ _ ?_
        refine wpList_unguard' (by rfl) ?_
        refine wpList_plain rfl ?_
        intro K8 hK8
        go_simp
        refine hK8 _ _ ?_
        refine wpList_unguard' (by rfl) ?_
        refine wpList_plain rfl ?_
        intro K9 hK9
        go_simp
        refine hK9 _ _ ?_
        refine wpList_unguard' (by rfl) ?_
        refine wpList_plain rfl ?_
        intro K10 hK10
        go_simp
        refine hK10 _ _ ?_
        refine wpList_unguard' (by rfl) ?_
        refine wpList_load_mid rfl 52 _ rfl gp 0 rfl vs _ HRG.out Try.underlying52 rfl (infoPart' HVL.out) ?_
        refine wpList_unguard' (by rfl) ?_
        refine wpList_load_mid rfl 52 _ rfl gz 0 rfl zs _ HRZ.out Try.underlying52 rfl (infoPart' HZL.out) ?_
        go_wp2_with fail
        refine (HSAME.out _ HE.out).mono ?_
        rintro e w3 ⟨rfl, hE3⟩
        have HF3 := hide (HF.out.ext hE3)
        have HE3 := hide (HE.out.trans' hE3)
        have HC3 := hide (HC.out.ext hE3)
        have hP3 := HP.out.ext hE3
        have p0 := hP3.cell 0
        have p1 := hP3.cell 1
        have p2 := hP3.cell 2
        have b0 := HF3.out.cell 0
        have b1 := HF3.out.cell 1
        have f0 := HF3.out.free 0
        have f1 := HF3.out.free 1
        simp only [List.getElem?_toArray, List.getElem?_cons_zero, List.getElem?_cons_succ] at b0 b1
        simp only [List.getElem?_toArray, List.getElem?_cons_zero, List.getElem?_cons_succ] at p0 p1 p2
        clear hE3 hP3
        go_wp2_with fail
        exact fault_ret (f := (0, 0)) (g := gf) ((HF3.out.set_ 0 _).set_ 1 _) rfl rfl rfl ⟨by rw [HR.out], ((Grw.of_ext HE3.out).set (.inl HLO.out) _).set (.inl HLO.out) _, by rw [HR.out]; exact (HC3.out.far HN.out.symm _).far HN.out.symm _⟩

set_option maxRecDepth 100000 in
set_option maxHeartbeats 8000000 in
theorem part_full (u : Bool) (q : PtH) (t : Ty) (d m : Int) (gc B : Nat) (w : World) (vs : List Value) (hbare : q.bare = false) (h : PartAt w B q t vs) (hs : WdsSz q.label) (hs2 : WdsSz q.cl) (hst : TySz t) (hBg : B ≤ gc) (hC : Blk w gc 44 #[.int .i64 m]) (hsub : ChkC t (IntKind.i64.wrap (d + 1)) B) :
    Calls Try.prog 44 #[.pointer (some ⟨gc, 0, none⟩), .agg vs.toArray, .bool u, .int .i64 d] w (ChkPost (partR u q t (fun m => chk t (IntKind.i64.wrap (d + 1)) m) m) gc w) := by
  have e1 := IntWalk.i64_left (d + 1)
  rw [e1] at hsub ⊢
  clear e1
  obtain ⟨Al, cl, Ac, cc, vt, hvs, hl, hc, ht⟩ := id h
  have hBw : B ≤ w.heap.size := Nat.le_of_lt (Nat.lt_of_le_of_lt hBg hC.lt)
  have hpw : PartAt w w.heap.size q t vs := h.more hBw
  have hlab := fun w1 (hE : Ext w w1) => label_any Al cl q.label.length q.label w1 ((show WdsAt w w.heap.size Al q.label from Reads.more hl hBw).ext hE) rfl hs
  have hco := fun w1 (hE : Ext w w1) => coarse_any q t w1 vs (hpw.ext hE) hs2
  have hsame := fun w1 (hE : Ext w w1) => samePart_all q (zPt q.name true) t zTy w1 vs (ptV (zPt q.name true) none 0 none 0 ++ zCells) (hpw.ext hE) (zPt_at _ _ _ _) hs hs2 hst nil_sz nil_sz zTy_sz
  have hchk := fun w1 (hE : Ext w w1) (hC1 : Blk w1 gc 44 #[.int .i64 m]) => hsub gc m w1 vt (ht.keep fun p hp => hE.cell (Nat.lt_of_lt_of_le hp hBw)) hBg hC1
  have hvl : vs.length = 18 := hpw.len
  have hvo : vs.toArray.all (·.oneCell') = true := hpw.one
  have htl : vt.length = 9 := by obtain ⟨y0, y1, y2, y3, y4, y5, y6, y7, y8, e⟩ := ht.nine; rw [e]; rfl
  obtain ⟨x0, x1, x2, x3, x4, x5, x6, x7, x8, hvt⟩ := ht.nine
  have hx : partR u q t (fun m => chk t (wrap64 (d + 1)) m) m = if q.bare = true then (if u = true ∧ bareB q t = true then ((0, 0), m) else ((19, q.name.2), m)) else if (partF q).1 ≠ 0 then (partF q, m) else chk t (wrap64 (d + 1)) m := rfl
  have hpf : partF q = if q.wide < 0 ∨ 64 < q.wide then (20, q.name.2) else if (labelF q.label).1 = 0 then coarseF q else labelF q.label := rfl
  unfold bareB at hx
  clear hl hc ht h hs hs2 hst hsub
  generalize (ptEq q (zPt q.name true) && sameT t zTy) = SB at hsame hx
  generalize partF q = PF at hx hpf
  generalize labelF q.label = LF at hlab hpf
  generalize coarseF q = CF at hco hpf
  generalize hCK : chk t (wrap64 (d + 1)) m = CK at hx hchk
  clear hCK
  generalize hRR : partR u q t (fun m => chk t (wrap64 (d + 1)) m) m = R at hx ⊢
  clear hRR
  obtain ⟨nm, hnm⟩ : ∃ x, x = q.name.1 := ⟨_, rfl⟩
  obtain ⟨a, ha⟩ : ∃ x, x = q.name.2 := ⟨_, rfl⟩
  obtain ⟨br, hbr⟩ : ∃ x, x = q.bare := ⟨_, rfl⟩
  obtain ⟨nl, hnl⟩ : ∃ x, x = q.label.length := ⟨_, rfl⟩
  obtain ⟨wi, hwi⟩ : ∃ x, x = q.wide := ⟨_, rfl⟩
  obtain ⟨ck, hck⟩ : ∃ x, x = q.ck := ⟨_, rfl⟩
  obtain ⟨cn, hcn⟩ : ∃ x, x = q.cn := ⟨_, rfl⟩
  obtain ⟨ca, hca⟩ : ∃ x, x = q.cat := ⟨_, rfl⟩
  obtain ⟨nc, hnc⟩ : ∃ x, x = q.cl.length := ⟨_, rfl⟩
  have hve : vs.toArray = #[.string nm, .int .i64 a, .bool br, .slice Al nl cl, .int .i64 wi, .int .i64 ck, .int .i64 cn, .int .i64 ca, .slice Ac nc cc, x0, x1, x2, x3, x4, x5, x6, x7, x8] := by rw [hvs, hvt, hnm, ha, hbr, hnl, hwi, hck, hcn, hca, hnc]; rfl
  have hze : (ptV (zPt q.name true) none 0 none 0 ++ zCells).toArray = #[.string nm, .int .i64 a, .bool true, .slice none 0 0, .int .i64 0, .int .i64 0, .int .i64 0, .int .i64 0, .slice none 0 0, .int .i64 0, .int .i64 0, .int .i64 0, .int .i64 0, .int .i64 0, .slice none 0 0, .slice none 0 0, .string ⟨#[]⟩, .int .i64 0] := by rw [hnm, ha]; rfl
  rw [hze] at hsame
  rw [← ha, ← hbr] at hx
  rw [← hwi, ← ha] at hpf
  rw [← hnl] at hlab
  have hbb := hbr.trans hbare
  clear hbare
  clear hze hnm ha hbr hnl hwi hck hcn hca hnc hpw
  obtain ⟨L1, L2⟩ := LF
  obtain ⟨C1, C2⟩ := CF
  obtain ⟨w0, hw0⟩ : ∃ x, x = (w.alloc (.cells #[.string nm, .int .i64 a, .bool br, .slice Al nl cl, .int .i64 wi, .int .i64 ck, .int .i64 cn, .int .i64 ca, .slice Ac nc cc, x0, x1, x2, x3, x4, x5, x6, x7, x8] 52)).alloc (.cells #[.int .i64 0, .int .i64 0] 32) := ⟨_, rfl⟩
  have hP0 : Blk w0 w.heap.size 52 #[.string nm, .int .i64 a, .bool br, .slice Al nl cl, .int .i64 wi, .int .i64 ck, .int .i64 cn, .int .i64 ca, .slice Ac nc cc, x0, x1, x2, x3, x4, x5, x6, x7, x8] := by rw [hw0]; exact (Blk.new _ _ _).alloc _
  have hF0 : Blk w0 (w.heap.size + 1) 32 #[.int .i64 0, .int .i64 0] := by
    rw [hw0]; have := Blk.new (w.alloc (.cells #[.string nm, .int .i64 a, .bool br, .slice Al nl cl, .int .i64 wi, .int .i64 ck, .int .i64 cn, .int .i64 ca, .slice Ac nc cc, x0, x1, x2, x3, x4, x5, x6, x7, x8] 52)) 32 #[.int .i64 0, .int .i64 0]; simpa only [World.size_alloc] using this
  have hE0 : Ext w w0 := by rw [hw0]; exact ((Ext.rfl' w).alloc (Nat.le_refl _) _).alloc (by simp only [World.size_alloc]; omega) _
  have hs0 : w0.heap.size = w.heap.size + 2 := by rw [hw0]; simp only [World.size_alloc]
  obtain ⟨w1, hw1⟩ : ∃ x, x = w0.alloc (.cells #[.string nm, .int .i64 a, .bool true, .slice none 0 0, .int .i64 0, .int .i64 0, .int .i64 0, .int .i64 0, .slice none 0 0, .int .i64 0, .int .i64 0, .int .i64 0, .int .i64 0, .int .i64 0, .slice none 0 0, .slice none 0 0, .string ⟨#[]⟩, .int .i64 0] 52) := ⟨_, rfl⟩
  have hP : Blk w1 w.heap.size 52 #[.string nm, .int .i64 a, .bool br, .slice Al nl cl, .int .i64 wi, .int .i64 ck, .int .i64 cn, .int .i64 ca, .slice Ac nc cc, x0, x1, x2, x3, x4, x5, x6, x7, x8] := by rw [hw1]; exact hP0.alloc _
  have hF : Blk w1 (w.heap.size + 1) 32 #[.int .i64 0, .int .i64 0] := by rw [hw1]; exact hF0.alloc _
  have hZ : Blk w1 w0.heap.size 52 #[.string nm, .int .i64 a, .bool true, .slice none 0 0, .int .i64 0, .int .i64 0, .int .i64 0, .int .i64 0, .slice none 0 0, .int .i64 0, .int .i64 0, .int .i64 0, .int .i64 0, .int .i64 0, .slice none 0 0, .slice none 0 0, .string ⟨#[]⟩, .int .i64 0] := by rw [hw1]; exact Blk.new _ _ _
  have hE : Ext w w1 := by rw [hw1]; exact hE0.alloc hE0.size _
  have hC1 : Blk w1 gc 44 #[.int .i64 m] := hC.ext hE
  have hgl := hC.lt
  have n1 : w.heap.size + 1 ≠ gc := by omega
  have hlo : w.heap.size ≤ w.heap.size + 1 := Nat.le_succ _
  have hrg : w1.rangeAt w.heap.size 0 vs := blk_range (by rw [hve]; exact hP)
  have hzl : ∃ zs : List Value, zs.toArray = #[.string nm, .int .i64 a, .bool true, .slice none 0 0, .int .i64 0, .int .i64 0, .int .i64 0, .int .i64 0, .slice none 0 0, .int .i64 0, .int .i64 0, .int .i64 0, .int .i64 0, .int .i64 0, .slice none 0 0, .slice none 0 0, .string ⟨#[]⟩, .int .i64 0] ∧ zs.length = 18 := ⟨[.string nm, .int .i64 a, .bool true, .slice none 0 0, .int .i64 0, .int .i64 0, .int .i64 0, .int .i64 0, .slice none 0 0, .int .i64 0, .int .i64 0, .int .i64 0, .int .i64 0, .int .i64 0, .slice none 0 0, .slice none 0 0, .string ⟨#[]⟩, .int .i64 0], rfl, rfl⟩
  obtain ⟨zs, hzs, hzl⟩ := hzl
  have hrz : w1.rangeAt w0.heap.size 0 zs := blk_range (by rw [hzs]; exact hZ)
  have hrt : w1.rangeAt w.heap.size 9 vt := fun j v hv => by
    have := hrg (9 + j) v (by rw [hvs, List.getElem?_append_right (by show 9 ≤ 9 + j; omega)]; rw [show 9 + j - (ptV q Al cl Ac cc).length = j by show 9 + j - 9 = j; omega]; exact hv)
    rwa [Nat.zero_add] at this
  rw [← hzs] at hsame
  clear hvt
  obtain ⟨gz, hgz⟩ : ∃ g, g = w0.heap.size := ⟨_, rfl⟩
  obtain ⟨gf, hgf⟩ : ∃ g, g = w.heap.size + 1 := ⟨_, rfl⟩
  obtain ⟨gp, hgp⟩ : ∃ g, g = w.heap.size := ⟨_, rfl⟩
  rw [← hgf] at hF hF0 n1 hlo
  rw [← hgz] at hZ hrz
  rw [← hgp] at hP hP0 hrg hrt
  have z0 := hP0.cell 0
  have z1 := hP0.cell 1
  have p0 := hP.cell 0
  have p1 := hP.cell 1
  have p2 := hP.cell 2
  have p3 := hP.cell 3
  have p4 := hP.cell 4
  have b0 := hF.cell 0
  have b1 := hF.cell 1
  have f0 := hF.free 0
  have f1 := hF.free 1
  simp only [List.getElem?_toArray, List.getElem?_cons_zero, List.getElem?_cons_succ] at z0 z1 p0 p1 p2 p3 p4 b0 b1
  have HVE := hide hve
  have HX := hide hx
  have HPF := hide hpf
  have HLAB := hide hlab
  have HCO := hide hco
  have HSAME := hide hsame
  have HCHK := hide hchk
  have HVL := hide hvl
  have HTL := hide htl
  have HZL := hide hzl
  have HZS := hide hzs
  have HRG := hide hrg
  have HRZ := hide hrz
  have HRT := hide hrt
  have HP := hide hP
  have HF := hide hF
  have HE := hide hE
  have HC := hide hC1
  have HN := hide n1
  have HLO := hide hlo
  have HW0 := hide hw0
  have HW1 := hide hw1
  have HGZ := hide hgz
  have HGF := hide hgf
  have HGP := hide hgp
  rw [hve]
  clear hve hx hpf hlab hco hsame hchk hvl htl hzl hzs hrg hrz hrt hP hF hE hC1 n1 hlo hw0 hw1 hgz hgf hgp hP0 hF0 hE0 hs0 hZ hgl hC hBw hBg hvs hvo
  subst hbb
  · skip
    have HX2 := hide (show R = if PF.1 ≠ 0 then (PF, m) else CK by rw [HX.out, if_neg (by decide)])
    by_cases c1 : wi < 0
    · have HP2 := hide (show PF = (20, a) by rw [HPF.out]; exact if_pos (.inl c1))
      have HR := hide (show R = ((20, a), m) by rw [HX2.out, HP2.out]; rfl)
      go_enter Try.func44, Try.ntmps44
      go_upto_region 1 with fail
      rw [← HW0.out, ← HGF.out, ← HGP.out]
      refine wp_region_lit ?_
      refine wpList_plain rfl ?_
      intro K1 hK1
      go_simp
      refine hK1 _ _ ?_
      refine wpList_plain rfl ?_
      intro K2 hK2
      go_simp
      refine hK2 _ _ ?_
      refine wpList_plain rfl ?_
      intro K3 hK3
      go_simp
      refine hK3 _ _ ?_
      refine wpList_plain rfl ?_
      intro K4 hK4
      go_simp
      refine hK4 _ _ ?_
      refine wpList_store_new rfl 52 _ _ rfl _ #[.string nm, .int .i64 a, .bool true, .slice none 0 0, .int .i64 0, .int .i64 0, .int .i64 0, .int .i64 0, .slice none 0 0, .int .i64 0, .int .i64 0, .int .i64 0, .int .i64 0, .int .i64 0, .slice none 0 0, .slice none 0 0, .string ⟨#[]⟩, .int .i64 0] rfl rfl (by kernel_rfl) (by kernel_rfl) (by kernel_rfl) ?_
      rw [← HW1.out, ← HGZ.out]
      clear z0 z1
      go_wp2_with fail
      refine (bad_any 20 a _).mono ?_
      rintro e w5 ⟨rfl, hE5⟩
      have HF5 := hide (HF.out.ext hE5)
      have HE5 := hide (HE.out.trans' hE5)
      have HC5 := hide (HC.out.ext hE5)
      have b0 := HF5.out.cell 0
      have b1 := HF5.out.cell 1
      have f0 := HF5.out.free 0
      have f1 := HF5.out.free 1
      simp only [List.getElem?_toArray, List.getElem?_cons_zero, List.getElem?_cons_succ] at b0 b1
      unfold fltV
      clear hE5
      go_wp2_with fail
      exact fault_ret (f := (20, a)) (g := gf) ((HF5.out.set_ 0 _).set_ 1 _) rfl rfl rfl ⟨by rw [HR.out], ((Grw.of_ext HE5.out).set (.inl HLO.out) _).set (.inl HLO.out) _, by rw [HR.out]; exact (HC5.out.far HN.out.symm _).far HN.out.symm _⟩
    by_cases c2 : 64 < wi
    · have HP2 := hide (show PF = (20, a) by rw [HPF.out]; exact if_pos (.inr c2))
      have HR := hide (show R = ((20, a), m) by rw [HX2.out, HP2.out]; rfl)
      go_enter Try.func44, Try.ntmps44
      go_upto_region 1 with fail
      rw [← HW0.out, ← HGF.out, ← HGP.out]
      refine wp_region_lit ?_
      refine wpList_plain rfl ?_
      intro K1 hK1
      go_simp
      refine hK1 _ _ ?_
      refine wpList_plain rfl ?_
      intro K2 hK2
      go_simp
      refine hK2 _ _ ?_
      refine wpList_plain rfl ?_
      intro K3 hK3
      go_simp
      refine hK3 _ _ ?_
      refine wpList_plain rfl ?_
      intro K4 hK4
      go_simp
      refine hK4 _ _ ?_
      refine wpList_store_new rfl 52 _ _ rfl _ #[.string nm, .int .i64 a, .bool true, .slice none 0 0, .int .i64 0, .int .i64 0, .int .i64 0, .int .i64 0, .slice none 0 0, .int .i64 0, .int .i64 0, .int .i64 0, .int .i64 0, .int .i64 0, .slice none 0 0, .slice none 0 0, .string ⟨#[]⟩, .int .i64 0] rfl rfl (by kernel_rfl) (by kernel_rfl) (by kernel_rfl) ?_
      rw [← HW1.out, ← HGZ.out]
      clear z0 z1
      go_wp2_with fail
      refine (bad_any 20 a _).mono ?_
      rintro e w5 ⟨rfl, hE5⟩
      have HF5 := hide (HF.out.ext hE5)
      have HE5 := hide (HE.out.trans' hE5)
      have HC5 := hide (HC.out.ext hE5)
      have b0 := HF5.out.cell 0
      have b1 := HF5.out.cell 1
      have f0 := HF5.out.free 0
      have f1 := HF5.out.free 1
      simp only [List.getElem?_toArray, List.getElem?_cons_zero, List.getElem?_cons_succ] at b0 b1
      unfold fltV
      clear hE5
      go_wp2_with fail
      exact fault_ret (f := (20, a)) (g := gf) ((HF5.out.set_ 0 _).set_ 1 _) rfl rfl rfl ⟨by rw [HR.out], ((Grw.of_ext HE5.out).set (.inl HLO.out) _).set (.inl HLO.out) _, by rw [HR.out]; exact (HC5.out.far HN.out.symm _).far HN.out.symm _⟩
    have HP2 := hide (show PF = if L1 = 0 then (C1, C2) else (L1, L2) by rw [HPF.out]; exact if_neg (fun hh => hh.elim c1 c2))
    by_cases c3 : L1 = 0
    · have HP3 := hide (show PF = (C1, C2) by rw [HP2.out]; exact if_pos c3)
      subst c3
      go_enter Try.func44, Try.ntmps44
      go_upto_region 1 with fail
      rw [← HW0.out, ← HGF.out, ← HGP.out]
      refine wp_region_lit ?_
      refine wpList_plain rfl ?_
      intro K1 hK1
      go_simp
      refine hK1 _ _ ?_
      refine wpList_plain rfl ?_
      intro K2 hK2
      go_simp
      refine hK2 _ _ ?_
      refine wpList_plain rfl ?_
      intro K3 hK3
      go_simp
      refine hK3 _ _ ?_
      refine wpList_plain rfl ?_
      intro K4 hK4
      go_simp
      refine hK4 _ _ ?_
      refine wpList_store_new rfl 52 _ _ rfl _ #[.string nm, .int .i64 a, .bool true, .slice none 0 0, .int .i64 0, .int .i64 0, .int .i64 0, .int .i64 0, .slice none 0 0, .int .i64 0, .int .i64 0, .int .i64 0, .int .i64 0, .int .i64 0, .slice none 0 0, .slice none 0 0, .string ⟨#[]⟩, .int .i64 0] rfl rfl (by kernel_rfl) (by kernel_rfl) (by kernel_rfl) ?_
      rw [← HW1.out, ← HGZ.out]
      clear z0 z1
      go_wp2_with fail
      refine (HLAB.out _ HE.out).mono ?_
      rintro e w3 ⟨rfl, hE3⟩
      have hE3n := hE3.alloc hE3.size (.cells #[.int .i64 0, .int .i64 L2] 32)
      obtain ⟨w4, hw4⟩ : ∃ x, x = w3.alloc (.cells #[.int .i64 0, .int .i64 L2] 32) := ⟨_, rfl⟩
      rw [← hw4] at hE3n
      have hl4 : Blk w4 w3.heap.size 32 #[.int .i64 0, .int .i64 L2] := by rw [hw4]; exact Blk.new _ _ _
      obtain ⟨g3, hg3⟩ : ∃ g, g = w3.heap.size := ⟨_, rfl⟩
      rw [← hg3] at hl4
      have HF4 := hide (HF.out.ext hE3n)
      have HE4 := hide (HE.out.trans' hE3n)
      have HC4 := hide (HC.out.ext hE3n)
      have HP4 := hide (HP.out.ext hE3n)
      have u0 := hl4.cell 0
      have u1 := hl4.cell 1
      have b0 := HF4.out.cell 0
      have b1 := HF4.out.cell 1
      have f0 := HF4.out.free 0
      have f1 := HF4.out.free 1
      simp only [List.getElem?_toArray, List.getElem?_cons_zero, List.getElem?_cons_succ] at b0 b1
      simp only [List.getElem?_toArray, List.getElem?_cons_zero, List.getElem?_cons_succ] at u0 u1
      have HRT4 := hide (show w4.rangeAt gp 9 vt from fun j v hv => (hE3n.cell (p := ⟨gp, 9 + j, none⟩) HP.out.lt).trans (HRT.out j v hv))
      have HRG4 := hide (show w4.rangeAt gp 0 vs from blk_range (by rw [HVE.out]; exact HP4.out))
      have HW4 := hide hw4
      have HG3 := hide hg3
      clear hE3 hE3n hw4 hg3 hl4 p0 p1 p2 p3 p4
      unfold fltV
      go_upto_region 9 with fail
      rw [← HW4.out, ← HG3.out]
      go_upto_region 11 with fail
      refine wp_region_lit ?_
      refine wpList_load_mid rfl 52 _ rfl gp 0 rfl vs _ HRG4.out Try.underlying52 rfl (infoPart' HVL.out) ?_
      go_wp2_with fail
      refine (HCO.out _ HE4.out).mono ?_
      rintro e w6 ⟨rfl, hE6⟩
      have hE6n := hE6.alloc hE6.size (.cells #[.int .i64 C1, .int .i64 C2] 32)
      obtain ⟨w7, hw7⟩ : ∃ x, x = w6.alloc (.cells #[.int .i64 C1, .int .i64 C2] 32) := ⟨_, rfl⟩
      rw [← hw7] at hE6n
      have hl7 : Blk w7 w6.heap.size 32 #[.int .i64 C1, .int .i64 C2] := by rw [hw7]; exact Blk.new _ _ _
      obtain ⟨g6, hg6⟩ : ∃ g, g = w6.heap.size := ⟨_, rfl⟩
      rw [← hg6] at hl7
      have HF7 := hide (HF4.out.ext hE6n)
      have HE7 := hide (HE4.out.trans' hE6n)
      have HC7 := hide (HC4.out.ext hE6n)
      have HP7 := hide (HP4.out.ext hE6n)
      have u0 := hl7.cell 0
      have u1 := hl7.cell 1
      have b0 := HF7.out.cell 0
      have b1 := HF7.out.cell 1
      have f0 := HF7.out.free 0
      have f1 := HF7.out.free 1
      simp only [List.getElem?_toArray, List.getElem?_cons_zero, List.getElem?_cons_succ] at b0 b1
      simp only [List.getElem?_toArray, List.getElem?_cons_zero, List.getElem?_cons_succ] at u0 u1
      have hrt7 : w7.rangeAt gp 9 vt := fun j v hv => (hE6n.cell (p := ⟨gp, 9 + j, none⟩) HP4.out.lt).trans (HRT4.out j v hv)
      have HRT7 := hide hrt7
      have HW7 := hide hw7
      have HG6 := hide hg6
      clear hE6 hE6n hw7 hg6 hl7 hrt7
      unfold fltV
      go_upto_region 12 with fail
      rw [← HW7.out, ← HG6.out]
      by_cases c4 : C1 = 0
      · have HR := hide (show R = CK by rw [HX2.out, HP3.out]; exact if_neg (fun hh => hh c4))
        subst c4
        go_upto_region 14 with fail
        refine wp_region_lit ?_
        refine wpList_plain rfl ?_
        intro K5 hK5
        go_simp
        refine hK5 _ _ ?_
        refine wpList_plain rfl ?_
        intro K6 hK6
        go_simp
        refine hK6 _ _ ?_
        refine wpList_load_mid rfl 27 _ rfl gp 9 rfl vt _ HRT7.out Try.underlying27 rfl (infoTy' HTL.out) ?_
        go_wp2_with fail
        refine (HCHK.out _ HE7.out HC7.out).mono ?_
        rintro e w8 ⟨rfl, hE8, hC8⟩
        obtain ⟨⟨D1, D2⟩, D3⟩ := CK
        have HF8 := hide (hE8.blk HF7.out HN.out)
        have HE8 := hide ((Grw.of_ext HE7.out).trans hE8)
        have HC8 := hide hC8
        have b0 := HF8.out.cell 0
        have b1 := HF8.out.cell 1
        have f0 := HF8.out.free 0
        have f1 := HF8.out.free 1
        simp only [List.getElem?_toArray, List.getElem?_cons_zero, List.getElem?_cons_succ] at b0 b1
        unfold fltV
        clear hE8 hC8
        go_wp2_with fail
        exact fault_ret (f := (D1, D2)) (g := gf) ((HF8.out.set_ 0 _).set_ 1 _) rfl rfl rfl ⟨by rw [HR.out], (HE8.out.set (.inl HLO.out) _).set (.inl HLO.out) _, by rw [HR.out]; exact (HC8.out.far HN.out.symm _).far HN.out.symm _⟩
      · have HR := hide (show R = ((C1, C2), m) by rw [HX2.out, HP3.out]; exact if_pos c4)
        have j0 : (C1 == 0) = false := by simpa using c4
        go_wp2_with fail
        exact fault_ret (f := (C1, C2)) (g := gf) ((HF7.out.set_ 0 _).set_ 1 _) rfl rfl rfl ⟨by rw [HR.out], ((Grw.of_ext HE7.out).set (.inl HLO.out) _).set (.inl HLO.out) _, by rw [HR.out]; exact (HC7.out.far HN.out.symm _).far HN.out.symm _⟩
    · have HP3 := hide (show PF = (L1, L2) by rw [HP2.out]; exact if_neg c3)
      have HR := hide (show R = ((L1, L2), m) by rw [HX2.out, HP3.out]; exact if_pos c3)
      have j0 : (L1 == 0) = false := by simpa using c3
      go_enter Try.func44, Try.ntmps44
      go_upto_region 1 with fail
      rw [← HW0.out, ← HGF.out, ← HGP.out]
      refine wp_region_lit ?_
      refine wpList_plain rfl ?_
      intro K1 hK1
      go_simp
      refine hK1 _ _ ?_
      refine wpList_plain rfl ?_
      intro K2 hK2
      go_simp
      refine hK2 _ _ ?_
      refine wpList_plain rfl ?_
      intro K3 hK3
      go_simp
      refine hK3 _ _ ?_
      refine wpList_plain rfl ?_
      intro K4 hK4
      go_simp
      refine hK4 _ _ ?_
      refine wpList_store_new rfl 52 _ _ rfl _ #[.string nm, .int .i64 a, .bool true, .slice none 0 0, .int .i64 0, .int .i64 0, .int .i64 0, .int .i64 0, .slice none 0 0, .int .i64 0, .int .i64 0, .int .i64 0, .int .i64 0, .int .i64 0, .slice none 0 0, .slice none 0 0, .string ⟨#[]⟩, .int .i64 0] rfl rfl (by kernel_rfl) (by kernel_rfl) (by kernel_rfl) ?_
      rw [← HW1.out, ← HGZ.out]
      clear z0 z1
      go_wp2_with fail
      refine (HLAB.out _ HE.out).mono ?_
      rintro e w3 ⟨rfl, hE3⟩
      have hE3n := hE3.alloc hE3.size (.cells #[.int .i64 L1, .int .i64 L2] 32)
      obtain ⟨w4, hw4⟩ : ∃ x, x = w3.alloc (.cells #[.int .i64 L1, .int .i64 L2] 32) := ⟨_, rfl⟩
      rw [← hw4] at hE3n
      have hl4 : Blk w4 w3.heap.size 32 #[.int .i64 L1, .int .i64 L2] := by rw [hw4]; exact Blk.new _ _ _
      obtain ⟨g3, hg3⟩ : ∃ g, g = w3.heap.size := ⟨_, rfl⟩
      rw [← hg3] at hl4
      have HF4 := hide (HF.out.ext hE3n)
      have HE4 := hide (HE.out.trans' hE3n)
      have HC4 := hide (HC.out.ext hE3n)
      have HP4 := hide (HP.out.ext hE3n)
      have u0 := hl4.cell 0
      have u1 := hl4.cell 1
      have b0 := HF4.out.cell 0
      have b1 := HF4.out.cell 1
      have f0 := HF4.out.free 0
      have f1 := HF4.out.free 1
      simp only [List.getElem?_toArray, List.getElem?_cons_zero, List.getElem?_cons_succ] at b0 b1
      simp only [List.getElem?_toArray, List.getElem?_cons_zero, List.getElem?_cons_succ] at u0 u1
      have HRT4 := hide (show w4.rangeAt gp 9 vt from fun j v hv => (hE3n.cell (p := ⟨gp, 9 + j, none⟩) HP.out.lt).trans (HRT.out j v hv))
      have HRG4 := hide (show w4.rangeAt gp 0 vs from blk_range (by rw [HVE.out]; exact HP4.out))
      have HW4 := hide hw4
      have HG3 := hide hg3
      clear hE3 hE3n hw4 hg3 hl4 p0 p1 p2 p3 p4
      unfold fltV
      go_upto_region 9 with fail
      rw [← HW4.out, ← HG3.out]
      go_wp2_with fail
      exact fault_ret (f := (L1, L2)) (g := gf) ((HF4.out.set_ 0 _).set_ 1 _) rfl rfl rfl ⟨by rw [HR.out], ((Grw.of_ext HE4.out).set (.inl HLO.out) _).set (.inl HLO.out) _, by rw [HR.out]; exact (HC4.out.far HN.out.symm _).far HN.out.symm _⟩
theorem part_any (u : Bool) (q : PtH) (t : Ty) (d m : Int) (gc B : Nat) (w : World) (vs : List Value) (h : PartAt w B q t vs) (hs : WdsSz q.label) (hs2 : WdsSz q.cl) (hst : TySz t) (hBg : B ≤ gc) (hC : Blk w gc 44 #[.int .i64 m]) (hsub : ChkC t (IntKind.i64.wrap (d + 1)) B) :
    Calls Try.prog 44 #[.pointer (some ⟨gc, 0, none⟩), .agg vs.toArray, .bool u, .int .i64 d] w (ChkPost (partR u q t (fun m => chk t (IntKind.i64.wrap (d + 1)) m) m) gc w) := by
  cases hb : q.bare with
  | true => exact part_bare u q t d m gc B w vs hb h hs hs2 hst hBg hC hsub
  | false => exact part_full u q t d m gc B w vs hb h hs hs2 hst hBg hC hsub
end Go.Proofs.Ytanpljalbijfkaa
