/- kinds: the document's Wrong, walked, by contracts. (Printed by wip/gen_kinze.py.) -/
import Derived.Test.YtanpljalbijfkaaKinYs
namespace Go.Proofs.Ytanpljalbijfkaa
open Go.RowKit

def headR' (kd a lo hi mo s1 d m1 : Int) (OB RB : Bool) (EN : Flt) (SUB : Wr) : Wr :=
  if 24 < d then ((6, a), m1) else if 512 < m1 then ((8, a), m1) else if kd < 1 ∨ 9 < kd then ((14, a), m1) else if OB = false then ((19, a), m1) else
  if kd = 2 then (if hi < lo then ((20, a), m1) else ((0, 0), m1)) else if kd = 3 then (if mo < 0 ∨ 4096 < mo then ((20, a), m1) else ((0, 0), m1)) else
  if kd = 4 then (EN, m1) else if kd = 5 ∨ kd = 6 ∨ kd = 7 ∨ kd = 8 then SUB else if kd = 9 then (if RB = true then ((0, 0), m1) else ((9, s1), m1)) else ((0, 0), m1)
/-- The document's Wrong of a type, at one depth, as its caller needs it. -/
def WrgC (t : Ty) (d : Int) : Prop := ∀ (m : Int) (w : World) (vs : List Value), TyAt w w.heap.size t vs →
  Calls Try.prog 9 #[.agg #[.int .i64 0, .int .i64 0, .int .i64 m], .agg vs.toArray, .int .i64 d] w (fun e w' => e = .returned (wrV (chk t d m)) ∧ Ext w w')

theorem nil_str {nm : ByteArray} (h : ¬ nm = ⟨#[]⟩) : ¬ nm.toList = [] := fun hh => by
  have e := str_eq nm ⟨#[]⟩
  rw [hh, show (⟨#[]⟩ : ByteArray).toList = [] by first | rfl | decide | simp, decide_eq_false h] at e
  cases e

set_option maxRecDepth 100000 in
set_option maxHeartbeats 8000000 in
theorem wrong_abs (kd a lo hi mo s1 d m m1 : Int) (s0 : ByteArray) (nn cn n cp : Nat) (An Ap : Option Addr) (w : World) (OB RB : Bool) (EN : Flt) (SUB : Wr) (l : List Wd) (p : Nat → PtH) (t : Nat → Ty) (hm1 : m1 = IntKind.i64.wrap (m + 1))
    (hl : WdsAt w w.heap.size An l) (hnn : nn = l.length) (hlz : WdsSz l) (hEN : EN = enumF a l)
    (hP : PartsAt w w.heap.size Ap n p t) (hsz : ∀ i, i < n → WdsSz (p i).label ∧ WdsSz (p i).cl)
    (hone : kd = 5 ∨ kd = 6 → SUB = if n = 1 ∧ ptEq (p 0) (zPt wd0 false) = true then (if mo < 0 ∨ 1024 < mo then ((20, a), m1) else chk (t 0) (IntKind.i64.wrap (d + 1)) m1) else ((19, a), m1)) (hsub : 0 < n → WrgC (t 0) (IntKind.i64.wrap (d + 1)))
    (hown : ∀ w1, Ext w w1 → Calls Try.prog 19 #[.agg #[.int .i64 kd, .int .i64 a, .int .i64 lo, .int .i64 hi, .int .i64 mo, .slice An nn cn, .slice Ap n cp, .string s0, .int .i64 s1]] w1 (fun e w' => e = .returned (.bool OB) ∧ Ext w1 w'))
    (hparts : kd = 7 ∨ kd = 8 → ∀ w1, Ext w w1 → Calls Try.prog 23 #[.agg #[.int .i64 0, .int .i64 0, .int .i64 m1], .agg #[.int .i64 kd, .int .i64 a, .int .i64 lo, .int .i64 hi, .int .i64 mo, .slice An nn cn, .slice Ap n cp, .string s0, .int .i64 s1], .int .i64 d] w1 (fun e w' => e = .returned (wrV SUB) ∧ Ext w1 w'))
    (hright : ∀ w1 : World, Calls Try.prog 20 #[.string s0] w1 (fun e w' => e = .returned (.bool RB) ∧ w1 = w')) :
    Calls Try.prog 9 #[.agg #[.int .i64 0, .int .i64 0, .int .i64 m], .agg #[.int .i64 kd, .int .i64 a, .int .i64 lo, .int .i64 hi, .int .i64 mo, .slice An nn cn, .slice Ap n cp, .string s0, .int .i64 s1], .int .i64 d] w (fun e w' => e = .returned (wrV (headR' kd a lo hi mo s1 d m1 OB RB EN SUB)) ∧ Ext w w') := by
  have e1 := IntWalk.i64_left (d + 1)
  rw [e1] at hone hsub
  clear e1
  have hx : headR' kd a lo hi mo s1 d m1 OB RB EN SUB = if 24 < d then ((6, a), m1) else if 512 < m1 then ((8, a), m1) else if kd < 1 ∨ 9 < kd then ((14, a), m1) else if OB = false then ((19, a), m1) else
    if kd = 2 then (if hi < lo then ((20, a), m1) else ((0, 0), m1)) else if kd = 3 then (if mo < 0 ∨ 4096 < mo then ((20, a), m1) else ((0, 0), m1)) else
    if kd = 4 then (EN, m1) else if kd = 5 ∨ kd = 6 ∨ kd = 7 ∨ kd = 8 then SUB else if kd = 9 then (if RB = true then ((0, 0), m1) else ((9, s1), m1)) else ((0, 0), m1) := rfl
  generalize headR' kd a lo hi mo s1 d m1 OB RB EN SUB = R at hx ⊢
  obtain ⟨w0, hw0⟩ : ∃ x, x = ((w.alloc (.cells #[.int .i64 0, .int .i64 0, .int .i64 m] 35)).alloc (.cells #[.int .i64 kd, .int .i64 a, .int .i64 lo, .int .i64 hi, .int .i64 mo, .slice An nn cn, .slice Ap n cp, .string s0, .int .i64 s1] 27)).alloc (.cells #[.int .i64 0, .int .i64 0, .int .i64 0] 35) := ⟨_, rfl⟩
  have hV : Blk w0 w.heap.size 35 #[.int .i64 0, .int .i64 0, .int .i64 m] := by rw [hw0]; exact ((Blk.new _ _ _).alloc _).alloc _
  have hT : Blk w0 (w.heap.size + 1) 27 #[.int .i64 kd, .int .i64 a, .int .i64 lo, .int .i64 hi, .int .i64 mo, .slice An nn cn, .slice Ap n cp, .string s0, .int .i64 s1] := by
    rw [hw0]; have := Blk.new (w.alloc (.cells #[.int .i64 0, .int .i64 0, .int .i64 m] 35)) 27 #[.int .i64 kd, .int .i64 a, .int .i64 lo, .int .i64 hi, .int .i64 mo, .slice An nn cn, .slice Ap n cp, .string s0, .int .i64 s1]; exact Blk.alloc (by simpa only [World.size_alloc] using this) _
  have hF : Blk w0 (w.heap.size + 2) 35 #[.int .i64 0, .int .i64 0, .int .i64 0] := by
    rw [hw0]; have := Blk.new ((w.alloc (.cells #[.int .i64 0, .int .i64 0, .int .i64 m] 35)).alloc (.cells #[.int .i64 kd, .int .i64 a, .int .i64 lo, .int .i64 hi, .int .i64 mo, .slice An nn cn, .slice Ap n cp, .string s0, .int .i64 s1] 27)) 35 #[.int .i64 0, .int .i64 0, .int .i64 0]; simpa only [World.size_alloc] using this
  have hE : Ext w w0 := by rw [hw0]; exact (((Ext.rfl' w).alloc (Nat.le_refl _) _).alloc (by simp only [World.size_alloc]; omega) _).alloc (by simp only [World.size_alloc]; omega) _
  obtain ⟨w1, hw1⟩ : ∃ x, x = w0.setCell ⟨w.heap.size, 2, none⟩ (.int .i64 m1) := ⟨_, rfl⟩
  have n1 : w.heap.size + 1 ≠ w.heap.size := by omega
  have n2 : w.heap.size + 2 ≠ w.heap.size := by omega
  have hT1 : Blk w1 (w.heap.size + 1) 27 #[.int .i64 kd, .int .i64 a, .int .i64 lo, .int .i64 hi, .int .i64 mo, .slice An nn cn, .slice Ap n cp, .string s0, .int .i64 s1] := by rw [hw1]; exact hT.far n1 _
  have hF1 : Blk w1 (w.heap.size + 2) 35 #[.int .i64 0, .int .i64 0, .int .i64 0] := by rw [hw1]; exact hF.far n2 _
  have hV1 : Blk w1 w.heap.size 35 #[.int .i64 0, .int .i64 0, .int .i64 m1] := by rw [hw1]; exact hV.set_ 2 _
  have hE1 : Ext w w1 := by rw [hw1]; exact hE.setCell (Nat.le_refl _) _
  have hlo : w.heap.size ≤ w.heap.size + 2 := by omega
  obtain ⟨gf, hgf⟩ : ∃ g, g = w.heap.size + 2 := ⟨_, rfl⟩
  obtain ⟨gt, hgt⟩ : ∃ g, g = w.heap.size + 1 := ⟨_, rfl⟩
  obtain ⟨gw, hgw⟩ : ∃ g, g = w.heap.size := ⟨_, rfl⟩
  rw [← hgf] at hF1 hlo
  rw [← hgt] at hT1
  rw [← hgw] at hV1 hV hw1
  have HX := hide hx
  have HW := hide hw0
  have HW1 := hide hw1
  have HGF := hide hgf
  have HGT := hide hgt
  have HGW := hide hgw
  have HF1 := hide hF1
  have HE1 := hide hE1
  have HV1 := hide hV1
  have HT1 := hide hT1
  have HLO := hide hlo
  have HM := hide (show m1 = wrap64 (m + 1) by rw [hm1]; exact IntWalk.i64_left _)
  have HOWN := hide hown
  have HONE := hide hone
  have HPARTS := hide hparts
  have HRIGHT := hide hright
  have HL := hide hl
  have HNN := hide hnn
  have HLZ := hide hlz
  have HEN := hide hEN
  have HP := hide hP
  have HSZ := hide hsz
  have HSUB := hide hsub
  have c2 := hV.cell 2
  have cf := hV.free 2
  simp only [List.getElem?_toArray, List.getElem?_cons_zero, List.getElem?_cons_succ] at c2
  clear hx hw0 hw1 hF hF1 hE hE1 hV hV1 hT hT1 n1 n2 hlo hgf hgt hgw hown hone hparts hright hm1 hl hnn hlz hEN hP hsz hsub
  go_enter Try.func9, Try.ntmps9
  go_upto_region 1 with fail
  rw [← HW.out, ← HGF.out, ← HGT.out, ← HGW.out]
  go_upto_region 2 with fail
  rw [← HM.out, ← HW1.out]
  clear c2 cf
  have t0 := HT1.out.cell 0
  have t1 := HT1.out.cell 1
  have t2 := HT1.out.cell 2
  have t3 := HT1.out.cell 3
  have t4 := HT1.out.cell 4
  have t5 := HT1.out.cell 5
  have t6 := HT1.out.cell 6
  have t7 := HT1.out.cell 7
  have t8 := HT1.out.cell 8
  simp only [List.getElem?_toArray, List.getElem?_cons_zero, List.getElem?_cons_succ] at t0 t1 t2 t3 t4 t5 t6 t7 t8
  have b0 := HF1.out.cell 0
  have b1 := HF1.out.cell 1
  have b2 := HF1.out.cell 2
  have f0 := HF1.out.free 0
  have f1 := HF1.out.free 1
  have f2 := HF1.out.free 2
  simp only [List.getElem?_toArray, List.getElem?_cons_zero, List.getElem?_cons_succ] at b0 b1 b2
  have c0 := HV1.out.cell 0
  have c1 := HV1.out.cell 1
  have c2 := HV1.out.cell 2
  simp only [List.getElem?_toArray, List.getElem?_cons_zero, List.getElem?_cons_succ] at c0 c1 c2
  by_cases q1 : 24 < d
  · have HR := hide (show R = ((6, a), m1) by rw [HX.out, if_pos q1])
    go_wp2_with fail
    refine (with_any 0 0 m1 6 a _).mono ?_
    rintro e w5 ⟨rfl, hE5⟩
    have HF5 := hide (HF1.out.ext hE5)
    have HV5 := hide (HV1.out.ext hE5)
    have HT5 := hide (HT1.out.ext hE5)
    have HE5 := hide (HE1.out.trans' hE5)
    have b0 := HF5.out.cell 0
    have b1 := HF5.out.cell 1
    have b2 := HF5.out.cell 2
    have f0 := HF5.out.free 0
    have f1 := HF5.out.free 1
    have f2 := HF5.out.free 2
    simp only [List.getElem?_toArray, List.getElem?_cons_zero, List.getElem?_cons_succ] at b0 b1 b2
    unfold wrV
    clear hE5
    go_wp2_with fail
    exact wr_ret (r := ((6, a), m1)) (g := gf) (((HF5.out.set_ 0 _).set_ 1 _).set_ 2 _) rfl rfl rfl ⟨by rw [HR.out], ((HE5.out.setCell HLO.out _).setCell HLO.out _).setCell HLO.out _⟩
  have HX2 := hide (HX.out.trans (if_neg q1))
  by_cases q2 : 512 < m1
  · have HR := hide (show R = ((8, a), m1) by rw [HX2.out, if_pos q2])
    go_wp2_with fail
    refine (with_any 0 0 m1 8 a _).mono ?_
    rintro e w5 ⟨rfl, hE5⟩
    have HF5 := hide (HF1.out.ext hE5)
    have HV5 := hide (HV1.out.ext hE5)
    have HT5 := hide (HT1.out.ext hE5)
    have HE5 := hide (HE1.out.trans' hE5)
    have b0 := HF5.out.cell 0
    have b1 := HF5.out.cell 1
    have b2 := HF5.out.cell 2
    have f0 := HF5.out.free 0
    have f1 := HF5.out.free 1
    have f2 := HF5.out.free 2
    simp only [List.getElem?_toArray, List.getElem?_cons_zero, List.getElem?_cons_succ] at b0 b1 b2
    unfold wrV
    clear hE5
    go_wp2_with fail
    exact wr_ret (r := ((8, a), m1)) (g := gf) (((HF5.out.set_ 0 _).set_ 1 _).set_ 2 _) rfl rfl rfl ⟨by rw [HR.out], ((HE5.out.setCell HLO.out _).setCell HLO.out _).setCell HLO.out _⟩
  have HX3 := hide (HX2.out.trans (if_neg q2))
  by_cases q3 : kd < 1
  · have HR := hide (show R = ((14, a), m1) by rw [HX3.out, if_pos (.inl q3)])
    go_wp2_with fail
    refine (with_any 0 0 m1 14 a _).mono ?_
    rintro e w5 ⟨rfl, hE5⟩
    have HF5 := hide (HF1.out.ext hE5)
    have HV5 := hide (HV1.out.ext hE5)
    have HT5 := hide (HT1.out.ext hE5)
    have HE5 := hide (HE1.out.trans' hE5)
    have b0 := HF5.out.cell 0
    have b1 := HF5.out.cell 1
    have b2 := HF5.out.cell 2
    have f0 := HF5.out.free 0
    have f1 := HF5.out.free 1
    have f2 := HF5.out.free 2
    simp only [List.getElem?_toArray, List.getElem?_cons_zero, List.getElem?_cons_succ] at b0 b1 b2
    unfold wrV
    clear hE5
    go_wp2_with fail
    exact wr_ret (r := ((14, a), m1)) (g := gf) (((HF5.out.set_ 0 _).set_ 1 _).set_ 2 _) rfl rfl rfl ⟨by rw [HR.out], ((HE5.out.setCell HLO.out _).setCell HLO.out _).setCell HLO.out _⟩
  by_cases q4 : 9 < kd
  · have HR := hide (show R = ((14, a), m1) by rw [HX3.out, if_pos (.inr q4)])
    go_wp2_with fail
    refine (with_any 0 0 m1 14 a _).mono ?_
    rintro e w5 ⟨rfl, hE5⟩
    have HF5 := hide (HF1.out.ext hE5)
    have HV5 := hide (HV1.out.ext hE5)
    have HT5 := hide (HT1.out.ext hE5)
    have HE5 := hide (HE1.out.trans' hE5)
    have b0 := HF5.out.cell 0
    have b1 := HF5.out.cell 1
    have b2 := HF5.out.cell 2
    have f0 := HF5.out.free 0
    have f1 := HF5.out.free 1
    have f2 := HF5.out.free 2
    simp only [List.getElem?_toArray, List.getElem?_cons_zero, List.getElem?_cons_succ] at b0 b1 b2
    unfold wrV
    clear hE5
    go_wp2_with fail
    exact wr_ret (r := ((14, a), m1)) (g := gf) (((HF5.out.set_ 0 _).set_ 1 _).set_ 2 _) rfl rfl rfl ⟨by rw [HR.out], ((HE5.out.setCell HLO.out _).setCell HLO.out _).setCell HLO.out _⟩
  have HX4 := hide (HX3.out.trans (if_neg (fun hh => hh.elim q3 q4)))
  clear HX HX2 HX3
  go_upto_region 8 with fail
  clear c0 c1 c2 f0 f1 f2 b0 b1 b2
  go_wp2_with fail
  refine (HOWN.out _ HE1.out).mono ?_
  rintro e w3 ⟨rfl, hE3⟩
  have HF3 := hide (HF1.out.ext hE3)
  have HV3 := hide (HV1.out.ext hE3)
  have HT3 := hide (HT1.out.ext hE3)
  have HE3 := hide (HE1.out.trans' hE3)
  have t0 := HT3.out.cell 0
  have t1 := HT3.out.cell 1
  have t2 := HT3.out.cell 2
  have t3 := HT3.out.cell 3
  have t4 := HT3.out.cell 4
  have t5 := HT3.out.cell 5
  have t6 := HT3.out.cell 6
  have t7 := HT3.out.cell 7
  have t8 := HT3.out.cell 8
  simp only [List.getElem?_toArray, List.getElem?_cons_zero, List.getElem?_cons_succ] at t0 t1 t2 t3 t4 t5 t6 t7 t8
  have b0 := HF3.out.cell 0
  have b1 := HF3.out.cell 1
  have b2 := HF3.out.cell 2
  have f0 := HF3.out.free 0
  have f1 := HF3.out.free 1
  have f2 := HF3.out.free 2
  simp only [List.getElem?_toArray, List.getElem?_cons_zero, List.getElem?_cons_succ] at b0 b1 b2
  have c0 := HV3.out.cell 0
  have c1 := HV3.out.cell 1
  have c2 := HV3.out.cell 2
  simp only [List.getElem?_toArray, List.getElem?_cons_zero, List.getElem?_cons_succ] at c0 c1 c2
  clear hE3
  cases OB with
  | false =>
    have HR := hide (show R = ((19, a), m1) by rw [HX4.out, if_pos rfl])
    go_wp2_with fail
    refine (with_any 0 0 m1 19 a _).mono ?_
    rintro e w5 ⟨rfl, hE5⟩
    have HF5 := hide (HF3.out.ext hE5)
    have HV5 := hide (HV3.out.ext hE5)
    have HT5 := hide (HT3.out.ext hE5)
    have HE5 := hide (HE3.out.trans' hE5)
    have b0 := HF5.out.cell 0
    have b1 := HF5.out.cell 1
    have b2 := HF5.out.cell 2
    have f0 := HF5.out.free 0
    have f1 := HF5.out.free 1
    have f2 := HF5.out.free 2
    simp only [List.getElem?_toArray, List.getElem?_cons_zero, List.getElem?_cons_succ] at b0 b1 b2
    unfold wrV
    clear hE5
    go_wp2_with fail
    exact wr_ret (r := ((19, a), m1)) (g := gf) (((HF5.out.set_ 0 _).set_ 1 _).set_ 2 _) rfl rfl rfl ⟨by rw [HR.out], ((HE5.out.setCell HLO.out _).setCell HLO.out _).setCell HLO.out _⟩
  | true =>
  have HX5 := hide (HX4.out.trans (if_neg (by decide)))
  clear HX4
  go_upto_region 10 with fail
  by_cases k2 : kd = 2
  · subst k2
    by_cases e1 : hi < lo
    · have HR := hide (show R = ((20, a), m1) by rw [HX5.out, if_pos rfl, if_pos e1])
      go_wp2_with fail
      refine (with_any 0 0 m1 20 a _).mono ?_
      rintro e w5 ⟨rfl, hE5⟩
      have HF5 := hide (HF3.out.ext hE5)
      have HV5 := hide (HV3.out.ext hE5)
      have HT5 := hide (HT3.out.ext hE5)
      have HE5 := hide (HE3.out.trans' hE5)
      have b0 := HF5.out.cell 0
      have b1 := HF5.out.cell 1
      have b2 := HF5.out.cell 2
      have f0 := HF5.out.free 0
      have f1 := HF5.out.free 1
      have f2 := HF5.out.free 2
      simp only [List.getElem?_toArray, List.getElem?_cons_zero, List.getElem?_cons_succ] at b0 b1 b2
      unfold wrV
      clear hE5
      go_wp2_with fail
      exact wr_ret (r := ((20, a), m1)) (g := gf) (((HF5.out.set_ 0 _).set_ 1 _).set_ 2 _) rfl rfl rfl ⟨by rw [HR.out], ((HE5.out.setCell HLO.out _).setCell HLO.out _).setCell HLO.out _⟩
    · have HR := hide (show R = ((0, 0), m1) by rw [HX5.out, if_pos rfl, if_neg e1])
      go_wp2_with fail
      exact wr_ret (r := ((0, 0), m1)) (g := gf) (((HF3.out.set_ 0 _).set_ 1 _).set_ 2 _) rfl rfl rfl ⟨by rw [HR.out], ((HE3.out.setCell HLO.out _).setCell HLO.out _).setCell HLO.out _⟩
  by_cases k3 : kd = 3
  · subst k3
    by_cases e1 : mo < 0
    · have HR := hide (show R = ((20, a), m1) by rw [HX5.out, if_neg (by decide), if_pos rfl, if_pos (.inl e1)])
      go_wp2_with fail
      refine (with_any 0 0 m1 20 a _).mono ?_
      rintro e w5 ⟨rfl, hE5⟩
      have HF5 := hide (HF3.out.ext hE5)
      have HV5 := hide (HV3.out.ext hE5)
      have HT5 := hide (HT3.out.ext hE5)
      have HE5 := hide (HE3.out.trans' hE5)
      have b0 := HF5.out.cell 0
      have b1 := HF5.out.cell 1
      have b2 := HF5.out.cell 2
      have f0 := HF5.out.free 0
      have f1 := HF5.out.free 1
      have f2 := HF5.out.free 2
      simp only [List.getElem?_toArray, List.getElem?_cons_zero, List.getElem?_cons_succ] at b0 b1 b2
      unfold wrV
      clear hE5
      go_wp2_with fail
      exact wr_ret (r := ((20, a), m1)) (g := gf) (((HF5.out.set_ 0 _).set_ 1 _).set_ 2 _) rfl rfl rfl ⟨by rw [HR.out], ((HE5.out.setCell HLO.out _).setCell HLO.out _).setCell HLO.out _⟩
    by_cases e2 : 4096 < mo
    · have HR := hide (show R = ((20, a), m1) by rw [HX5.out, if_neg (by decide), if_pos rfl, if_pos (.inr e2)])
      go_wp2_with fail
      refine (with_any 0 0 m1 20 a _).mono ?_
      rintro e w5 ⟨rfl, hE5⟩
      have HF5 := hide (HF3.out.ext hE5)
      have HV5 := hide (HV3.out.ext hE5)
      have HT5 := hide (HT3.out.ext hE5)
      have HE5 := hide (HE3.out.trans' hE5)
      have b0 := HF5.out.cell 0
      have b1 := HF5.out.cell 1
      have b2 := HF5.out.cell 2
      have f0 := HF5.out.free 0
      have f1 := HF5.out.free 1
      have f2 := HF5.out.free 2
      simp only [List.getElem?_toArray, List.getElem?_cons_zero, List.getElem?_cons_succ] at b0 b1 b2
      unfold wrV
      clear hE5
      go_wp2_with fail
      exact wr_ret (r := ((20, a), m1)) (g := gf) (((HF5.out.set_ 0 _).set_ 1 _).set_ 2 _) rfl rfl rfl ⟨by rw [HR.out], ((HE5.out.setCell HLO.out _).setCell HLO.out _).setCell HLO.out _⟩
    · have HR := hide (show R = ((0, 0), m1) by rw [HX5.out, if_neg (by decide), if_pos rfl, if_neg (fun hh => hh.elim e1 e2)])
      go_wp2_with fail
      exact wr_ret (r := ((0, 0), m1)) (g := gf) (((HF3.out.set_ 0 _).set_ 1 _).set_ 2 _) rfl rfl rfl ⟨by rw [HR.out], ((HE3.out.setCell HLO.out _).setCell HLO.out _).setCell HLO.out _⟩
  by_cases k9 : kd = 9
  · subst k9
    cases RB with
    | true =>
      have HR := hide (show R = ((0, 0), m1) by rw [HX5.out, if_neg (by decide), if_neg (by decide), if_neg (by decide), if_neg (by decide), if_pos rfl, if_pos rfl])
      go_wp2_with fail
      refine (HRIGHT.out _).mono ?_
      rintro e w8 ⟨rfl, rfl⟩
      go_wp2_with fail
      exact wr_ret (r := ((0, 0), m1)) (g := gf) (((HF3.out.set_ 0 _).set_ 1 _).set_ 2 _) rfl rfl rfl ⟨by rw [HR.out], ((HE3.out.setCell HLO.out _).setCell HLO.out _).setCell HLO.out _⟩
    | false =>
      have HR := hide (show R = ((9, s1), m1) by rw [HX5.out, if_neg (by decide), if_neg (by decide), if_neg (by decide), if_neg (by decide), if_pos rfl, if_neg (by decide)])
      go_wp2_with fail
      refine (HRIGHT.out _).mono ?_
      rintro e w8 ⟨rfl, rfl⟩
      go_wp2_with fail
      refine (with_any 0 0 m1 9 s1 _).mono ?_
      rintro e w5 ⟨rfl, hE5⟩
      have HF5 := hide (HF3.out.ext hE5)
      have HV5 := hide (HV3.out.ext hE5)
      have HT5 := hide (HT3.out.ext hE5)
      have HE5 := hide (HE3.out.trans' hE5)
      have b0 := HF5.out.cell 0
      have b1 := HF5.out.cell 1
      have b2 := HF5.out.cell 2
      have f0 := HF5.out.free 0
      have f1 := HF5.out.free 1
      have f2 := HF5.out.free 2
      simp only [List.getElem?_toArray, List.getElem?_cons_zero, List.getElem?_cons_succ] at b0 b1 b2
      unfold wrV
      clear hE5
      go_wp2_with fail
      exact wr_ret (r := ((9, s1), m1)) (g := gf) (((HF5.out.set_ 0 _).set_ 1 _).set_ 2 _) rfl rfl rfl ⟨by rw [HR.out], ((HE5.out.setCell HLO.out _).setCell HLO.out _).setCell HLO.out _⟩
  by_cases k7 : kd = 7
  · subst k7
    have HR := hide (show R = SUB by rw [HX5.out, if_neg (by decide), if_neg (by decide), if_neg (by decide), if_pos (by decide)])
    go_upto_region 32 with fail
    go_wp2_with fail
    refine (HPARTS.out (by decide) _ HE3.out).mono ?_
    rintro e w8 ⟨rfl, hE8⟩
    obtain ⟨⟨D1, D2⟩, D3⟩ := SUB
    have HF8 := hide (HF3.out.ext hE8)
    have HV8 := hide (HV3.out.ext hE8)
    have HT8 := hide (HT3.out.ext hE8)
    have HE8 := hide (HE3.out.trans' hE8)
    have b0 := HF8.out.cell 0
    have b1 := HF8.out.cell 1
    have b2 := HF8.out.cell 2
    have f0 := HF8.out.free 0
    have f1 := HF8.out.free 1
    have f2 := HF8.out.free 2
    simp only [List.getElem?_toArray, List.getElem?_cons_zero, List.getElem?_cons_succ] at b0 b1 b2
    unfold wrV
    clear hE8
    go_wp2_with fail
    exact wr_ret (r := ((D1, D2), D3)) (g := gf) (((HF8.out.set_ 0 _).set_ 1 _).set_ 2 _) rfl rfl rfl ⟨by rw [HR.out], ((HE8.out.setCell HLO.out _).setCell HLO.out _).setCell HLO.out _⟩
  by_cases k8 : kd = 8
  · subst k8
    have HR := hide (show R = SUB by rw [HX5.out, if_neg (by decide), if_neg (by decide), if_neg (by decide), if_pos (by decide)])
    go_upto_region 32 with fail
    go_wp2_with fail
    refine (HPARTS.out (by decide) _ HE3.out).mono ?_
    rintro e w8 ⟨rfl, hE8⟩
    obtain ⟨⟨D1, D2⟩, D3⟩ := SUB
    have HF8 := hide (HF3.out.ext hE8)
    have HV8 := hide (HV3.out.ext hE8)
    have HT8 := hide (HT3.out.ext hE8)
    have HE8 := hide (HE3.out.trans' hE8)
    have b0 := HF8.out.cell 0
    have b1 := HF8.out.cell 1
    have b2 := HF8.out.cell 2
    have f0 := HF8.out.free 0
    have f1 := HF8.out.free 1
    have f2 := HF8.out.free 2
    simp only [List.getElem?_toArray, List.getElem?_cons_zero, List.getElem?_cons_succ] at b0 b1 b2
    unfold wrV
    clear hE8
    go_wp2_with fail
    exact wr_ret (r := ((D1, D2), D3)) (g := gf) (((HF8.out.set_ 0 _).set_ 1 _).set_ 2 _) rfl rfl rfl ⟨by rw [HR.out], ((HE8.out.setCell HLO.out _).setCell HLO.out _).setCell HLO.out _⟩
  by_cases k4 : kd = 4
  · subst k4
    have HR1 := hide (show R = (enumF a l, m1) by rw [HX5.out, if_neg (by decide), if_neg (by decide), if_pos rfl, HEN.out])
    clear HX5 HEN HOWN HRIGHT HPARTS HONE HSUB HP HSZ
    by_cases z0 : nn = 0
    · have HR := hide (show R = ((15, a), m1) by rw [HR1.out]; unfold enumF; rw [if_pos (show l.length = 0 by rw [← HNN.out]; exact z0)])
      subst z0
      go_wp2_with fail
      refine (with_any 0 0 m1 15 a _).mono ?_
      rintro e w5 ⟨rfl, hE5⟩
      have HF5 := hide (HF3.out.ext hE5)
      have HV5 := hide (HV3.out.ext hE5)
      have HT5 := hide (HT3.out.ext hE5)
      have HE5 := hide (HE3.out.trans' hE5)
      have b0 := HF5.out.cell 0
      have b1 := HF5.out.cell 1
      have b2 := HF5.out.cell 2
      have f0 := HF5.out.free 0
      have f1 := HF5.out.free 1
      have f2 := HF5.out.free 2
      simp only [List.getElem?_toArray, List.getElem?_cons_zero, List.getElem?_cons_succ] at b0 b1 b2
      unfold wrV
      clear hE5
      go_wp2_with fail
      exact wr_ret (r := ((15, a), m1)) (g := gf) (((HF5.out.set_ 0 _).set_ 1 _).set_ 2 _) rfl rfl rfl ⟨by rw [HR.out], ((HE5.out.setCell HLO.out _).setCell HLO.out _).setCell HLO.out _⟩
    by_cases z1 : 64 < nn
    · have HR := hide (show R = ((8, wPl l 64), m1) by rw [HR1.out]; unfold enumF; rw [if_neg (show ¬ l.length = 0 by rw [← HNN.out]; exact z0), if_pos (show 64 < l.length by rw [← HNN.out]; exact z1)])
      obtain ⟨b, o, rfl, hbs, hcell⟩ := (HL.out.ext HE3.out).cell (by rw [← HNN.out]; omega)
      have d1 := (hcell 64 (by rw [← HNN.out]; exact z1)).2
      obtain ⟨x, hx⟩ : ∃ x, x = wPl l 64 := ⟨_, rfl⟩
      rw [← hx] at d1 HR
      have i0 : ((nn : Int) == 0) = false := by simp; omega
      have i1 : (64 : Int) < (nn : Int) := by omega
      clear hx hcell
      go_upto_region 18 with fail
      go_still_tail 6, (by kernel_rfl)
      change wpList _ _ _ _ _ w3.drew
      go_wp2_with fail
      refine (with_any 0 0 m1 8 x _).mono ?_
      rintro e w5 ⟨rfl, hE5'⟩
      have hE5 := ((Ext.rfl' w3).drew').trans' hE5'
      have HF5 := hide (HF3.out.ext hE5)
      have HV5 := hide (HV3.out.ext hE5)
      have HT5 := hide (HT3.out.ext hE5)
      have HE5 := hide (HE3.out.trans' hE5)
      have b0 := HF5.out.cell 0
      have b1 := HF5.out.cell 1
      have b2 := HF5.out.cell 2
      have f0 := HF5.out.free 0
      have f1 := HF5.out.free 1
      have f2 := HF5.out.free 2
      simp only [List.getElem?_toArray, List.getElem?_cons_zero, List.getElem?_cons_succ] at b0 b1 b2
      unfold wrV
      clear hE5
      go_wp2_with fail
      exact wr_ret (r := ((8, x), m1)) (g := gf) (((HF5.out.set_ 0 _).set_ 1 _).set_ 2 _) rfl rfl rfl ⟨by rw [HR.out], ((HE5.out.setCell HLO.out _).setCell HLO.out _).setCell HLO.out _⟩
    have HIT := hide (fun k (hk : k < nn) hh hb => enumF_hit (a := a) (k := k) HNN.out z1 hk hh hb)
    have HMI := hide (fun hh => enumF_miss (a := a) HNN.out z0 z1 hh)
    obtain ⟨EF, hEF⟩ : ∃ R, R = enumF a l := ⟨_, rfl⟩
    rw [← hEF] at HIT HMI HR1
    have i0 : ((nn : Int) == 0) = false := by simp; omega
    have i1 : ¬ (64 : Int) < (nn : Int) := by omega
    have HZ1 := hide z1
    clear hEF z0 z1
    clear f0 f1 f2 b0 b1 b2
    go_wp2_with fail
    go_loopw [7] (fun x wr => ∃ k : Nat, k ≤ nn ∧ x = .int .i64 k ∧ Ext w3 wr ∧ Hid (∀ j, j < k → listE (nms l) j = 0)) (fun x _ => nn - (intOf x).toNat)
    case atStart => exact ⟨0, Nat.zero_le _, rfl, Ext.rfl' _, fun j hj => absurd hj (by omega)⟩
    case round =>
      obtain ⟨k, hk, rfl, hE4, HA⟩ := hrel
      have HE4x := hide hE4
      have HF4 := hide (HF3.out.ext hE4)
      have HV4 := hide (HV3.out.ext hE4)
      have HT4 := hide (HT3.out.ext hE4)
      have HE4 := hide (HE3.out.trans' hE4)
      have t0 := HT4.out.cell 0
      have t1 := HT4.out.cell 1
      have t2 := HT4.out.cell 2
      have t3 := HT4.out.cell 3
      have t4 := HT4.out.cell 4
      have t5 := HT4.out.cell 5
      have t6 := HT4.out.cell 6
      have t7 := HT4.out.cell 7
      have t8 := HT4.out.cell 8
      simp only [List.getElem?_toArray, List.getElem?_cons_zero, List.getElem?_cons_succ] at t0 t1 t2 t3 t4 t5 t6 t7 t8
      have b0 := HF4.out.cell 0
      have b1 := HF4.out.cell 1
      have b2 := HF4.out.cell 2
      have f0 := HF4.out.free 0
      have f1 := HF4.out.free 1
      have f2 := HF4.out.free 2
      simp only [List.getElem?_toArray, List.getElem?_cons_zero, List.getElem?_cons_succ] at b0 b1 b2
      have c0 := HV4.out.cell 0
      have c1 := HV4.out.cell 1
      have c2 := HV4.out.cell 2
      simp only [List.getElem?_toArray, List.getElem?_cons_zero, List.getElem?_cons_succ] at c0 c1 c2
      by_cases hlt : k < nn
      · obtain ⟨b, o, rfl, hbs, hcell⟩ := (HL.out.ext HE4.out).cell (by rw [← HNN.out]; omega)
        have d1 := (hcell k (by rw [← HNN.out]; exact hlt)).2
        have hli := refListed_any (some ⟨b, o, none⟩) cn nn k l wr (HL.out.ext HE4.out) HNN.out hlt (by have := HZ1.out; omega) HLZ.out.2
        have hhit := HIT.out k hlt HA.out
        have HST := hide (fun hh => below_st HA.out (show listE (nms l) k = 0 from hh))
        obtain ⟨x, hx⟩ : ∃ x, x = wPl l k := ⟨_, rfl⟩
        obtain ⟨ev, hev⟩ : ∃ v, v = listE (nms l) k := ⟨_, rfl⟩
        rw [← hev] at hli hhit HST
        rw [← hx] at d1 hhit
        have HLI := hide hli
        have i2 : (0 : Int) ≤ (k : Int) := by omega
        have i3 : (k : Int) < (nn : Int) := by omega
        have HBS := hide hbs
        have HD1 := hide d1
        clear hcell hx hev hli HIT HMI hE4
        by_cases he : ev = 0
        · have HA2 := hide (HST.out he)
          subst he
          clear hhit HST HA d1
          go_wp2_with fail
          refine HLI.out.mono ?_
          rintro e w6 ⟨rfl, hE6⟩
          have HE6 := hide hE6
          clear hE6
          go_wp2_with fail
          go_roundw
          case rel => exact ⟨k + 1, by omega, by go_num, HE4x.out.trans' HE6.out, HA2.out⟩
          case measure => simp [intOf]; omega
        · have HHIT := hide (hhit he)
          have HR := hide (show R = ((ev, x), m1) by rw [HR1.out, HHIT.out])
          have j0 : (ev == 0) = false := by simpa using he
          clear hhit HST HA he
          go_wp2_with fail
          refine HLI.out.mono ?_
          rintro e w6 ⟨rfl, hE6⟩
          have HF6 := hide (HF4.out.ext hE6)
          have HV6 := hide (HV4.out.ext hE6)
          have HT6 := hide (HT4.out.ext hE6)
          have HE6 := hide (HE4.out.trans' hE6)
          have t0 := HT6.out.cell 0
          have t1 := HT6.out.cell 1
          have t2 := HT6.out.cell 2
          have t3 := HT6.out.cell 3
          have t4 := HT6.out.cell 4
          have t5 := HT6.out.cell 5
          have t6 := HT6.out.cell 6
          have t7 := HT6.out.cell 7
          have t8 := HT6.out.cell 8
          simp only [List.getElem?_toArray, List.getElem?_cons_zero, List.getElem?_cons_succ] at t0 t1 t2 t3 t4 t5 t6 t7 t8
          have b0 := HF6.out.cell 0
          have b1 := HF6.out.cell 1
          have b2 := HF6.out.cell 2
          have f0 := HF6.out.free 0
          have f1 := HF6.out.free 1
          have f2 := HF6.out.free 2
          simp only [List.getElem?_toArray, List.getElem?_cons_zero, List.getElem?_cons_succ] at b0 b1 b2
          have c0 := HV6.out.cell 0
          have c1 := HV6.out.cell 1
          have c2 := HV6.out.cell 2
          simp only [List.getElem?_toArray, List.getElem?_cons_zero, List.getElem?_cons_succ] at c0 c1 c2
          have d1 := (hE6.cell (p := ⟨b, o + k * 2 + 1, none⟩) HBS.out).trans HD1.out
          clear hE6
          go_upto_region 24 with fail
          go_still_tail 8, (by kernel_rfl)
          change wpList _ _ _ _ _ w6.drew
          go_wp2_with fail
          refine (with_any 0 0 m1 ev x _).mono ?_
          rintro e w5 ⟨rfl, hE5'⟩
          have hE5 := ((Ext.rfl' w6).drew').trans' hE5'
          have HF5 := hide (HF6.out.ext hE5)
          have HV5 := hide (HV6.out.ext hE5)
          have HT5 := hide (HT6.out.ext hE5)
          have HE5 := hide (HE6.out.trans' hE5)
          have b0 := HF5.out.cell 0
          have b1 := HF5.out.cell 1
          have b2 := HF5.out.cell 2
          have f0 := HF5.out.free 0
          have f1 := HF5.out.free 1
          have f2 := HF5.out.free 2
          simp only [List.getElem?_toArray, List.getElem?_cons_zero, List.getElem?_cons_succ] at b0 b1 b2
          unfold wrV
          clear hE5
          go_wp2_with fail
          exact wr_ret (r := ((ev, x), m1)) (g := gf) (((HF5.out.set_ 0 _).set_ 1 _).set_ 2 _) rfl rfl rfl ⟨by rw [HR.out], ((HE5.out.setCell HLO.out _).setCell HLO.out _).setCell HLO.out _⟩
      · obtain rfl : k = nn := by omega
        have HX := hide (HMI.out HA.out)
        have HR := hide (show R = ((0, 0), m1) by rw [HR1.out, HX.out])
        clear HA hE4 HIT HMI
        go_wp2_with fail
        exact wr_ret (r := ((0, 0), m1)) (g := gf) (((HF4.out.set_ 0 _).set_ 1 _).set_ 2 _) rfl rfl rfl ⟨by rw [HR.out], ((HE4.out.setCell HLO.out _).setCell HLO.out _).setCell HLO.out _⟩
  by_cases k5 : kd = 5
  · subst k5
    have HR1 := hide (show R = SUB by rw [HX5.out, if_neg (by decide), if_neg (by decide), if_neg (by decide), if_pos (by decide)])
    have HS1 := hide (HONE.out (by decide))
    clear HX5 HEN HOWN HRIGHT HPARTS HONE HL HLZ HNN
    by_cases hn : n = 1
    · subst hn
      have HS2 := hide (HS1.out)
      obtain ⟨b, o, rfl, hb, hc⟩ := HP.out (by omega)
      obtain ⟨vs, r0, hpa⟩ := hc 0 (by omega)
      rw [Nat.zero_mul, Nat.add_zero] at r0
      have hs := HSZ.out 0 (by omega)
      have hsb := HSUB.out (by omega)
      have hp3 : PartAt w3 w3.heap.size (p 0) (t 0) vs := hpa.ext HE3.out
      have hpl := plain_any (p 0) (zPt wd0 false) (t 0) zTy w3 vs (ptV (zPt wd0 false) none 0 none 0 ++ zCells) hp3 (zPt_at _ _ _ _) hs.1 hs.2
      obtain ⟨Al, cl, Ac, cc, vt, hvs, hlb, hcc, htt⟩ := id hpa
      have hchk := fun (w1 : World) (hE : Ext w w1) => hsb m1 w1 vt (htt.ext hE)
      have hvl : vs.length = 18 := hp3.len
      have htl : vt.length = 9 := by obtain ⟨y0, y1, y2, y3, y4, y5, y6, y7, y8, e⟩ := htt.nine; rw [e]; rfl
      have hr1 : w3.rangeAt b o vs := fun j v hv => (HE3.out.cell (p := ⟨b, o + j, none⟩) hb).trans (r0 j v hv)
      have hrt : w3.rangeAt b (o + 9) vt := fun j v hv => by
        have := hr1 (9 + j) v (by rw [hvs, List.getElem?_append_right (by show 9 ≤ 9 + j; omega)]; rw [show 9 + j - (ptV (p 0) Al cl Ac cc).length = j by show 9 + j - 9 = j; omega]; exact hv)
        rwa [← Nat.add_assoc] at this
      have d0 : w3.cell? ⟨b, o, none⟩ = some (.string (p 0).name.1) := hr1 0 _ (by rw [hvs]; rfl)
      have hpe : ptEq (p 0) (zPt wd0 false) = (decide ((p 0).name.1 = ⟨#[]⟩) && plainB (p 0) (zPt wd0 false)) := rfl
      rw [hpe] at HS2
      generalize plainB (p 0) (zPt wd0 false) = PB at hpl HS2
      generalize chk (t 0) (wrap64 (d + 1)) m1 = CK at hchk HS2
      obtain ⟨nm, hnm⟩ : ∃ x, x = (p 0).name.1 := ⟨_, rfl⟩
      rw [← hnm] at d0 HS2
      by_cases hnm0 : nm = ⟨#[]⟩
      · subst hnm0
        have HS3 := hide (show SUB = if PB = true then (if mo < 0 ∨ 1024 < mo then ((20, a), m1) else CK) else ((19, a), m1) by rw [HS2.out]; cases PB <;> simp)
        obtain ⟨y0, y1, y2, y3, y4, y5, y6, y7, y8, hvt⟩ := htt.nine
        have HPL := hide (show Calls Try.prog 22 #[.agg vs.toArray, .agg #[.string ⟨#[]⟩, .int .i64 0, .bool false, .slice none 0 0, .int .i64 0, .int .i64 0, .int .i64 0, .int .i64 0, .slice none 0 0, .int .i64 0, .int .i64 0, .int .i64 0, .int .i64 0, .int .i64 0, .slice none 0 0, .slice none 0 0, .string ⟨#[]⟩, .int .i64 0]] w3 (fun e w' => e = .returned (.bool PB) ∧ Ext w3 w') from hpl)
        have HCHK := hide (show ∀ (w1 : World), Ext w w1 → Calls Try.prog 9 #[.agg #[.int .i64 0, .int .i64 0, .int .i64 m1], .agg #[y0, y1, y2, y3, y4, y5, y6, y7, y8], .int .i64 (wrap64 (d + 1))] w1 (fun e w' => e = .returned (wrV CK) ∧ Ext w1 w') from fun w1 hE => by have := hchk w1 hE; rw [hvt] at this; exact this)
        have HVL := hide hvl
        have HR0 := hide hr1
        have HRT := hide (show w3.rangeAt b (o + 9) [y0, y1, y2, y3, y4, y5, y6, y7, y8] from hvt ▸ hrt)
        have HB := hide (Nat.lt_of_lt_of_le hb HE3.out.size)
        clear hpl hchk hvl hr1 hrt hb hc r0 hpa hs hsb hp3 hvs hlb hcc htt htl hpe HS2 HS1 hvt hnm HP HSZ HSUB
        go_upto_region 26 with fail
        refine wp_region_lit ?_
        refine wpList_plain rfl ?_
        intro K1 hK1
        go_simp
        refine hK1 _ _ ?_
        refine wpList_plain rfl ?_
        intro K2 hK2
        go_simp
        refine hK2 _ _ ?_
        refine wpList_plain rfl ?_
        intro K3 hK3
        go_simp
        refine hK3 _ _ ?_
        refine wpList_plain rfl ?_
        intro K4 hK4
        go_simp
        refine hK4 _ _ ?_
        refine wpList_plain rfl ?_
        intro K5 hK5
        go_simp
        refine hK5 _ _ ?_
        refine wpList_unguard' (by rfl) ?_
        refine wpList_plain rfl ?_
        intro K6 hK6
        go_simp
        refine hK6 _ _ ?_
        refine wpList_unguard' (by rfl) ?_
        refine wpList_plain rfl ?_
        intro K7 hK7
        go_simp
        refine hK7 _ _ ?_
        refine wpList_unguard' (by rfl) ?_
        refine wpList_plain rfl ?_
        intro K8 hK8
        go_simp
        refine hK8 _ _ ?_
        refine wpList_unguard' (by rfl) ?_
        refine wpList_plain rfl ?_
        intro K9 hK9
        go_simp
        refine hK9 _ _ ?_
        refine wpList_unguard' (by rfl) ?_
        refine wpList_plain rfl ?_
        intro K10 hK10
        go_simp
        refine hK10 _ _ ?_
        refine wpList_unguard' (by rfl) ?_
        refine wpList_plain rfl ?_
        intro K11 hK11
        go_simp
        refine hK11 _ _ ?_
        refine wpList_unguard' (by rfl) ?_
        refine wpList_plain rfl ?_
        intro K12 hK12
        go_simp
        refine hK12 _ _ ?_
        refine wpList_plain rfl ?_
        intro K13 hK13
        go_simp
        refine hK13 _ _ ?_
        refine wpList_plain rfl ?_
        intro K14 hK14
        go_simp
        refine hK14 _ _ ?_
        refine wpList_unguard' (by rfl) ?_
        refine wpList_plain rfl ?_
        intro K15 hK15
        go_simp
        refine hK15 _ _ ?_
        refine wpList_unguard' (by rfl) ?_
        refine wpList_plain rfl ?_
        intro K16 hK16
        go_simp
        refine hK16 _ _ ?_
        refine wpList_unguard' (by rfl) ?_
        refine wpList_plain rfl ?_
        intro K17 hK17
        go_simp
        refine hK17 _ _ ?_
        refine wpList_unguard' (by rfl) ?_
        refine wpList_load_mid rfl 52 _ rfl b o rfl vs _ HR0.out Try.underlying52 rfl (infoPart' HVL.out) ?_
        go_wp2_with fail
        refine HPL.out.mono ?_
        rintro e w6 ⟨rfl, hE6⟩
        have HF6 := hide (HF3.out.ext hE6)
        have HV6 := hide (HV3.out.ext hE6)
        have HT6 := hide (HT3.out.ext hE6)
        have HE6 := hide (HE3.out.trans' hE6)
        have t0 := HT6.out.cell 0
        have t1 := HT6.out.cell 1
        have t2 := HT6.out.cell 2
        have t3 := HT6.out.cell 3
        have t4 := HT6.out.cell 4
        have t5 := HT6.out.cell 5
        have t6 := HT6.out.cell 6
        have t7 := HT6.out.cell 7
        have t8 := HT6.out.cell 8
        simp only [List.getElem?_toArray, List.getElem?_cons_zero, List.getElem?_cons_succ] at t0 t1 t2 t3 t4 t5 t6 t7 t8
        have b0 := HF6.out.cell 0
        have b1 := HF6.out.cell 1
        have b2 := HF6.out.cell 2
        have f0 := HF6.out.free 0
        have f1 := HF6.out.free 1
        have f2 := HF6.out.free 2
        simp only [List.getElem?_toArray, List.getElem?_cons_zero, List.getElem?_cons_succ] at b0 b1 b2
        have c0 := HV6.out.cell 0
        have c1 := HV6.out.cell 1
        have c2 := HV6.out.cell 2
        simp only [List.getElem?_toArray, List.getElem?_cons_zero, List.getElem?_cons_succ] at c0 c1 c2
        have hrt6 : w6.rangeAt b (o + 9) [y0, y1, y2, y3, y4, y5, y6, y7, y8] := fun j v hv => (hE6.cell (p := ⟨b, o + 9 + j, none⟩) HB.out).trans (HRT.out j v hv)
        have z0 := hrt6 0 _ rfl
        have z1 := hrt6 1 _ rfl
        have z2 := hrt6 2 _ rfl
        have z3 := hrt6 3 _ rfl
        have z4 := hrt6 4 _ rfl
        have z5 := hrt6 5 _ rfl
        have z6 := hrt6 6 _ rfl
        have z7 := hrt6 7 _ rfl
        have z8 := hrt6 8 _ rfl
        clear hE6 d0 hrt6
        cases PB with
        | false =>
          have HR := hide (show R = ((19, a), m1) by rw [HR1.out, HS3.out, if_neg (by decide)])
          go_wp2_with fail
          refine (with_any 0 0 m1 19 a _).mono ?_
          rintro e w5 ⟨rfl, hE5⟩
          have HF5 := hide (HF6.out.ext hE5)
          have HV5 := hide (HV6.out.ext hE5)
          have HT5 := hide (HT6.out.ext hE5)
          have HE5 := hide (HE6.out.trans' hE5)
          have b0 := HF5.out.cell 0
          have b1 := HF5.out.cell 1
          have b2 := HF5.out.cell 2
          have f0 := HF5.out.free 0
          have f1 := HF5.out.free 1
          have f2 := HF5.out.free 2
          simp only [List.getElem?_toArray, List.getElem?_cons_zero, List.getElem?_cons_succ] at b0 b1 b2
          unfold wrV
          clear hE5
          go_wp2_with fail
          exact wr_ret (r := ((19, a), m1)) (g := gf) (((HF5.out.set_ 0 _).set_ 1 _).set_ 2 _) rfl rfl rfl ⟨by rw [HR.out], ((HE5.out.setCell HLO.out _).setCell HLO.out _).setCell HLO.out _⟩
        | true =>
        have HS4 := hide (HS3.out.trans (if_pos rfl))
        by_cases e1 : mo < 0
        · have HR := hide (show R = ((20, a), m1) by rw [HR1.out, HS4.out, if_pos (.inl e1)])
          go_wp2_with fail
          refine (with_any 0 0 m1 20 a _).mono ?_
          rintro e w5 ⟨rfl, hE5⟩
          have HF5 := hide (HF6.out.ext hE5)
          have HV5 := hide (HV6.out.ext hE5)
          have HT5 := hide (HT6.out.ext hE5)
          have HE5 := hide (HE6.out.trans' hE5)
          have b0 := HF5.out.cell 0
          have b1 := HF5.out.cell 1
          have b2 := HF5.out.cell 2
          have f0 := HF5.out.free 0
          have f1 := HF5.out.free 1
          have f2 := HF5.out.free 2
          simp only [List.getElem?_toArray, List.getElem?_cons_zero, List.getElem?_cons_succ] at b0 b1 b2
          unfold wrV
          clear hE5
          go_wp2_with fail
          exact wr_ret (r := ((20, a), m1)) (g := gf) (((HF5.out.set_ 0 _).set_ 1 _).set_ 2 _) rfl rfl rfl ⟨by rw [HR.out], ((HE5.out.setCell HLO.out _).setCell HLO.out _).setCell HLO.out _⟩
        by_cases e2 : 1024 < mo
        · have HR := hide (show R = ((20, a), m1) by rw [HR1.out, HS4.out, if_pos (.inr e2)])
          go_wp2_with fail
          refine (with_any 0 0 m1 20 a _).mono ?_
          rintro e w5 ⟨rfl, hE5⟩
          have HF5 := hide (HF6.out.ext hE5)
          have HV5 := hide (HV6.out.ext hE5)
          have HT5 := hide (HT6.out.ext hE5)
          have HE5 := hide (HE6.out.trans' hE5)
          have b0 := HF5.out.cell 0
          have b1 := HF5.out.cell 1
          have b2 := HF5.out.cell 2
          have f0 := HF5.out.free 0
          have f1 := HF5.out.free 1
          have f2 := HF5.out.free 2
          simp only [List.getElem?_toArray, List.getElem?_cons_zero, List.getElem?_cons_succ] at b0 b1 b2
          unfold wrV
          clear hE5
          go_wp2_with fail
          exact wr_ret (r := ((20, a), m1)) (g := gf) (((HF5.out.set_ 0 _).set_ 1 _).set_ 2 _) rfl rfl rfl ⟨by rw [HR.out], ((HE5.out.setCell HLO.out _).setCell HLO.out _).setCell HLO.out _⟩
        have HR := hide (show R = CK by rw [HR1.out, HS4.out, if_neg (fun hh => hh.elim e1 e2)])
        clear HR1 HS4 HS3
        go_upto_region 30 with fail
        go_still_tail 8, (by kernel_rfl)
        change wpList _ _ _ _ _ w6.drew
        go_wp2_with fail
        refine (HCHK.out _ HE6.out.drew').mono ?_
        rintro e w8 ⟨rfl, hE8'⟩
        have hE8 := ((Ext.rfl' w6).drew').trans' hE8'
        obtain ⟨⟨D1, D2⟩, D3⟩ := CK
        have HF8 := hide (HF6.out.ext hE8)
        have HV8 := hide (HV6.out.ext hE8)
        have HT8 := hide (HT6.out.ext hE8)
        have HE8 := hide (HE6.out.trans' hE8)
        have b0 := HF8.out.cell 0
        have b1 := HF8.out.cell 1
        have b2 := HF8.out.cell 2
        have f0 := HF8.out.free 0
        have f1 := HF8.out.free 1
        have f2 := HF8.out.free 2
        simp only [List.getElem?_toArray, List.getElem?_cons_zero, List.getElem?_cons_succ] at b0 b1 b2
        unfold wrV
        clear hE8
        go_wp2_with fail
        exact wr_ret (r := ((D1, D2), D3)) (g := gf) (((HF8.out.set_ 0 _).set_ 1 _).set_ 2 _) rfl rfl rfl ⟨by rw [HR.out], ((HE8.out.setCell HLO.out _).setCell HLO.out _).setCell HLO.out _⟩
      · have hq0 : ¬ nm.toList = [] := nil_str hnm0
        have HR := hide (show R = ((19, a), m1) by rw [HR1.out, HS2.out, decide_eq_false hnm0, Bool.false_and, if_neg (fun hh => by cases hh.2)])
        clear hpl hchk hvl hr1 hrt hb hc r0 hpa hs hsb hp3 hvs hlb hcc htt htl hpe HS2 HS1 HR1 hnm HP HSZ HSUB
        go_wp2_with fail
        refine (with_any 0 0 m1 19 a _).mono ?_
        rintro e w5 ⟨rfl, hE5⟩
        have HF5 := hide (HF3.out.ext hE5)
        have HV5 := hide (HV3.out.ext hE5)
        have HT5 := hide (HT3.out.ext hE5)
        have HE5 := hide (HE3.out.trans' hE5)
        have b0 := HF5.out.cell 0
        have b1 := HF5.out.cell 1
        have b2 := HF5.out.cell 2
        have f0 := HF5.out.free 0
        have f1 := HF5.out.free 1
        have f2 := HF5.out.free 2
        simp only [List.getElem?_toArray, List.getElem?_cons_zero, List.getElem?_cons_succ] at b0 b1 b2
        unfold wrV
        clear hE5
        go_wp2_with fail
        exact wr_ret (r := ((19, a), m1)) (g := gf) (((HF5.out.set_ 0 _).set_ 1 _).set_ 2 _) rfl rfl rfl ⟨by rw [HR.out], ((HE5.out.setCell HLO.out _).setCell HLO.out _).setCell HLO.out _⟩
    · have HR := hide (show R = ((19, a), m1) by rw [HR1.out, HS1.out, if_neg (fun hh => hn hh.1)])
      have i0 : ((n : Int) != 1) = true := by simp; omega
      go_wp2_with fail
      refine (with_any 0 0 m1 19 a _).mono ?_
      rintro e w5 ⟨rfl, hE5⟩
      have HF5 := hide (HF3.out.ext hE5)
      have HV5 := hide (HV3.out.ext hE5)
      have HT5 := hide (HT3.out.ext hE5)
      have HE5 := hide (HE3.out.trans' hE5)
      have b0 := HF5.out.cell 0
      have b1 := HF5.out.cell 1
      have b2 := HF5.out.cell 2
      have f0 := HF5.out.free 0
      have f1 := HF5.out.free 1
      have f2 := HF5.out.free 2
      simp only [List.getElem?_toArray, List.getElem?_cons_zero, List.getElem?_cons_succ] at b0 b1 b2
      unfold wrV
      clear hE5
      go_wp2_with fail
      exact wr_ret (r := ((19, a), m1)) (g := gf) (((HF5.out.set_ 0 _).set_ 1 _).set_ 2 _) rfl rfl rfl ⟨by rw [HR.out], ((HE5.out.setCell HLO.out _).setCell HLO.out _).setCell HLO.out _⟩
  by_cases k6 : kd = 6
  · subst k6
    have HR1 := hide (show R = SUB by rw [HX5.out, if_neg (by decide), if_neg (by decide), if_neg (by decide), if_pos (by decide)])
    have HS1 := hide (HONE.out (by decide))
    clear HX5 HEN HOWN HRIGHT HPARTS HONE HL HLZ HNN
    by_cases hn : n = 1
    · subst hn
      have HS2 := hide (HS1.out)
      obtain ⟨b, o, rfl, hb, hc⟩ := HP.out (by omega)
      obtain ⟨vs, r0, hpa⟩ := hc 0 (by omega)
      rw [Nat.zero_mul, Nat.add_zero] at r0
      have hs := HSZ.out 0 (by omega)
      have hsb := HSUB.out (by omega)
      have hp3 : PartAt w3 w3.heap.size (p 0) (t 0) vs := hpa.ext HE3.out
      have hpl := plain_any (p 0) (zPt wd0 false) (t 0) zTy w3 vs (ptV (zPt wd0 false) none 0 none 0 ++ zCells) hp3 (zPt_at _ _ _ _) hs.1 hs.2
      obtain ⟨Al, cl, Ac, cc, vt, hvs, hlb, hcc, htt⟩ := id hpa
      have hchk := fun (w1 : World) (hE : Ext w w1) => hsb m1 w1 vt (htt.ext hE)
      have hvl : vs.length = 18 := hp3.len
      have htl : vt.length = 9 := by obtain ⟨y0, y1, y2, y3, y4, y5, y6, y7, y8, e⟩ := htt.nine; rw [e]; rfl
      have hr1 : w3.rangeAt b o vs := fun j v hv => (HE3.out.cell (p := ⟨b, o + j, none⟩) hb).trans (r0 j v hv)
      have hrt : w3.rangeAt b (o + 9) vt := fun j v hv => by
        have := hr1 (9 + j) v (by rw [hvs, List.getElem?_append_right (by show 9 ≤ 9 + j; omega)]; rw [show 9 + j - (ptV (p 0) Al cl Ac cc).length = j by show 9 + j - 9 = j; omega]; exact hv)
        rwa [← Nat.add_assoc] at this
      have d0 : w3.cell? ⟨b, o, none⟩ = some (.string (p 0).name.1) := hr1 0 _ (by rw [hvs]; rfl)
      have hpe : ptEq (p 0) (zPt wd0 false) = (decide ((p 0).name.1 = ⟨#[]⟩) && plainB (p 0) (zPt wd0 false)) := rfl
      rw [hpe] at HS2
      generalize plainB (p 0) (zPt wd0 false) = PB at hpl HS2
      generalize chk (t 0) (wrap64 (d + 1)) m1 = CK at hchk HS2
      obtain ⟨nm, hnm⟩ : ∃ x, x = (p 0).name.1 := ⟨_, rfl⟩
      rw [← hnm] at d0 HS2
      by_cases hnm0 : nm = ⟨#[]⟩
      · subst hnm0
        have HS3 := hide (show SUB = if PB = true then (if mo < 0 ∨ 1024 < mo then ((20, a), m1) else CK) else ((19, a), m1) by rw [HS2.out]; cases PB <;> simp)
        obtain ⟨y0, y1, y2, y3, y4, y5, y6, y7, y8, hvt⟩ := htt.nine
        have HPL := hide (show Calls Try.prog 22 #[.agg vs.toArray, .agg #[.string ⟨#[]⟩, .int .i64 0, .bool false, .slice none 0 0, .int .i64 0, .int .i64 0, .int .i64 0, .int .i64 0, .slice none 0 0, .int .i64 0, .int .i64 0, .int .i64 0, .int .i64 0, .int .i64 0, .slice none 0 0, .slice none 0 0, .string ⟨#[]⟩, .int .i64 0]] w3 (fun e w' => e = .returned (.bool PB) ∧ Ext w3 w') from hpl)
        have HCHK := hide (show ∀ (w1 : World), Ext w w1 → Calls Try.prog 9 #[.agg #[.int .i64 0, .int .i64 0, .int .i64 m1], .agg #[y0, y1, y2, y3, y4, y5, y6, y7, y8], .int .i64 (wrap64 (d + 1))] w1 (fun e w' => e = .returned (wrV CK) ∧ Ext w1 w') from fun w1 hE => by have := hchk w1 hE; rw [hvt] at this; exact this)
        have HVL := hide hvl
        have HR0 := hide hr1
        have HRT := hide (show w3.rangeAt b (o + 9) [y0, y1, y2, y3, y4, y5, y6, y7, y8] from hvt ▸ hrt)
        have HB := hide (Nat.lt_of_lt_of_le hb HE3.out.size)
        clear hpl hchk hvl hr1 hrt hb hc r0 hpa hs hsb hp3 hvs hlb hcc htt htl hpe HS2 HS1 hvt hnm HP HSZ HSUB
        go_upto_region 26 with fail
        refine wp_region_lit ?_
        refine wpList_plain rfl ?_
        intro K1 hK1
        go_simp
        refine hK1 _ _ ?_
        refine wpList_plain rfl ?_
        intro K2 hK2
        go_simp
        refine hK2 _ _ ?_
        refine wpList_plain rfl ?_
        intro K3 hK3
        go_simp
        refine hK3 _ _ ?_
        refine wpList_plain rfl ?_
        intro K4 hK4
        go_simp
        refine hK4 _ _ ?_
        refine wpList_plain rfl ?_
        intro K5 hK5
        go_simp
        refine hK5 _ _ ?_
        refine wpList_unguard' (by rfl) ?_
        refine wpList_plain rfl ?_
        intro K6 hK6
        go_simp
        refine hK6 _ _ ?_
        refine wpList_unguard' (by rfl) ?_
        refine wpList_plain rfl ?_
        intro K7 hK7
        go_simp
        refine hK7 _ _ ?_
        refine wpList_unguard' (by rfl) ?_
        refine wpList_plain rfl ?_
        intro K8 hK8
        go_simp
        refine hK8 _ _ ?_
        refine wpList_unguard' (by rfl) ?_
        refine wpList_plain rfl ?_
        intro K9 hK9
        go_simp
        refine hK9 _ _ ?_
        refine wpList_unguard' (by rfl) ?_
        refine wpList_plain rfl ?_
        intro K10 hK10
        go_simp
        refine hK10 _ _ ?_
        refine wpList_unguard' (by rfl) ?_
        refine wpList_plain rfl ?_
        intro K11 hK11
        go_simp
        refine hK11 _ _ ?_
        refine wpList_unguard' (by rfl) ?_
        refine wpList_plain rfl ?_
        intro K12 hK12
        go_simp
        refine hK12 _ _ ?_
        refine wpList_plain rfl ?_
        intro K13 hK13
        go_simp
        refine hK13 _ _ ?_
        refine wpList_plain rfl ?_
        intro K14 hK14
        go_simp
        refine hK14 _ _ ?_
        refine wpList_unguard' (by rfl) ?_
        refine wpList_plain rfl ?_
        intro K15 hK15
        go_simp
        refine hK15 _ _ ?_
        refine wpList_unguard' (by rfl) ?_
        refine wpList_plain rfl ?_
        intro K16 hK16
        go_simp
        refine hK16 _ _ ?_
        refine wpList_unguard' (by rfl) ?_
        refine wpList_plain rfl ?_
        intro K17 hK17
        go_simp
        refine hK17 _ _ ?_
        refine wpList_unguard' (by rfl) ?_
        refine wpList_load_mid rfl 52 _ rfl b o rfl vs _ HR0.out Try.underlying52 rfl (infoPart' HVL.out) ?_
        go_wp2_with fail
        refine HPL.out.mono ?_
        rintro e w6 ⟨rfl, hE6⟩
        have HF6 := hide (HF3.out.ext hE6)
        have HV6 := hide (HV3.out.ext hE6)
        have HT6 := hide (HT3.out.ext hE6)
        have HE6 := hide (HE3.out.trans' hE6)
        have t0 := HT6.out.cell 0
        have t1 := HT6.out.cell 1
        have t2 := HT6.out.cell 2
        have t3 := HT6.out.cell 3
        have t4 := HT6.out.cell 4
        have t5 := HT6.out.cell 5
        have t6 := HT6.out.cell 6
        have t7 := HT6.out.cell 7
        have t8 := HT6.out.cell 8
        simp only [List.getElem?_toArray, List.getElem?_cons_zero, List.getElem?_cons_succ] at t0 t1 t2 t3 t4 t5 t6 t7 t8
        have b0 := HF6.out.cell 0
        have b1 := HF6.out.cell 1
        have b2 := HF6.out.cell 2
        have f0 := HF6.out.free 0
        have f1 := HF6.out.free 1
        have f2 := HF6.out.free 2
        simp only [List.getElem?_toArray, List.getElem?_cons_zero, List.getElem?_cons_succ] at b0 b1 b2
        have c0 := HV6.out.cell 0
        have c1 := HV6.out.cell 1
        have c2 := HV6.out.cell 2
        simp only [List.getElem?_toArray, List.getElem?_cons_zero, List.getElem?_cons_succ] at c0 c1 c2
        have hrt6 : w6.rangeAt b (o + 9) [y0, y1, y2, y3, y4, y5, y6, y7, y8] := fun j v hv => (hE6.cell (p := ⟨b, o + 9 + j, none⟩) HB.out).trans (HRT.out j v hv)
        have z0 := hrt6 0 _ rfl
        have z1 := hrt6 1 _ rfl
        have z2 := hrt6 2 _ rfl
        have z3 := hrt6 3 _ rfl
        have z4 := hrt6 4 _ rfl
        have z5 := hrt6 5 _ rfl
        have z6 := hrt6 6 _ rfl
        have z7 := hrt6 7 _ rfl
        have z8 := hrt6 8 _ rfl
        clear hE6 d0 hrt6
        cases PB with
        | false =>
          have HR := hide (show R = ((19, a), m1) by rw [HR1.out, HS3.out, if_neg (by decide)])
          go_wp2_with fail
          refine (with_any 0 0 m1 19 a _).mono ?_
          rintro e w5 ⟨rfl, hE5⟩
          have HF5 := hide (HF6.out.ext hE5)
          have HV5 := hide (HV6.out.ext hE5)
          have HT5 := hide (HT6.out.ext hE5)
          have HE5 := hide (HE6.out.trans' hE5)
          have b0 := HF5.out.cell 0
          have b1 := HF5.out.cell 1
          have b2 := HF5.out.cell 2
          have f0 := HF5.out.free 0
          have f1 := HF5.out.free 1
          have f2 := HF5.out.free 2
          simp only [List.getElem?_toArray, List.getElem?_cons_zero, List.getElem?_cons_succ] at b0 b1 b2
          unfold wrV
          clear hE5
          go_wp2_with fail
          exact wr_ret (r := ((19, a), m1)) (g := gf) (((HF5.out.set_ 0 _).set_ 1 _).set_ 2 _) rfl rfl rfl ⟨by rw [HR.out], ((HE5.out.setCell HLO.out _).setCell HLO.out _).setCell HLO.out _⟩
        | true =>
        have HS4 := hide (HS3.out.trans (if_pos rfl))
        by_cases e1 : mo < 0
        · have HR := hide (show R = ((20, a), m1) by rw [HR1.out, HS4.out, if_pos (.inl e1)])
          go_wp2_with fail
          refine (with_any 0 0 m1 20 a _).mono ?_
          rintro e w5 ⟨rfl, hE5⟩
          have HF5 := hide (HF6.out.ext hE5)
          have HV5 := hide (HV6.out.ext hE5)
          have HT5 := hide (HT6.out.ext hE5)
          have HE5 := hide (HE6.out.trans' hE5)
          have b0 := HF5.out.cell 0
          have b1 := HF5.out.cell 1
          have b2 := HF5.out.cell 2
          have f0 := HF5.out.free 0
          have f1 := HF5.out.free 1
          have f2 := HF5.out.free 2
          simp only [List.getElem?_toArray, List.getElem?_cons_zero, List.getElem?_cons_succ] at b0 b1 b2
          unfold wrV
          clear hE5
          go_wp2_with fail
          exact wr_ret (r := ((20, a), m1)) (g := gf) (((HF5.out.set_ 0 _).set_ 1 _).set_ 2 _) rfl rfl rfl ⟨by rw [HR.out], ((HE5.out.setCell HLO.out _).setCell HLO.out _).setCell HLO.out _⟩
        by_cases e2 : 1024 < mo
        · have HR := hide (show R = ((20, a), m1) by rw [HR1.out, HS4.out, if_pos (.inr e2)])
          go_wp2_with fail
          refine (with_any 0 0 m1 20 a _).mono ?_
          rintro e w5 ⟨rfl, hE5⟩
          have HF5 := hide (HF6.out.ext hE5)
          have HV5 := hide (HV6.out.ext hE5)
          have HT5 := hide (HT6.out.ext hE5)
          have HE5 := hide (HE6.out.trans' hE5)
          have b0 := HF5.out.cell 0
          have b1 := HF5.out.cell 1
          have b2 := HF5.out.cell 2
          have f0 := HF5.out.free 0
          have f1 := HF5.out.free 1
          have f2 := HF5.out.free 2
          simp only [List.getElem?_toArray, List.getElem?_cons_zero, List.getElem?_cons_succ] at b0 b1 b2
          unfold wrV
          clear hE5
          go_wp2_with fail
          exact wr_ret (r := ((20, a), m1)) (g := gf) (((HF5.out.set_ 0 _).set_ 1 _).set_ 2 _) rfl rfl rfl ⟨by rw [HR.out], ((HE5.out.setCell HLO.out _).setCell HLO.out _).setCell HLO.out _⟩
        have HR := hide (show R = CK by rw [HR1.out, HS4.out, if_neg (fun hh => hh.elim e1 e2)])
        clear HR1 HS4 HS3
        go_upto_region 30 with fail
        go_still_tail 8, (by kernel_rfl)
        change wpList _ _ _ _ _ w6.drew
        go_wp2_with fail
        refine (HCHK.out _ HE6.out.drew').mono ?_
        rintro e w8 ⟨rfl, hE8'⟩
        have hE8 := ((Ext.rfl' w6).drew').trans' hE8'
        obtain ⟨⟨D1, D2⟩, D3⟩ := CK
        have HF8 := hide (HF6.out.ext hE8)
        have HV8 := hide (HV6.out.ext hE8)
        have HT8 := hide (HT6.out.ext hE8)
        have HE8 := hide (HE6.out.trans' hE8)
        have b0 := HF8.out.cell 0
        have b1 := HF8.out.cell 1
        have b2 := HF8.out.cell 2
        have f0 := HF8.out.free 0
        have f1 := HF8.out.free 1
        have f2 := HF8.out.free 2
        simp only [List.getElem?_toArray, List.getElem?_cons_zero, List.getElem?_cons_succ] at b0 b1 b2
        unfold wrV
        clear hE8
        go_wp2_with fail
        exact wr_ret (r := ((D1, D2), D3)) (g := gf) (((HF8.out.set_ 0 _).set_ 1 _).set_ 2 _) rfl rfl rfl ⟨by rw [HR.out], ((HE8.out.setCell HLO.out _).setCell HLO.out _).setCell HLO.out _⟩
      · have hq0 : ¬ nm.toList = [] := nil_str hnm0
        have HR := hide (show R = ((19, a), m1) by rw [HR1.out, HS2.out, decide_eq_false hnm0, Bool.false_and, if_neg (fun hh => by cases hh.2)])
        clear hpl hchk hvl hr1 hrt hb hc r0 hpa hs hsb hp3 hvs hlb hcc htt htl hpe HS2 HS1 HR1 hnm HP HSZ HSUB
        go_wp2_with fail
        refine (with_any 0 0 m1 19 a _).mono ?_
        rintro e w5 ⟨rfl, hE5⟩
        have HF5 := hide (HF3.out.ext hE5)
        have HV5 := hide (HV3.out.ext hE5)
        have HT5 := hide (HT3.out.ext hE5)
        have HE5 := hide (HE3.out.trans' hE5)
        have b0 := HF5.out.cell 0
        have b1 := HF5.out.cell 1
        have b2 := HF5.out.cell 2
        have f0 := HF5.out.free 0
        have f1 := HF5.out.free 1
        have f2 := HF5.out.free 2
        simp only [List.getElem?_toArray, List.getElem?_cons_zero, List.getElem?_cons_succ] at b0 b1 b2
        unfold wrV
        clear hE5
        go_wp2_with fail
        exact wr_ret (r := ((19, a), m1)) (g := gf) (((HF5.out.set_ 0 _).set_ 1 _).set_ 2 _) rfl rfl rfl ⟨by rw [HR.out], ((HE5.out.setCell HLO.out _).setCell HLO.out _).setCell HLO.out _⟩
    · have HR := hide (show R = ((19, a), m1) by rw [HR1.out, HS1.out, if_neg (fun hh => hn hh.1)])
      have i0 : ((n : Int) != 1) = true := by simp; omega
      go_wp2_with fail
      refine (with_any 0 0 m1 19 a _).mono ?_
      rintro e w5 ⟨rfl, hE5⟩
      have HF5 := hide (HF3.out.ext hE5)
      have HV5 := hide (HV3.out.ext hE5)
      have HT5 := hide (HT3.out.ext hE5)
      have HE5 := hide (HE3.out.trans' hE5)
      have b0 := HF5.out.cell 0
      have b1 := HF5.out.cell 1
      have b2 := HF5.out.cell 2
      have f0 := HF5.out.free 0
      have f1 := HF5.out.free 1
      have f2 := HF5.out.free 2
      simp only [List.getElem?_toArray, List.getElem?_cons_zero, List.getElem?_cons_succ] at b0 b1 b2
      unfold wrV
      clear hE5
      go_wp2_with fail
      exact wr_ret (r := ((19, a), m1)) (g := gf) (((HF5.out.set_ 0 _).set_ 1 _).set_ 2 _) rfl rfl rfl ⟨by rw [HR.out], ((HE5.out.setCell HLO.out _).setCell HLO.out _).setCell HLO.out _⟩
  obtain rfl : kd = 1 := by omega
  have HR := hide (show R = ((0, 0), m1) by rw [HX5.out, if_neg (by decide), if_neg (by decide), if_neg (by decide), if_neg (by decide), if_neg (by decide)])
  go_wp2_with fail
  exact wr_ret (r := ((0, 0), m1)) (g := gf) (((HF3.out.set_ 0 _).set_ 1 _).set_ 2 _) rfl rfl rfl ⟨by rw [HR.out], ((HE3.out.setCell HLO.out _).setCell HLO.out _).setCell HLO.out _⟩
end Go.Proofs.Ytanpljalbijfkaa
