/- kinds: the checker's check, and Right, walked. (Printed by wip/gen_kinzc.py.) -/
import Derived.Test.YtanpljalbijfkaaKinYs
namespace Go.Proofs.Ytanpljalbijfkaa
open Go.RowKit

def headR (kd a lo hi mo s1 d m1 : Int) (OB RB : Bool) (EN : Flt) (SUB : Wr) : Wr :=
  if 24 < d then ((6, a), m1) else if 512 < m1 then ((8, a), m1) else if kd < 1 ∨ 9 < kd then ((14, a), m1) else if OB = false then ((19, a), m1) else
  if kd = 2 then (if hi < lo then ((20, a), m1) else ((0, 0), m1)) else if kd = 3 then (if mo < 0 ∨ 4096 < mo then ((20, a), m1) else ((0, 0), m1)) else
  if kd = 4 then (EN, m1) else if kd = 5 ∨ kd = 6 ∨ kd = 7 ∨ kd = 8 then SUB else if kd = 9 then (if RB = true then ((0, 0), m1) else ((9, s1), m1)) else ((0, 0), m1)

set_option maxRecDepth 100000 in
set_option maxHeartbeats 8000000 in
theorem check_abs (kd a lo hi mo s1 d m m1 : Int) (s0 : ByteArray) (nn cn n cp : Nat) (An Ap : Option Addr) (gc : Nat) (w : World) (OB RB : Bool) (EN : Flt) (SUB : Wr) (hm1 : m1 = IntKind.i64.wrap (m + 1)) (hC : Blk w gc 44 #[.int .i64 m])
    (hown : ∀ w1, Grw gc w w1 → Calls Try.prog 31 #[.agg #[.int .i64 kd, .int .i64 a, .int .i64 lo, .int .i64 hi, .int .i64 mo, .slice An nn cn, .slice Ap n cp, .string s0, .int .i64 s1]] w1 (fun e w' => e = .returned (.bool OB) ∧ Ext w1 w'))
    (henum : kd = 4 → ∀ w1, Grw gc w w1 → Calls Try.prog 32 #[.agg #[.int .i64 kd, .int .i64 a, .int .i64 lo, .int .i64 hi, .int .i64 mo, .slice An nn cn, .slice Ap n cp, .string s0, .int .i64 s1]] w1 (fun e w' => e = .returned (fltV EN) ∧ Ext w1 w'))
    (hone : kd = 5 ∨ kd = 6 → ∀ w1, Grw gc w w1 → Blk w1 gc 44 #[.int .i64 m1] → Calls Try.prog 33 #[.pointer (some ⟨gc, 0, none⟩), .agg #[.int .i64 kd, .int .i64 a, .int .i64 lo, .int .i64 hi, .int .i64 mo, .slice An nn cn, .slice Ap n cp, .string s0, .int .i64 s1], .int .i64 d] w1 (ChkPost SUB gc w1))
    (hparts : kd = 7 ∨ kd = 8 → ∀ w1, Grw gc w w1 → Blk w1 gc 44 #[.int .i64 m1] → Calls Try.prog 34 #[.pointer (some ⟨gc, 0, none⟩), .agg #[.int .i64 kd, .int .i64 a, .int .i64 lo, .int .i64 hi, .int .i64 mo, .slice An nn cn, .slice Ap n cp, .string s0, .int .i64 s1], .int .i64 d] w1 (ChkPost SUB gc w1))
    (hright : ∀ w1 : World, Calls Try.prog 35 #[.string s0] w1 (fun e w' => e = .returned (.bool RB) ∧ w1 = w')) :
    Calls Try.prog 17 #[.pointer (some ⟨gc, 0, none⟩), .agg #[.int .i64 kd, .int .i64 a, .int .i64 lo, .int .i64 hi, .int .i64 mo, .slice An nn cn, .slice Ap n cp, .string s0, .int .i64 s1], .int .i64 d] w (ChkPost (headR kd a lo hi mo s1 d m1 OB RB EN SUB) gc w) := by
  have hx : headR kd a lo hi mo s1 d m1 OB RB EN SUB = if 24 < d then ((6, a), m1) else if 512 < m1 then ((8, a), m1) else if kd < 1 ∨ 9 < kd then ((14, a), m1) else if OB = false then ((19, a), m1) else
    if kd = 2 then (if hi < lo then ((20, a), m1) else ((0, 0), m1)) else if kd = 3 then (if mo < 0 ∨ 4096 < mo then ((20, a), m1) else ((0, 0), m1)) else
    if kd = 4 then (EN, m1) else if kd = 5 ∨ kd = 6 ∨ kd = 7 ∨ kd = 8 then SUB else if kd = 9 then (if RB = true then ((0, 0), m1) else ((9, s1), m1)) else ((0, 0), m1) := rfl
  generalize headR kd a lo hi mo s1 d m1 OB RB EN SUB = R at hx ⊢
  obtain ⟨w0, hw0⟩ : ∃ x, x = (w.alloc (.cells #[.int .i64 kd, .int .i64 a, .int .i64 lo, .int .i64 hi, .int .i64 mo, .slice An nn cn, .slice Ap n cp, .string s0, .int .i64 s1] 27)).alloc (.cells #[.int .i64 0, .int .i64 0] 32) := ⟨_, rfl⟩
  have hT : Blk w0 w.heap.size 27 #[.int .i64 kd, .int .i64 a, .int .i64 lo, .int .i64 hi, .int .i64 mo, .slice An nn cn, .slice Ap n cp, .string s0, .int .i64 s1] := by rw [hw0]; exact (Blk.new _ _ _).alloc _
  have hF : Blk w0 (w.heap.size + 1) 32 #[.int .i64 0, .int .i64 0] := by
    rw [hw0]; have := Blk.new (w.alloc (.cells #[.int .i64 kd, .int .i64 a, .int .i64 lo, .int .i64 hi, .int .i64 mo, .slice An nn cn, .slice Ap n cp, .string s0, .int .i64 s1] 27)) 32 #[.int .i64 0, .int .i64 0]; simpa only [World.size_alloc] using this
  have hE : Ext w w0 := by rw [hw0]; exact ((Ext.rfl' w).alloc (Nat.le_refl _) _).alloc (by simp only [World.size_alloc]; omega) _
  have hC0 : Blk w0 gc 44 #[.int .i64 m] := hC.ext hE
  have hgl := hC.lt
  have n1 : w.heap.size + 1 ≠ gc := by omega
  have n2 : w.heap.size ≠ gc := by omega
  have hlo : w.heap.size ≤ w.heap.size + 1 := Nat.le_succ _
  obtain ⟨w1, hw1⟩ : ∃ x, x = w0.setCell ⟨gc, 0, none⟩ (.int .i64 m1) := ⟨_, rfl⟩
  have hT1 : Blk w1 w.heap.size 27 #[.int .i64 kd, .int .i64 a, .int .i64 lo, .int .i64 hi, .int .i64 mo, .slice An nn cn, .slice Ap n cp, .string s0, .int .i64 s1] := by rw [hw1]; exact hT.far n2 _
  have hF1 : Blk w1 (w.heap.size + 1) 32 #[.int .i64 0, .int .i64 0] := by rw [hw1]; exact hF.far n1 _
  have hC1 : Blk w1 gc 44 #[.int .i64 m1] := by rw [hw1]; exact hC0.set_ 0 _
  have hE1 : Grw gc w w1 := by rw [hw1]; exact (Grw.of_ext hE).set (.inr rfl) _
  obtain ⟨gf, hgf⟩ : ∃ g, g = w.heap.size + 1 := ⟨_, rfl⟩
  obtain ⟨gt, hgt⟩ : ∃ g, g = w.heap.size := ⟨_, rfl⟩
  rw [← hgf] at hF1 hlo n1
  rw [← hgt] at hT1
  have HX := hide hx
  have HW := hide hw0
  have HW1 := hide hw1
  have HGF := hide hgf
  have HGT := hide hgt
  have HF1 := hide hF1
  have HE1 := hide hE1
  have HC1 := hide hC1
  have HT1 := hide hT1
  have HN := hide n1
  have HLO := hide hlo
  have HM := hide (show m1 = wrap64 (m + 1) by rw [hm1]; exact IntWalk.i64_left _)
  have HOWN := hide hown
  have HENUM := hide henum
  have HONE := hide hone
  have HPARTS := hide hparts
  have HRIGHT := hide hright
  have c0 := hC0.cell 0
  have cf := hC0.free 0
  simp only [List.getElem?_toArray, List.getElem?_cons_zero, List.getElem?_cons_succ] at c0
  clear hx hw0 hw1 hF hF1 hE hE1 hC0 hC1 hT hT1 n1 n2 hlo hgf hgt hgl hC hown henum hone hparts hright hm1
  go_enter Try.func17, Try.ntmps17
  go_upto_region 1 with fail
  rw [← HW.out, ← HGF.out, ← HGT.out]
  go_upto_region 2 with fail
  rw [← HM.out, ← HW1.out]
  clear c0 cf
  have t0 := HT1.out.cell 0
  have t1 := HT1.out.cell 1
  have t2 := HT1.out.cell 2
  have t3 := HT1.out.cell 3
  have t4 := HT1.out.cell 4
  have t5 := HT1.out.cell 5
  have t6 := HT1.out.cell 6
  have t7 := HT1.out.cell 7
  have t8 := HT1.out.cell 8
  simp only [List.getElem?_toArray, List.getElem?_cons_zero, List.getElem?_cons_succ] at t0 t1 t2 t3 t4 t5 t6 t7 t8
  have b0 := HF1.out.cell 0
  have b1 := HF1.out.cell 1
  have f0 := HF1.out.free 0
  have f1 := HF1.out.free 1
  simp only [List.getElem?_toArray, List.getElem?_cons_zero, List.getElem?_cons_succ] at b0 b1
  have c0 := HC1.out.cell 0
  simp only [List.getElem?_toArray, List.getElem?_cons_zero, List.getElem?_cons_succ] at c0
  by_cases c1 : 24 < d
  · have HR := hide (show R = ((6, a), m1) by rw [HX.out, if_pos c1])
    go_wp2_with fail
    refine (bad_any 6 a _).mono ?_
    rintro e w5 ⟨rfl, hE5⟩
    have HF5 := hide (HF1.out.ext hE5)
    have HE5 := hide (HE1.out.ext hE5)
    have HC5 := hide (HC1.out.ext hE5)
    have b0 := HF5.out.cell 0
    have b1 := HF5.out.cell 1
    have f0 := HF5.out.free 0
    have f1 := HF5.out.free 1
    simp only [List.getElem?_toArray, List.getElem?_cons_zero, List.getElem?_cons_succ] at b0 b1
    unfold fltV
    clear hE5
    go_wp2_with fail
    exact fault_ret (f := (6, a)) (g := gf) ((HF5.out.set_ 0 _).set_ 1 _) rfl rfl rfl ⟨by rw [HR.out], (HE5.out.set (.inl HLO.out) _).set (.inl HLO.out) _, by rw [HR.out]; exact (HC5.out.far HN.out.symm _).far HN.out.symm _⟩
  have HX2 := hide (HX.out.trans (if_neg c1))
  by_cases c2 : 512 < m1
  · have HR := hide (show R = ((8, a), m1) by rw [HX2.out, if_pos c2])
    go_wp2_with fail
    refine (bad_any 8 a _).mono ?_
    rintro e w5 ⟨rfl, hE5⟩
    have HF5 := hide (HF1.out.ext hE5)
    have HE5 := hide (HE1.out.ext hE5)
    have HC5 := hide (HC1.out.ext hE5)
    have b0 := HF5.out.cell 0
    have b1 := HF5.out.cell 1
    have f0 := HF5.out.free 0
    have f1 := HF5.out.free 1
    simp only [List.getElem?_toArray, List.getElem?_cons_zero, List.getElem?_cons_succ] at b0 b1
    unfold fltV
    clear hE5
    go_wp2_with fail
    exact fault_ret (f := (8, a)) (g := gf) ((HF5.out.set_ 0 _).set_ 1 _) rfl rfl rfl ⟨by rw [HR.out], (HE5.out.set (.inl HLO.out) _).set (.inl HLO.out) _, by rw [HR.out]; exact (HC5.out.far HN.out.symm _).far HN.out.symm _⟩
  have HX3 := hide (HX2.out.trans (if_neg c2))
  by_cases c3 : kd < 1
  · have HR := hide (show R = ((14, a), m1) by rw [HX3.out, if_pos (.inl c3)])
    go_wp2_with fail
    refine (bad_any 14 a _).mono ?_
    rintro e w5 ⟨rfl, hE5⟩
    have HF5 := hide (HF1.out.ext hE5)
    have HE5 := hide (HE1.out.ext hE5)
    have HC5 := hide (HC1.out.ext hE5)
    have b0 := HF5.out.cell 0
    have b1 := HF5.out.cell 1
    have f0 := HF5.out.free 0
    have f1 := HF5.out.free 1
    simp only [List.getElem?_toArray, List.getElem?_cons_zero, List.getElem?_cons_succ] at b0 b1
    unfold fltV
    clear hE5
    go_wp2_with fail
    exact fault_ret (f := (14, a)) (g := gf) ((HF5.out.set_ 0 _).set_ 1 _) rfl rfl rfl ⟨by rw [HR.out], (HE5.out.set (.inl HLO.out) _).set (.inl HLO.out) _, by rw [HR.out]; exact (HC5.out.far HN.out.symm _).far HN.out.symm _⟩
  by_cases c4 : 9 < kd
  · have HR := hide (show R = ((14, a), m1) by rw [HX3.out, if_pos (.inr c4)])
    go_wp2_with fail
    refine (bad_any 14 a _).mono ?_
    rintro e w5 ⟨rfl, hE5⟩
    have HF5 := hide (HF1.out.ext hE5)
    have HE5 := hide (HE1.out.ext hE5)
    have HC5 := hide (HC1.out.ext hE5)
    have b0 := HF5.out.cell 0
    have b1 := HF5.out.cell 1
    have f0 := HF5.out.free 0
    have f1 := HF5.out.free 1
    simp only [List.getElem?_toArray, List.getElem?_cons_zero, List.getElem?_cons_succ] at b0 b1
    unfold fltV
    clear hE5
    go_wp2_with fail
    exact fault_ret (f := (14, a)) (g := gf) ((HF5.out.set_ 0 _).set_ 1 _) rfl rfl rfl ⟨by rw [HR.out], (HE5.out.set (.inl HLO.out) _).set (.inl HLO.out) _, by rw [HR.out]; exact (HC5.out.far HN.out.symm _).far HN.out.symm _⟩
  have HX4 := hide (HX3.out.trans (if_neg (fun hh => hh.elim c3 c4)))
  clear HX HX2 HX3
  go_upto_region 8 with fail
  clear c0
  go_wp2_with fail
  refine (HOWN.out _ HE1.out).mono ?_
  rintro e w3 ⟨rfl, hE3⟩
  have HF3 := hide (HF1.out.ext hE3)
  have HE3 := hide (HE1.out.ext hE3)
  have HC3 := hide (HC1.out.ext hE3)
  have HT3 := hide (HT1.out.ext hE3)
  have t0 := HT3.out.cell 0
  have t1 := HT3.out.cell 1
  have t2 := HT3.out.cell 2
  have t3 := HT3.out.cell 3
  have t4 := HT3.out.cell 4
  have t5 := HT3.out.cell 5
  have t6 := HT3.out.cell 6
  have t7 := HT3.out.cell 7
  have t8 := HT3.out.cell 8
  simp only [List.getElem?_toArray, List.getElem?_cons_zero, List.getElem?_cons_succ] at t0 t1 t2 t3 t4 t5 t6 t7 t8
  have b0 := HF3.out.cell 0
  have b1 := HF3.out.cell 1
  have f0 := HF3.out.free 0
  have f1 := HF3.out.free 1
  simp only [List.getElem?_toArray, List.getElem?_cons_zero, List.getElem?_cons_succ] at b0 b1
  clear hE3
  cases OB with
  | false =>
    have HR := hide (show R = ((19, a), m1) by rw [HX4.out, if_pos rfl])
    go_wp2_with fail
    refine (bad_any 19 a _).mono ?_
    rintro e w5 ⟨rfl, hE5⟩
    have HF5 := hide (HF3.out.ext hE5)
    have HE5 := hide (HE3.out.ext hE5)
    have HC5 := hide (HC3.out.ext hE5)
    have b0 := HF5.out.cell 0
    have b1 := HF5.out.cell 1
    have f0 := HF5.out.free 0
    have f1 := HF5.out.free 1
    simp only [List.getElem?_toArray, List.getElem?_cons_zero, List.getElem?_cons_succ] at b0 b1
    unfold fltV
    clear hE5
    go_wp2_with fail
    exact fault_ret (f := (19, a)) (g := gf) ((HF5.out.set_ 0 _).set_ 1 _) rfl rfl rfl ⟨by rw [HR.out], (HE5.out.set (.inl HLO.out) _).set (.inl HLO.out) _, by rw [HR.out]; exact (HC5.out.far HN.out.symm _).far HN.out.symm _⟩
  | true =>
  have HX5 := hide (HX4.out.trans (if_neg (by decide)))
  clear HX4
  go_upto_region 10 with fail
  by_cases k2 : kd = 2
  · subst k2
    by_cases e1 : hi < lo
    · have HR := hide (show R = ((20, a), m1) by rw [HX5.out, if_pos rfl, if_pos e1])
      go_wp2_with fail
      refine (bad_any 20 a _).mono ?_
      rintro e w5 ⟨rfl, hE5⟩
      have HF5 := hide (HF3.out.ext hE5)
      have HE5 := hide (HE3.out.ext hE5)
      have HC5 := hide (HC3.out.ext hE5)
      have b0 := HF5.out.cell 0
      have b1 := HF5.out.cell 1
      have f0 := HF5.out.free 0
      have f1 := HF5.out.free 1
      simp only [List.getElem?_toArray, List.getElem?_cons_zero, List.getElem?_cons_succ] at b0 b1
      unfold fltV
      clear hE5
      go_wp2_with fail
      exact fault_ret (f := (20, a)) (g := gf) ((HF5.out.set_ 0 _).set_ 1 _) rfl rfl rfl ⟨by rw [HR.out], (HE5.out.set (.inl HLO.out) _).set (.inl HLO.out) _, by rw [HR.out]; exact (HC5.out.far HN.out.symm _).far HN.out.symm _⟩
    · have HR := hide (show R = ((0, 0), m1) by rw [HX5.out, if_pos rfl, if_neg e1])
      go_wp2_with fail
      exact fault_ret (f := (0, 0)) (g := gf) ((HF3.out.set_ 0 _).set_ 1 _) rfl rfl rfl ⟨by rw [HR.out], (HE3.out.set (.inl HLO.out) _).set (.inl HLO.out) _, by rw [HR.out]; exact (HC3.out.far HN.out.symm _).far HN.out.symm _⟩
  by_cases k3 : kd = 3
  · subst k3
    by_cases e1 : mo < 0
    · have HR := hide (show R = ((20, a), m1) by rw [HX5.out, if_neg (by decide), if_pos rfl, if_pos (.inl e1)])
      go_wp2_with fail
      refine (bad_any 20 a _).mono ?_
      rintro e w5 ⟨rfl, hE5⟩
      have HF5 := hide (HF3.out.ext hE5)
      have HE5 := hide (HE3.out.ext hE5)
      have HC5 := hide (HC3.out.ext hE5)
      have b0 := HF5.out.cell 0
      have b1 := HF5.out.cell 1
      have f0 := HF5.out.free 0
      have f1 := HF5.out.free 1
      simp only [List.getElem?_toArray, List.getElem?_cons_zero, List.getElem?_cons_succ] at b0 b1
      unfold fltV
      clear hE5
      go_wp2_with fail
      exact fault_ret (f := (20, a)) (g := gf) ((HF5.out.set_ 0 _).set_ 1 _) rfl rfl rfl ⟨by rw [HR.out], (HE5.out.set (.inl HLO.out) _).set (.inl HLO.out) _, by rw [HR.out]; exact (HC5.out.far HN.out.symm _).far HN.out.symm _⟩
    by_cases e2 : 4096 < mo
    · have HR := hide (show R = ((20, a), m1) by rw [HX5.out, if_neg (by decide), if_pos rfl, if_pos (.inr e2)])
      go_wp2_with fail
      refine (bad_any 20 a _).mono ?_
      rintro e w5 ⟨rfl, hE5⟩
      have HF5 := hide (HF3.out.ext hE5)
      have HE5 := hide (HE3.out.ext hE5)
      have HC5 := hide (HC3.out.ext hE5)
      have b0 := HF5.out.cell 0
      have b1 := HF5.out.cell 1
      have f0 := HF5.out.free 0
      have f1 := HF5.out.free 1
      simp only [List.getElem?_toArray, List.getElem?_cons_zero, List.getElem?_cons_succ] at b0 b1
      unfold fltV
      clear hE5
      go_wp2_with fail
      exact fault_ret (f := (20, a)) (g := gf) ((HF5.out.set_ 0 _).set_ 1 _) rfl rfl rfl ⟨by rw [HR.out], (HE5.out.set (.inl HLO.out) _).set (.inl HLO.out) _, by rw [HR.out]; exact (HC5.out.far HN.out.symm _).far HN.out.symm _⟩
    · have HR := hide (show R = ((0, 0), m1) by rw [HX5.out, if_neg (by decide), if_pos rfl, if_neg (fun hh => hh.elim e1 e2)])
      go_wp2_with fail
      exact fault_ret (f := (0, 0)) (g := gf) ((HF3.out.set_ 0 _).set_ 1 _) rfl rfl rfl ⟨by rw [HR.out], (HE3.out.set (.inl HLO.out) _).set (.inl HLO.out) _, by rw [HR.out]; exact (HC3.out.far HN.out.symm _).far HN.out.symm _⟩
  by_cases k4 : kd = 4
  · subst k4
    have HR := hide (show R = (EN, m1) by rw [HX5.out, if_neg (by decide), if_neg (by decide), if_pos rfl])
    obtain ⟨D1, D2⟩ := EN
    go_upto_region 18 with fail
    go_wp2_with fail
    refine (HENUM.out (by trivial) _ HE3.out).mono ?_
    rintro e w8 ⟨rfl, hE8⟩
    have HF8 := hide (HF3.out.ext hE8)
    have HE8 := hide (HE3.out.ext hE8)
    have HC8 := hide (HC3.out.ext hE8)
    have b0 := HF8.out.cell 0
    have b1 := HF8.out.cell 1
    have f0 := HF8.out.free 0
    have f1 := HF8.out.free 1
    simp only [List.getElem?_toArray, List.getElem?_cons_zero, List.getElem?_cons_succ] at b0 b1
    unfold fltV
    clear hE8
    go_wp2_with fail
    exact fault_ret (f := (D1, D2)) (g := gf) ((HF8.out.set_ 0 _).set_ 1 _) rfl rfl rfl ⟨by rw [HR.out], (HE8.out.set (.inl HLO.out) _).set (.inl HLO.out) _, by rw [HR.out]; exact (HC8.out.far HN.out.symm _).far HN.out.symm _⟩
  by_cases k5 : kd = 5
  · subst k5
    have HR := hide (show R = SUB by rw [HX5.out, if_neg (by decide), if_neg (by decide), if_neg (by decide), if_pos (by decide)])
    go_wp2_with fail
    refine (HONE.out (by decide) _ HE3.out HC3.out).mono ?_
    rintro e w8 ⟨rfl, hE8, hC8⟩
    obtain ⟨⟨D1, D2⟩, D3⟩ := SUB
    have HF8 := hide (hE8.blk HF3.out HN.out)
    have HE8 := hide (HE3.out.trans hE8)
    have HC8 := hide hC8
    have b0 := HF8.out.cell 0
    have b1 := HF8.out.cell 1
    have f0 := HF8.out.free 0
    have f1 := HF8.out.free 1
    simp only [List.getElem?_toArray, List.getElem?_cons_zero, List.getElem?_cons_succ] at b0 b1
    unfold fltV
    clear hE8 hC8
    go_wp2_with fail
    exact fault_ret (f := (D1, D2)) (g := gf) ((HF8.out.set_ 0 _).set_ 1 _) rfl rfl rfl ⟨by rw [HR.out], (HE8.out.set (.inl HLO.out) _).set (.inl HLO.out) _, by rw [HR.out]; exact (HC8.out.far HN.out.symm _).far HN.out.symm _⟩
  by_cases k6 : kd = 6
  · subst k6
    have HR := hide (show R = SUB by rw [HX5.out, if_neg (by decide), if_neg (by decide), if_neg (by decide), if_pos (by decide)])
    go_wp2_with fail
    refine (HONE.out (by decide) _ HE3.out HC3.out).mono ?_
    rintro e w8 ⟨rfl, hE8, hC8⟩
    obtain ⟨⟨D1, D2⟩, D3⟩ := SUB
    have HF8 := hide (hE8.blk HF3.out HN.out)
    have HE8 := hide (HE3.out.trans hE8)
    have HC8 := hide hC8
    have b0 := HF8.out.cell 0
    have b1 := HF8.out.cell 1
    have f0 := HF8.out.free 0
    have f1 := HF8.out.free 1
    simp only [List.getElem?_toArray, List.getElem?_cons_zero, List.getElem?_cons_succ] at b0 b1
    unfold fltV
    clear hE8 hC8
    go_wp2_with fail
    exact fault_ret (f := (D1, D2)) (g := gf) ((HF8.out.set_ 0 _).set_ 1 _) rfl rfl rfl ⟨by rw [HR.out], (HE8.out.set (.inl HLO.out) _).set (.inl HLO.out) _, by rw [HR.out]; exact (HC8.out.far HN.out.symm _).far HN.out.symm _⟩
  by_cases k7 : kd = 7
  · subst k7
    have HR := hide (show R = SUB by rw [HX5.out, if_neg (by decide), if_neg (by decide), if_neg (by decide), if_pos (by decide)])
    go_wp2_with fail
    refine (HPARTS.out (by decide) _ HE3.out HC3.out).mono ?_
    rintro e w8 ⟨rfl, hE8, hC8⟩
    obtain ⟨⟨D1, D2⟩, D3⟩ := SUB
    have HF8 := hide (hE8.blk HF3.out HN.out)
    have HE8 := hide (HE3.out.trans hE8)
    have HC8 := hide hC8
    have b0 := HF8.out.cell 0
    have b1 := HF8.out.cell 1
    have f0 := HF8.out.free 0
    have f1 := HF8.out.free 1
    simp only [List.getElem?_toArray, List.getElem?_cons_zero, List.getElem?_cons_succ] at b0 b1
    unfold fltV
    clear hE8 hC8
    go_wp2_with fail
    exact fault_ret (f := (D1, D2)) (g := gf) ((HF8.out.set_ 0 _).set_ 1 _) rfl rfl rfl ⟨by rw [HR.out], (HE8.out.set (.inl HLO.out) _).set (.inl HLO.out) _, by rw [HR.out]; exact (HC8.out.far HN.out.symm _).far HN.out.symm _⟩
  by_cases k8 : kd = 8
  · subst k8
    have HR := hide (show R = SUB by rw [HX5.out, if_neg (by decide), if_neg (by decide), if_neg (by decide), if_pos (by decide)])
    go_wp2_with fail
    refine (HPARTS.out (by decide) _ HE3.out HC3.out).mono ?_
    rintro e w8 ⟨rfl, hE8, hC8⟩
    obtain ⟨⟨D1, D2⟩, D3⟩ := SUB
    have HF8 := hide (hE8.blk HF3.out HN.out)
    have HE8 := hide (HE3.out.trans hE8)
    have HC8 := hide hC8
    have b0 := HF8.out.cell 0
    have b1 := HF8.out.cell 1
    have f0 := HF8.out.free 0
    have f1 := HF8.out.free 1
    simp only [List.getElem?_toArray, List.getElem?_cons_zero, List.getElem?_cons_succ] at b0 b1
    unfold fltV
    clear hE8 hC8
    go_wp2_with fail
    exact fault_ret (f := (D1, D2)) (g := gf) ((HF8.out.set_ 0 _).set_ 1 _) rfl rfl rfl ⟨by rw [HR.out], (HE8.out.set (.inl HLO.out) _).set (.inl HLO.out) _, by rw [HR.out]; exact (HC8.out.far HN.out.symm _).far HN.out.symm _⟩
  by_cases k9 : kd = 9
  · subst k9
    cases RB with
    | true =>
      have HR := hide (show R = ((0, 0), m1) by rw [HX5.out, if_neg (by decide), if_neg (by decide), if_neg (by decide), if_neg (by decide), if_pos rfl, if_pos rfl])
      go_wp2_with fail
      refine (HRIGHT.out _).mono ?_
      rintro e w8 ⟨rfl, rfl⟩
      go_wp2_with fail
      exact fault_ret (f := (0, 0)) (g := gf) ((HF3.out.set_ 0 _).set_ 1 _) rfl rfl rfl ⟨by rw [HR.out], (HE3.out.set (.inl HLO.out) _).set (.inl HLO.out) _, by rw [HR.out]; exact (HC3.out.far HN.out.symm _).far HN.out.symm _⟩
    | false =>
      have HR := hide (show R = ((9, s1), m1) by rw [HX5.out, if_neg (by decide), if_neg (by decide), if_neg (by decide), if_neg (by decide), if_pos rfl, if_neg (by decide)])
      go_wp2_with fail
      refine (HRIGHT.out _).mono ?_
      rintro e w8 ⟨rfl, rfl⟩
      go_wp2_with fail
      refine (bad_any 9 s1 _).mono ?_
      rintro e w5 ⟨rfl, hE5⟩
      have HF5 := hide (HF3.out.ext hE5)
      have HE5 := hide (HE3.out.ext hE5)
      have HC5 := hide (HC3.out.ext hE5)
      have b0 := HF5.out.cell 0
      have b1 := HF5.out.cell 1
      have f0 := HF5.out.free 0
      have f1 := HF5.out.free 1
      simp only [List.getElem?_toArray, List.getElem?_cons_zero, List.getElem?_cons_succ] at b0 b1
      unfold fltV
      clear hE5
      go_wp2_with fail
      exact fault_ret (f := (9, s1)) (g := gf) ((HF5.out.set_ 0 _).set_ 1 _) rfl rfl rfl ⟨by rw [HR.out], (HE5.out.set (.inl HLO.out) _).set (.inl HLO.out) _, by rw [HR.out]; exact (HC5.out.far HN.out.symm _).far HN.out.symm _⟩
  obtain rfl : kd = 1 := by omega
  have HR := hide (show R = ((0, 0), m1) by rw [HX5.out, if_neg (by decide), if_neg (by decide), if_neg (by decide), if_neg (by decide), if_neg (by decide)])
  go_wp2_with fail
  exact fault_ret (f := (0, 0)) (g := gf) ((HF3.out.set_ 0 _).set_ 1 _) rfl rfl rfl ⟨by rw [HR.out], (HE3.out.set (.inl HLO.out) _).set (.inl HLO.out) _, by rw [HR.out]; exact (HC3.out.far HN.out.symm _).far HN.out.symm _⟩
end Go.Proofs.Ytanpljalbijfkaa
