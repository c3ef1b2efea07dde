/- solve: Why, walked; a nil lattice. -/
import Derived.Test.YtpjlhpaenmfieaaGreatSolK
namespace Go.Proofs.YtpjlhpaenmfieaaGreat
open Go.RowKit

theorem solBad_cases (nl np : Int) (rs : List Ru) : (solBad nl np rs).1 = 0 ∨ (solBad nl np rs).1 = 1 ∨ (solBad nl np rs).1 = 8 ∨ (solBad nl np rs).1 = 20 := by
  unfold solBad
  split
  · exact .inr (.inl rfl)
  · split
    · exact .inr (.inr (.inl rfl))
    · split
      · next x h =>
        obtain ⟨i, _, e⟩ := firstOf_some h
        unfold rBad at e
        split at e
        · cases e
        · injection e with e; rw [← e]; exact .inr (.inr (.inr rfl))
      · exact .inl rfl
theorem SolAns.flow {ws : List Wd} {os : List (Wd × Wd)} {np : Int} {rs : List Ru} {y : List Nat} {f : Int × Int} (h : SolAns ws os np rs y f) (h18 : f.1 = 18) : ∃ i : Nat, f.2 = i ∧ i < rs.length := by
  rcases h with ⟨_, h2, _⟩ | ⟨_, x, _, ⟨h4, _⟩ | ⟨_, h5, _⟩⟩
  · rw [h2] at h18
    rcases solBad_cases ws.length np rs with h | h | h | h <;> rw [h] at h18 <;> cases h18
  · obtain ⟨i, hi, e⟩ := firstOf_some h4
    unfold hBad at e
    split at e
    · cases e
    · injection e with e; rw [← e]; exact ⟨i, rfl, hi⟩
  · rw [h5] at h18; cases h18
def whyL (Q : Int → Int → Bool) (rs : List Ru) (f : Int × Int) : List Nat := if f.1 = 18 then traceL Q rs f.2.toNat else []
def WhyPost (ws : List Wd) (os : List (Wd × Wd)) (np : Int) (rs : List Ru) (w : World) (e : Ending) (w' : World) : Prop := ∃ y f, SolAns ws os np rs y f ∧ SeesPost (whyL (leqI ws os) rs f) w e w'

set_option maxRecDepth 100000 in
set_option maxHeartbeats 4000000 in
theorem why_any (g : Nat) (ws : List Wd) (os : List (Wd × Wd)) (np : Int) (A : Option Addr) (c m : Nat) (rs : List Ru) (w : World) (h : LatAt w g ws os) (gd : GoodL ws os) (hr : RlsAt w w.heap.size A rs) (hm : m = rs.length) (hm' : m ≤ 100000) :
    Calls Tryz.prog 30 #[.pointer (some ⟨g, 0, none⟩), .int .i64 np, .slice A m c] w (WhyPost ws os np rs w) := by
  have HSO := hide (solve_any g ws os np A c m rs w h gd hr hm (by omega))
  have HTR := hide (fun (q : Nat) (hq : q < m) (w1 : World) (h1 : Ext w w1) => trace_any (some ⟨g, 0, none⟩) (leqI ws os) A c m q rs w1 (hr.ext h1) hm hm' hq (fun w2 h2 => latLeq_any g ws os w2 (h.ext (h1.trans' h2)) (prs_ok gd.found)))
  have HM := hide hm
  clear h gd hr hm
  go_enter Tryz.func30, Tryz.ntmps30
  go_wp2_with fail
  refine HSO.out.mono ?_
  rintro e w2 ⟨y, f, Ay, cy, rfl, _, hE2, hA⟩
  obtain ⟨f1, f2⟩ := f
  have HA := hide hA
  obtain ⟨w3, hw3⟩ : ∃ w3, w3 = w2.alloc (.cells #[.int .i64 f1, .int .i64 f2] 31) := ⟨_, rfl⟩
  obtain ⟨g3, hg3⟩ : ∃ g3, g3 = w2.heap.size := ⟨_, rfl⟩
  have hV : Blk w3 g3 31 #[.int .i64 f1, .int .i64 f2] := by rw [hw3, hg3]; exact Blk.new _ _ _
  have HE3 := hide (show Ext w w3 by rw [hw3]; exact hE2.alloc hE2.size _)
  have v0 := hV.cell 0
  have v1 := hV.cell 1
  simp only [List.getElem?_toArray, List.getElem?_cons_zero, List.getElem?_cons_succ] at v0 v1
  have HW3 := hide hw3
  have HG3 := hide hg3
  clear hA hw3 hg3 hV hE2
  unfold fltV
  go_upto_region 2 with fail
  rw [← HW3.out, ← HG3.out]
  by_cases h18 : f1 = 18
  · obtain ⟨i, hi, hil⟩ := HA.out.flow h18
    simp only at hi
    have HT := hide (HTR.out i (by rw [HM.out]; exact hil) w3 HE3.out)
    have HX := hide (show whyL (leqI ws os) rs (f1, f2) = traceL (leqI ws os) rs i by unfold whyL; rw [if_pos h18, hi]; rfl)
    have hne : (f1 != 18) = false := by simpa using h18
    subst hi
    clear h18 hil
    obtain ⟨TL, hTL⟩ : ∃ TL, TL = traceL (leqI ws os) rs i := ⟨_, rfl⟩
    rw [← hTL] at HT HX
    clear hTL
    go_wp2_with fail
    refine HT.out.mono ?_
    rintro e w4 ⟨A4, c4, rfl, hN4, hE4⟩
    have HN4 := hide hN4
    have HE4 := hide (HE3.out.trans' hE4)
    clear hN4 hE4 v0 v1
    go_wp2_with fail
    go_ret
    exact ⟨y, _, HA.out, by rw [HX.out]; exact ⟨A4, c4, rfl, HN4.out, HE4.out⟩⟩
  · have hne : (f1 != 18) = true := by simpa using h18
    have HX := hide (show whyL (leqI ws os) rs (f1, f2) = [] by unfold whyL; rw [if_neg h18])
    clear h18
    go_wp2_with fail
    go_ret
    exact ⟨y, _, HA.out, by rw [HX.out]; exact ⟨none, 0, rfl, Reads.none_, HE3.out⟩⟩
theorem solve_nil (np : Int) (A : Option Addr) (c m : Nat) (w : World) : Calls Tryz.prog 26 #[.pointer none, .int .i64 np, .slice A m c] w (fun e w' => e = .returned (.tuple #[.slice none 0 0, fltV (1, 0)]) ∧ Ext w w') := by
  have hB : Blk (w.alloc (.cells #[.int .i64 0, .int .i64 0] 31)) w.heap.size 31 #[.int .i64 0, .int .i64 0] := Blk.new _ _ _
  have HB := hide hB
  have HE0 := hide (show Ext w (w.alloc (.cells #[.int .i64 0, .int .i64 0] 31)) from (Ext.rfl' w).alloc (Nat.le_refl _) _)
  have HWR := hide (fun (w1 : World) => solWrong_nil np A c m w1)
  clear hB
  go_enter Tryz.func26, Tryz.ntmps26
  go_wp2_with fail
  refine (HWR.out _).mono ?_
  rintro e w2 ⟨rfl, hE2⟩
  have HB2 := hide (HB.out.ext hE2)
  have HE2 := hide (HE0.out.trans' hE2)
  obtain ⟨w3, hw3⟩ : ∃ w3, w3 = w2.alloc (.cells #[.int .i64 1, .int .i64 0] 31) := ⟨_, rfl⟩
  obtain ⟨g3, hg3⟩ : ∃ g3, g3 = w2.heap.size := ⟨_, rfl⟩
  have hV : Blk w3 g3 31 #[.int .i64 1, .int .i64 0] := by rw [hw3, hg3]; exact Blk.new _ _ _
  have HE3 := hide (show Ext w w3 by rw [hw3]; exact HE2.out.alloc HE2.out.size _)
  have HB3 := hide (show Blk w3 w.heap.size 31 #[.int .i64 0, .int .i64 0] by rw [hw3]; exact HB2.out.alloc _)
  have v0 := hV.cell 0
  have v1 := hV.cell 1
  have b0 := HB3.out.cell 0
  have b1 := HB3.out.cell 1
  have f0 := HB3.out.free 0
  have f1 := HB3.out.free 1
  simp only [List.getElem?_toArray, List.getElem?_cons_zero, List.getElem?_cons_succ] at v0 v1 b0 b1
  have HW3 := hide hw3
  have HG3 := hide hg3
  clear hE2 hw3 hg3 hV HWR
  unfold fltV
  go_upto_region 2 with fail
  rw [← HW3.out, ← HG3.out]
  go_upto_region 3 with fail
  go_region
  all_goals
    go_wp2_with fail
    exact val_flt_ret (f := (1, 0)) (g := w.heap.size) (v := .slice none 0 0) ((HB3.out.set_ 0 _).set_ 1 _) rfl rfl rfl rfl ⟨rfl, (ext_two HE3.out _ _).drew'⟩
theorem why_nil (np : Int) (A : Option Addr) (c m : Nat) (w : World) : Calls Tryz.prog 30 #[.pointer none, .int .i64 np, .slice A m c] w (fun e w' => e = .returned (.slice none 0 0) ∧ Ext w w') := by
  have HSO := hide (solve_nil np A c m w)
  go_enter Tryz.func30, Tryz.ntmps30
  go_wp2_with fail
  refine HSO.out.mono ?_
  rintro e w2 ⟨rfl, hE2⟩
  have HE2 := hide (hE2.alloc (o := .cells #[.int .i64 1, .int .i64 0] 31) hE2.size)
  clear hE2
  unfold fltV
  go_wp2_with fail
  go_ret
  exact ⟨rfl, HE2.out⟩
theorem holds_nil (A : Option Addr) (c m : Nat) (k a b : Int) (x : List Int) (w : World) (hx : IntAt w w.heap.size A x) (hm : m = x.length) (hm' : m ≤ 9223372036854775807) :
    Calls Tryz.prog 61 #[.pointer none, .slice A m c, .agg #[.int .i64 k, .int .i64 a, .int .i64 b]] w (fun e w' => e = .returned (.bool false) ∧ Ext w w') := by
  have := solHolds_any none (fun _ _ => false) 0 A c m x k a b w hx hm hm' (fun w1 _ => latLen_nil w1) (fun w1 _ u v => latLeq_nil w1 u v)
  rwa [Bool.and_false] at this
end Go.Proofs.YtpjlhpaenmfieaaGreat
