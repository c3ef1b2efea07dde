/- The law LatticeBuilds, walked. -/
import Derived.Test.YtpjlhpaenmfieaaLatW
import Derived.Test.YtpjlhpaenmfieaaLatU
namespace Go.Proofs.Ytpjlhpaenmfieaa
open Go.RowKit

def greatL (n m : Nat) : Bool := decide (40 < n) || decide (300 < m)
theorem great_any (A : Option Addr) (c n : Nat) (A2 : Option Addr) (c2 m : Nat) (w : World) (hn : n ≤ 9223372036854775807) (hm : m ≤ 9223372036854775807) :
    Calls Try.prog 10 #[.slice A n c, .slice A2 m c2] w (fun e w' => e = .returned (.bool (greatL n m)) ∧ w = w') := by
  by_cases h1 : (40 : Int) < (n : Int)
  · go_enter Try.func10, Try.ntmps10
    go_wp2_with fail
    go_ret
    exact ⟨ret_bool (by unfold greatL; simp; omega), rfl⟩
  · have e : greatL n m = decide (300 < (m : Int)) := by unfold greatL; rw [Bool.eq_iff_iff]; simp; omega
    rw [e]
    clear e
    go_enter Try.func10, Try.ntmps10
    go_wp2_with fail
    go_ret
    exact ⟨rfl, rfl⟩

set_option maxRecDepth 100000 in
set_option maxHeartbeats 1000000 in
theorem builds_any (A : Option Addr) (c n : Nat) (ws : List Wd) (A2 : Option Addr) (c2 m : Nat) (os : List (Wd × Wd)) (w : World) (h : WdsAt w w.heap.size A ws) (hsz : ∀ i, (wNm ws i).size ≤ maxLen) (hn : n = ws.length) (hn' : n ≤ 9223372036854775807) (h2 : OdsAt w w.heap.size A2 os) (hm : m = os.length) (hm' : m ≤ 9223372036854775807) :
    Calls Try.prog 3 #[.slice A n c, .slice A2 m c2] w (BoolPost true w) := by
  have HG := hide (great_any A c n A2 c2 m w hn' hm')
  have HB := hide (build_any A c n ws A2 c2 m os w h hsz hn h2 hm)
  have HWR := hide (fun (w1 : World) (hE : Ext w w1) => refWrong_any A c n ws A2 c2 m os w1 (h.ext hE) hsz hn (h2.ext hE) hm)
  clear h h2 hn hm hsz hn' hm'
  cases hg : greatL n m with
  | true =>
    rw [hg] at HG
    clear hg
    go_enter Try.func3, Try.ntmps3
    go_wp2_with fail
    refine HG.out.mono ?_
    rintro e w' ⟨rfl, rfl⟩
    go_wp2_with fail
    refine (latLives_any w).mono ?_
    rintro e w1 ⟨rfl, hE⟩
    go_wp2_with fail
    go_ret
    exact ⟨rfl, hE⟩
  | false =>
    rw [hg] at HG
    clear hg
    go_enter Try.func3, Try.ntmps3
    go_wp2_with fail
    refine HG.out.mono ?_
    rintro e w' ⟨rfl, rfl⟩
    go_wp2_with fail
    refine HB.out.mono ?_
    rintro e w2 (⟨hw, rfl, hE⟩ | ⟨hw, g, rfl, hL, hE⟩)
    · obtain ⟨f1, hf1⟩ : ∃ f1, f1 = (wrongL ws os).1 := ⟨_, rfl⟩
      obtain ⟨f2, hf2⟩ : ∃ f2, f2 = (wrongL ws os).2 := ⟨_, rfl⟩
      have e : fltV (wrongL ws os) = .agg #[.int .i64 f1, .int .i64 f2] := by rw [hf1, hf2]; rfl
      rw [e] at HWR ⊢
      rw [← hf1] at hw
      have h0 : (f1 == 0) = false := by simpa using hw
      obtain ⟨w3, hw3⟩ : ∃ w3, w3 = w2.alloc (.cells #[.int .i64 f1, .int .i64 f2] 29) := ⟨_, rfl⟩
      have hE3 : Ext w w3 := by rw [hw3]; exact hE.alloc hE.size _
      obtain ⟨gf, hgf⟩ : ∃ g, g = w2.heap.size := ⟨_, rfl⟩
      have hB : Blk w3 gf 29 #[.int .i64 f1, .int .i64 f2] := by rw [hw3, hgf]; exact Blk.new _ _ _
      have HW3 := hide hw3
      have HGF := hide hgf
      clear hf1 hf2 hw hw3 hE hgf e
      go_wp2_with fail
      rw [← HW3.out, ← HGF.out]
      refine wp_region_ext (by kernel_rfl) (by kernel_rfl) w3 (Ext.rfl' _) ?_
      intro I _ f hf hc
      have q0 : ∀ n, (f n).cell? ⟨gf, 0, none⟩ = some (.int .i64 f1) := fun n => (hB.ext (hf n)).cell 0
      have q1 : ∀ n, (f n).cell? ⟨gf, 1, none⟩ = some (.int .i64 f2) := fun n => (hB.ext (hf n)).cell 1
      have HR := hide (fun n => fam_ext hf hc (HWR.out (f n) (hE3.trans' (hf n))))
      have HLV := hide (fun n => fam_ext hf hc (latLives_any (f n)))
      have HE := hide (fun n => hE3.trans' (hf n))
      have hq := run_eqIn_flt
      clear hB hE3 hf hc HW3 HGF
      repeat (go_big_quiet_step ((first
        | (go_at_call 13; with_reducible exact HR.out _)
        | (go_at_call 11; with_reducible exact HLV.out _))))
      refine wpQuiet_nil ?_
      rintro _ ⟨nq, rfl⟩
      go_wp2_with fail
      go_ret
      exact ⟨rfl, HE.out nq⟩
    · rw [hw, show fltV (0, 0) = .agg #[.int .i64 0, .int .i64 0] from rfl] at HWR
      rw [show fltV (0, 0) = .agg #[.int .i64 0, .int .i64 0] from rfl]
      obtain ⟨w3, hw3⟩ : ∃ w3, w3 = w2.alloc (.cells #[.int .i64 0, .int .i64 0] 29) := ⟨_, rfl⟩
      have hE3 : Ext w w3 := by rw [hw3]; exact hE.alloc hE.size _
      obtain ⟨gf, hgf⟩ : ∃ g, g = w2.heap.size := ⟨_, rfl⟩
      have hB : Blk w3 gf 29 #[.int .i64 0, .int .i64 0] := by rw [hw3, hgf]; exact Blk.new _ _ _
      have HW3 := hide hw3
      have HGF := hide hgf
      clear hw hw3 hE hgf hL
      go_wp2_with fail
      rw [← HW3.out, ← HGF.out]
      refine wp_region_ext (by kernel_rfl) (by kernel_rfl) w3 (Ext.rfl' _) ?_
      intro I _ f hf hc
      have q0 : ∀ n, (f n).cell? ⟨gf, 0, none⟩ = some (.int .i64 0) := fun n => (hB.ext (hf n)).cell 0
      have q1 : ∀ n, (f n).cell? ⟨gf, 1, none⟩ = some (.int .i64 0) := fun n => (hB.ext (hf n)).cell 1
      have HR := hide (fun n => fam_ext hf hc (HWR.out (f n) (hE3.trans' (hf n))))
      have HLV := hide (fun n => fam_ext hf hc (latLives_any (f n)))
      have HE := hide (fun n => hE3.trans' (hf n))
      have hq := run_eqIn_flt
      clear hB hE3 hf hc HW3 HGF
      repeat (go_big_quiet_step ((first
        | (go_at_call 13; with_reducible exact HR.out _)
        | (go_at_call 11; with_reducible exact HLV.out _))))
      refine wpQuiet_nil ?_
      rintro _ ⟨nq, rfl⟩
      go_wp2_with fail
      go_ret
      exact ⟨rfl, HE.out nq⟩
end Go.Proofs.Ytpjlhpaenmfieaa
