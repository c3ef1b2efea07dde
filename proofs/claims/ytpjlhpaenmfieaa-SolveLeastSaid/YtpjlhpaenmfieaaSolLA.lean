/- solve: the law's row, walked. -/
import Derived.Test.YtpjlhpaenmfieaaSolPl
namespace Go.Proofs.Ytpjlhpaenmfieaa
open Go.RowKit

theorem drop_at {F : List Nat} {e : Nat} (he : e < F.length) : ∃ f, F.drop e = f :: F.drop (e + 1) ∧ F[e]? = some f := by
  refine ⟨F[e], ?_, List.getElem?_eq_getElem he⟩
  rw [List.drop_eq_getElem_cons he]
theorem nat_at {w : World} {B : Nat} {A : Option Addr} {L : List Nat} (h : NatAt w B A L) (hn : 0 < L.length) : ∃ b o, A = some ⟨b, o, none⟩ ∧ b < B ∧ ∀ k v, L[k]? = some v → w.cell? ⟨b, o + k, none⟩ = some (.int .i64 (v : Nat)) := by
  obtain ⟨b, o, e, hb, hc⟩ := h.cell hn
  refine ⟨b, o, e, hb, fun k v hv => ?_⟩
  have hk := (List.getElem?_eq_some_iff.1 hv).1
  rw [hc k hk]
  rw [List.getElem?_eq_getElem hk] at hv
  injection hv with hv
  rw [hv]
set_option maxRecDepth 100000 in
set_option maxHeartbeats 4000000 in
theorem row44_any (g : Nat) (ws : List Wd) (os : List (Wd × Wd)) (A : Option Addr) (c n : Nat) (rs : List Ru) (A2 : Option Addr) (c2 q h0 : Nat) (L : List Nat) (w : World) (hl : LatAt w g ws os) (gd : GoodL ws os) (hr : RlsAt w w.heap.size A rs) (hn : n = rs.length) (hn' : n ≤ 1000000) (hN : NatAt w w.heap.size A2 L) (hq : q = L.length) (hq' : q ≤ 1000000) (hh : h0 < rs.length) (h3 : (rl rs h0).1 = 3) (hrow : RowOk (leqI ws os) rs h0 L) :
    Calls Try.prog 36 #[.pointer (some ⟨g, 0, none⟩), .slice A n c, .slice A2 q c2] w (BoolPost true w) := by
  have HLQ := hide (fun w1 (hE : Ext w w1) (u v : Int) => latLeq_any g ws os w1 (hl.ext hE) (prs_ok gd.found) u v)
  obtain ⟨Q, hQ⟩ : ∃ Q, Q = leqI ws os := ⟨_, rfl⟩
  rw [← hQ] at HLQ hrow
  obtain ⟨i, F, hL, hi, h1, hF, hno⟩ := hrow
  have hlen : L.length = F.length + 1 + 1 := by rw [hL]; simp
  obtain ⟨j, hj⟩ : ∃ j, j = F.length + 1 := ⟨_, rfl⟩
  obtain rfl : q = j + 1 := by omega
  have at0 : L[0]? = some i := by rw [hL]; rfl
  have atj : L[j]? = some h0 := by
    rw [hL, hj, List.cons_append, List.getElem?_cons_succ, List.getElem?_append_right (Nat.le_refl _), Nat.sub_self]; rfl
  have atx : ∀ x f, F[x]? = some f → L[x + 1]? = some f := fun x f hx => by
    have := (List.getElem?_eq_some_iff.1 hx).1
    rw [hL, List.cons_append, List.getElem?_cons_succ, List.getElem?_append_left this]; exact hx
  have allL : ∀ k, k < j + 1 → ∃ v, L[k]? = some v ∧ v < n := fun k hk => by
    have hk' : k < L.length := by omega
    obtain ⟨v, hv⟩ : ∃ v, L[k]? = some v := ⟨_, List.getElem?_eq_getElem hk'⟩
    refine ⟨v, hv, ?_⟩
    have hm : v ∈ L := List.mem_of_getElem? hv
    rw [hL] at hm
    simp only [List.cons_append, List.mem_cons, List.mem_append, List.not_mem_nil, or_false] at hm
    rw [hn]
    rcases hm with rfl | hm | rfl
    · exact hi
    · exact hF.lt _ hm
    · exact hh
  obtain ⟨bl, ol, rfl, hbl, hcl⟩ := nat_at hN (by omega)
  obtain ⟨br, or', rfl, hbr, hcr⟩ := hr.cell (by omega)
  obtain ⟨i0', i1', i2'⟩ := hcr i hi
  obtain ⟨z0, z1, z2⟩ := hcr h0 hh
  have l0 := hcl 0 i at0
  have l0' := l0
  rw [Nat.add_zero] at l0'
  have lj := hcl j h0 atj
  rw [h1] at i0'
  rw [h3] at z0
  have HF := hide hF
  have HALL := hide allL
  have HATX := hide atx
  have HCL := hide hcl
  have HCR := hide hcr
  have HN := hide hn
  have HJ := hide hj
  obtain ⟨ia, hia⟩ : ∃ r, r = (rl rs i).2.1 := ⟨_, rfl⟩
  obtain ⟨ib, hib⟩ : ∃ r, r = (rl rs i).2.2 := ⟨_, rfl⟩
  obtain ⟨za, hza⟩ : ∃ r, r = (rl rs h0).2.1 := ⟨_, rfl⟩
  obtain ⟨zb, hzb⟩ : ∃ r, r = (rl rs h0).2.2 := ⟨_, rfl⟩
  rw [← hia] at i1' hno
  rw [← hib] at i2' HF
  rw [← hza] at z1 HF
  rw [← hzb] at z2 hno
  have hwr : IntKind.i64.wrap ((j : Int) + 1 - 1) = (j : Int) := by rw [Int.add_sub_cancel]; exact IntWalk.i64_in _ (by omega)
  have u0 : (0 : Int) ≤ (j : Int) := by omega
  have u1 : (j : Int) < (j : Int) + 1 := by omega
  have u2 : (0 : Int) ≤ (i : Int) := by omega
  have u3 : (i : Int) < (n : Int) := by omega
  have u4 : (0 : Int) ≤ (h0 : Int) := by omega
  have u5 : (h0 : Int) < (n : Int) := by omega
  have u6 : ¬ ((j : Int) + 1 < 2) := by omega
  have u7 : (0 : Int) < (j : Int) + 1 := by omega
  have i0q := i0'
  have i1q := i1'
  have i2q := i2'
  have j1 : 1 ≤ j := by omega
  have hjle : j ≤ 1000000 := by omega
  have HNO := hide hno
  clear hq hQ hL hlen hj at0 atj atx allL hcl hcr hn hN hr hF hia hib hza hzb h1 h3 hno hl
  go_enter Try.func36, Try.ntmps36
  go_wp2_with fail
  go_loop [7] (fun x => ∃ k : Nat, k ≤ j + 1 ∧ x = .int .i64 (k : Int)) (fun x => j + 1 - (intOf x).toNat)
  case atStart => exact ⟨0, Nat.zero_le _, rfl⟩
  case round =>
    obtain ⟨k, hk, rfl⟩ := hrel
    by_cases hkj : k < j + 1
    · obtain ⟨v, hv, hvn⟩ := HALL.out k hkj
      have lk := HCL.out k v hv
      have v0 : (0 : Int) ≤ (k : Int) := by omega
      have v1 : (k : Int) < (j : Int) + 1 := by omega
      have v2 : ¬ ((v : Int) < 0) := by omega
      have v3 : ¬ ((v : Int) ≥ (n : Int)) := by omega
      clear hv l0 l0' lj i0' i1' i2' i0q i1q i2q z0 z1 z2
      go_wp2_with fail
      go_round
      case rel => exact ⟨k + 1, by omega, by go_num⟩
      case measure => simp [intOf]; omega
    · obtain rfl : k = j + 1 := by omega
      have v9 : ¬ (((j + 1 : Nat) : Int) < (j : Int) + 1) := by omega
      go_wp2_with fail
      go_loopw [9, 8] (fun x y wr => ∃ (k : Nat) (pl : Int), 1 ≤ k ∧ k ≤ j ∧ x = .int .i64 (k : Int) ∧ y = .int .i64 pl ∧ Ext w wr ∧ Hid (Fwd rs pl (F.drop (k - 1)) za)) (fun x _ _ => j - (intOf x).toNat)
      case atStart => exact ⟨1, ib, Nat.le_refl _, j1, rfl, rfl, Ext.rfl' _, HF.out⟩
      case round =>
        obtain ⟨k, pl, hk1, hkj, rfl, rfl, hE, HFW⟩ := hrel
        have HE := hide hE
        by_cases hlt : k < j
        · obtain ⟨f, hf, hfx⟩ := drop_at (F := F) (e := k - 1) (by have := HJ.out; omega)
          have hfw := HFW.out
          rw [hf] at hfw
          obtain ⟨f1, f2, f3, f4⟩ := hfw
          have lk := (hE.cell (p := ⟨bl, ol + k, none⟩) hbl).trans (HCL.out k f (by have := HATX.out _ _ hfx; rwa [show k - 1 + 1 = k by omega] at this))
          obtain ⟨p0, p1, p2⟩ := HCR.out f f1
          have q0 := (hE.cell (p := ⟨br, or' + f * 3, none⟩) hbr).trans p0
          have q1 := (hE.cell (p := ⟨br, or' + f * 3 + 1, none⟩) hbr).trans p1
          have q2 := (hE.cell (p := ⟨br, or' + f * 3 + 2, none⟩) hbr).trans p2
          rw [f2] at q0
          rw [f3] at q1
          obtain ⟨fb, hfb⟩ : ∃ r, r = (rl rs f).2.2 := ⟨_, rfl⟩
          rw [← hfb] at q2 f4
          have hnx := f4
          rw [show k - 1 + 1 = k + 1 - 1 by omega] at hnx
          have HNX := hide hnx
          have fn : (f : Int) < (n : Int) := by have := HN.out; omega
          have f0 : (0 : Int) ≤ (f : Int) := by omega
          have v0 : (0 : Int) ≤ (k : Int) := by omega
          have v1 : (k : Int) < (j : Int) + 1 := by omega
          have v2 : (k : Int) < (j : Int) := by omega
          obtain ⟨w5, hw5⟩ : ∃ w5, w5 = wr.alloc (.cells #[.int .i64 2, .int .i64 pl, .int .i64 fb] 60) := ⟨_, rfl⟩
          obtain ⟨g5, hg5⟩ : ∃ g, g = wr.heap.size := ⟨_, rfl⟩
          have hV : Blk w5 g5 60 #[.int .i64 2, .int .i64 pl, .int .i64 fb] := by rw [hw5, hg5]; exact Blk.new _ _ _
          have HE5 := hide (show Ext w w5 by rw [hw5]; exact hE.alloc hE.size _)
          have c0 := hV.cell 0
          have c1 := hV.cell 1
          have c2 := hV.cell 2
          simp only [List.getElem?_toArray, List.getElem?_cons_zero, List.getElem?_cons_succ] at c0 c1 c2
          have HW5 := hide hw5
          have HG5 := hide hg5
          clear hf hfx f1 f2 f3 f4 p0 p1 p2 hfb hnx hw5 hg5 hV hE l0 l0' lj i0' i1' i2' i0q i1q i2q z0 z1 z2
          go_upto_region 13 with fail
          rw [← HW5.out, ← HG5.out]
          go_wp2_with fail
          go_roundw
          case rel => exact ⟨k + 1, fb, by omega, by omega, by go_num, rfl, HE5.out, HNX.out⟩
          case measure => simp [intOf]; omega
        · obtain rfl : k = j := by omega
          have hfw := HFW.out
          rw [List.drop_of_length_le (by have := HJ.out; omega)] at hfw
          have hpl : pl = za := hfw
          subst hpl
          have e0 := (hE.cell (p := ⟨bl, ol + 0, none⟩) hbl).trans l0
          have e0' := (hE.cell (p := ⟨bl, ol, none⟩) hbl).trans l0'
          have ej := (hE.cell (p := ⟨bl, ol + k, none⟩) hbl).trans lj
          have y0 := (hE.cell (p := ⟨br, or' + h0 * 3, none⟩) hbr).trans z0
          have y1 := (hE.cell (p := ⟨br, or' + h0 * 3 + 1, none⟩) hbr).trans z1
          have y2 := (hE.cell (p := ⟨br, or' + h0 * 3 + 2, none⟩) hbr).trans z2
          have x1 := (hE.cell (p := ⟨br, or' + i * 3 + 1, none⟩) hbr).trans i1'
          have v2 : ¬ ((k : Int) < (k : Int)) := by omega
          obtain ⟨w5, hw5⟩ : ∃ w5, w5 = wr.alloc (.cells #[.int .i64 3, .int .i64 pl, .int .i64 zb] 60) := ⟨_, rfl⟩
          obtain ⟨g5, hg5⟩ : ∃ g, g = wr.heap.size := ⟨_, rfl⟩
          have hV : Blk w5 g5 60 #[.int .i64 3, .int .i64 pl, .int .i64 zb] := by rw [hw5, hg5]; exact Blk.new _ _ _
          have hE5' : Ext wr w5 := by rw [hw5]; exact (Ext.rfl' wr).alloc (Nat.le_refl _) _
          have HE5 := hide (hE.trans' hE5')
          have c0 := hV.cell 0
          have c1 := hV.cell 1
          have c2 := hV.cell 2
          simp only [List.getElem?_toArray, List.getElem?_cons_zero, List.getElem?_cons_succ] at c0 c1 c2
          have hwl : w.heap.size ≤ wr.heap.size := hE.size
          have d0 := (hE5'.cell (p := ⟨bl, ol + 0, none⟩) (by show bl < _; omega)).trans e0
          have d0' := (hE5'.cell (p := ⟨bl, ol, none⟩) (by show bl < _; omega)).trans e0'
          have dx := (hE5'.cell (p := ⟨br, or' + i * 3 + 1, none⟩) (by show br < _; omega)).trans x1
          have HW5 := hide hw5
          have HG5 := hide hg5
          have HLn := hide (fun (jj : Nat) => quiet_left (n := jj) (HLQ.out (w5.drewN jj) (below_drewN HE5.out jj) ia zb))
          rw [HNO.out] at HLn
          clear hw5 hg5 hV hE5' hE l0 l0' lj i0' i1' i2' i0q i1q i2q z0 z1 z2 hfw
          go_upto_region 17 with fail
          rw [← HW5.out, ← HG5.out]
          clear e0 e0' ej y0 y1 y2 x1
          go_quiet ((go_at_call 17; with_reducible exact HLn.out _))
          go_wp2_with fail
          go_ret
          exact ⟨rfl, below_drewN HE5.out _⟩
end Go.Proofs.Ytpjlhpaenmfieaa
