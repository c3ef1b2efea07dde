/- solve: the document's reach, walked. -/
import Derived.Test.YtpjlhpaenmfieaaGreatSolFl
import Derived.Test.YtpjlhpaenmfieaaGreatSolAll
import Derived.Test.YtpjlhpaenmfieaaGreatRelAll
import Derived.Test.YtpjlhpaenmfieaaGreatLatPl
import Derived.Test.YtpjlhpaenmfieaaGreatLatT
import Derived.Test.YtpjlhpaenmfieaaGreatSolPl
namespace Go.Proofs.YtpjlhpaenmfieaaGreat
open Go.RowKit

def inL (m : Nat) (l : List Int) : List Bool := (List.range m).map fun (p : Nat) => hasV l (p : Int)
theorem inL_len (m : Nat) (l : List Int) : (inL m l).length = m := by simp [inL]
theorem inL_get {m : Nat} {l : List Int} {p : Nat} (hp : p < m) : (inL m l).getD p false = hasV l (p : Int) := by
  unfold inL
  rw [List.getD_eq_getElem?_getD, List.getElem?_map, List.getElem?_range hp]
  rfl
theorem inL_congr {m : Nat} {l k : List Int} (h : ∀ p : Nat, (p : Int) ∈ l ↔ (p : Int) ∈ k) : inL m l = inL m k := by
  unfold inL
  apply List.map_congr_left
  intro p _
  rw [Bool.eq_iff_iff, hasV_iff, hasV_iff]
  exact h p
theorem inL_set {m : Nat} {l k : List Int} {a : Nat} (h : ∀ p : Nat, (p : Int) ∈ k ↔ (p : Int) ∈ l ∨ p = a) : (inL m l).set a true = inL m k := by
  apply List.ext_getElem
  · simp [inL]
  · intro i h1 h2
    rw [List.getElem_set]
    have hi : i < m := by rw [inL_len] at h2; exact h2
    simp only [inL, List.getElem_map, List.getElem_range]
    split
    · next e =>
      subst e
      exact (hasV_iff.2 ((h a).2 (.inr rfl))).symm
    · next e =>
      rw [Bool.eq_iff_iff, hasV_iff, hasV_iff, h i]
      exact ⟨.inl, fun hh => hh.elim id fun e' => absurd e'.symm e⟩
theorem inL_nil (m : Nat) : List.replicate m false = inL m [] := by
  apply List.ext_getElem
  · simp [inL]
  · intro i h1 h2
    simp [inL, hasV]
theorem inL_one (m a : Nat) : (List.replicate m false).set a true = inL m [(a : Int)] := by
  rw [inL_nil]
  exact inL_set fun p => by simp; omega
theorem nxtK_hit {rs : List Ru} {now : List Int} {k : Nat} {x : Int} (h1 : (rl rs k).1 = 2) (h2 : (rl rs k).2.2 ∈ now) : x ∈ nxtK rs now (k + 1) ↔ x ∈ nxtK rs now k ∨ x = (rl rs k).2.1 := by
  rw [nxtK_mem, nxtK_mem]
  constructor
  · rintro ⟨i, hi, h⟩
    rcases Nat.lt_or_ge i k with c | c
    · exact .inl ⟨i, c, h⟩
    · obtain rfl : i = k := by omega
      exact .inr h.2.2.symm
  · rintro (⟨i, hi, h⟩ | rfl)
    · exact ⟨i, by omega, h⟩
    · exact ⟨k, by omega, h1, h2, rfl⟩
theorem nxtK_no {rs : List Ru} {now : List Int} {k : Nat} {x : Int} (h : ¬ ((rl rs k).1 = 2 ∧ (rl rs k).2.2 ∈ now)) : x ∈ nxtK rs now (k + 1) ↔ x ∈ nxtK rs now k := by
  rw [nxtK_mem, nxtK_mem]
  constructor
  · rintro ⟨i, hi, h'⟩
    rcases Nat.lt_or_ge i k with c | c
    · exact ⟨i, c, h'⟩
    · obtain rfl : i = k := by omega
      exact absurd ⟨h'.1, h'.2.1⟩ h
  · rintro ⟨i, hi, h⟩
    exact ⟨i, by omega, h⟩
/-- The places that lead to one, as the walk has them. -/
def InRel (W : World) (m g : Nat) (l : List Int) (w : World) : Prop := w.ownsRow g 4 1 (.slice (some ⟨g, 0, none⟩) m m) m ((inL m l).map Value.bool) ∧ Ext W w ∧ W.heap.size ≤ g ∧ g < w.heap.size
theorem InRel.cell {W : World} {m g : Nat} {l : List Int} {w : World} (h : InRel W m g l w) (x : Nat) (hx : x < m) : w.cell? ⟨g, x, none⟩ = some (.bool (hasV l x)) := by
  obtain ⟨h1, _⟩ := h
  rw [h1.cellAt x (by omega)]
  rw [List.getElem?_map, show (inL m l)[x]? = some (hasV l x) by
    unfold inL
    rw [List.getElem?_map, List.getElem?_range hx]; rfl]
  rfl
theorem InRel.of {W wo w : World} {m g : Nat} {r : List Bool} {l : List Int} (h : RowRel wo m g r w) (hr : r = inL m l) (hE : Ext W wo) (hg : g = wo.heap.size) (hlt : g < w.heap.size) : InRel W m g l w := by
  obtain ⟨h1, _, h3⟩ := h
  rw [hr] at h1
  exact ⟨h1, Below.trans hE (h3.mono (by rw [hg]; exact hE.size)), by rw [hg]; exact hE.size, hlt⟩
def ReachPost (m : Nat) (l : List Int) (w : World) (e : Ending) (w' : World) : Prop := ∃ g, e = .returned (.slice (some ⟨g, 0, none⟩) m m) ∧ InRel w m g l w'

set_option maxRecDepth 100000 in
set_option maxHeartbeats 2000000 in
theorem reach_any (A : Option Addr) (c n : Nat) (rs : List Ru) (m tp d : Nat) (w : World) (h : RlsAt w w.heap.size A rs) (hn : n = rs.length) (hn' : n ≤ 1000000) (hm : m ≤ 64) (hto : tp < m) (hd : d ≤ 1000000) (hin : ∀ i, i < rs.length → (rl rs i).1 = 2 → inZ (rl rs i).2.1 m = true ∧ inZ (rl rs i).2.2 m = true) :
    Calls Tryz.prog 97 #[.slice A n c, .int .i64 (m : Nat), .int .i64 (tp : Nat), .int .i64 (d : Nat)] w (ReachPost m (nowAt rs tp d) w) := by
  obtain ⟨i0, hi, hz0, hz1, hz2⟩ := info_parts info_bool
  have HIN := hide hin
  have HRS := hide h
  have HN := hide hn
  have t0 : (0 : Int) ≤ (tp : Int) := by omega
  have t1 : (tp : Int) < (m : Int) := by omega
  clear hin h hn
  go_enter Tryz.func97, Tryz.ntmps97
  go_wp2_with (at_make; refine wpList_make_full _ rfl _ _ 45 rfl w.heap.size 4 i0 (.bool false) 1 Tryz.underlying45 hi hz0 hz1 _ _ _ _ m rfl rfl rfl rfl ?c1 ?c2 (Nat.le_refl _) ?_)
  case c1 => first | omega | (rw [hz2]; omega)
  case c2 => unfold maxLen; omega
  intro w1 hown hgrow
  have hR0 : RowRel w m w.heap.size (List.replicate m false) w1 := ⟨by simpa [toList_madeCells_one] using hown, by simp, ext_of_grown hgrow⟩
  have hc1 := hR0.cell tp hto
  have hf1 := hR0.free tp
  have hlt1 : w.heap.size < w1.heap.size := World.block_lt_of_cell? w1 _ hc1
  have HR0 := hide hR0
  clear hR0 hown hgrow
  obtain ⟨g, hg⟩ : ∃ g, g = w.heap.size := ⟨_, rfl⟩
  rw [← hg] at hc1 hf1 HR0 hlt1 ⊢
  have HG := hide hg
  clear hg
  go_upto_region 3 with fail
  have hR1 : InRel w m g (nowAt rs tp 0) (w1.setCell ⟨g, tp, none⟩ (.bool true)) := InRel.of (HR0.out.set tp true) (inL_one m tp) (Ext.rfl' _) HG.out (by rw [World.size_setCell]; exact hlt1)
  obtain ⟨w2, hw2⟩ : ∃ w2, w2 = w1.setCell ⟨g, tp, none⟩ (.bool true) := ⟨_, rfl⟩
  rw [← hw2] at hR1 ⊢
  have HR1 := hide hR1
  clear hw2 hc1 hf1 hR1 HR0 hlt1
  go_wp2_with fail
  go_loopw [10, 9] (fun i v wr => ∃ (q g : Nat), q ≤ d ∧ i = .int .i64 q ∧ v = .slice (some ⟨g, 0, none⟩) m m ∧ InRel w m g (nowAt rs tp q) wr) (fun i _ _ => d - (intOf i).toNat)
  case atStart => exact ⟨0, g, Nat.zero_le _, rfl, rfl, HR1.out⟩
  case round =>
    obtain ⟨q, g1, hq, rfl, rfl, hR⟩ := hrel
    have HR := hide hR
    clear hR HR1
    by_cases hlt : q < d
    · obtain ⟨wo, hwo⟩ : ∃ wo : World, wo = wr := ⟨_, rfl⟩
      rw [← hwo] at HR ⊢
      clear hwo
      obtain ⟨now, hnow⟩ : ∃ l, l = nowAt rs tp q := ⟨_, rfl⟩
      have hnext : nowAt rs tp (q + 1) = nxtK rs now n := by rw [hnow, HN.out]; rfl
      rw [← hnow] at HR
      have HNX := hide hnext
      clear hnow hnext
      go_wp2_with (at_make; refine wpList_make_full _ rfl _ _ 45 rfl wo.heap.size 4 i0 (.bool false) 1 Tryz.underlying45 hi hz0 hz1 _ _ _ _ m rfl rfl rfl rfl ?c1 ?c2 (Nat.le_refl _) ?_)
      case c1 => first | omega | (rw [hz2]; omega)
      case c2 => unfold maxLen; omega
      intro w3 hown hgrow
      have hR3 : RowRel wo m wo.heap.size (inL m (nxtK rs now 0)) w3 := ⟨by rw [show nxtK rs now 0 = [] from rfl, ← inL_nil]; simpa [toList_madeCells_one] using hown, by rw [inL_len], ext_of_grown hgrow⟩
      have hlt3 : wo.heap.size < w3.heap.size := World.block_lt_of_cell? w3 _ (hR3.cell tp hto)
      have HR3 := hide hR3
      clear hR3 hown hgrow
      obtain ⟨g', hg'⟩ : ∃ g, g = wo.heap.size := ⟨_, rfl⟩
      rw [← hg'] at HR3 hlt3 ⊢
      have HG' := hide hg'
      clear hg'
      go_wp2_with fail
      go_loopw [12] (fun i wi => ∃ k : Nat, k ≤ n ∧ i = .int .i64 k ∧ RowRel wo m g' (inL m (nxtK rs now k)) wi) (fun i _ => n - (intOf i).toNat)
      case atStart => exact ⟨0, Nat.zero_le _, rfl, HR3.out⟩
      case round =>
        clear HR3
        obtain ⟨k, hk, rfl, hRk⟩ := hrel
        have HRk := hide hRk
        clear hRk
        by_cases hkn : k < n
        · have hkl : k < rs.length := by rw [← HN.out]; exact hkn
          obtain ⟨b, o, rfl, hb, hcell⟩ := HRS.out.cell (by omega)
          have hE : ∀ x, x < w.heap.size → ∀ z, wr.cell? ⟨x, z, none⟩ = w.cell? ⟨x, z, none⟩ := fun x hx z => by
            have h1 := HR.out.2.1
            exact (HRk.out.2.2.cell (p := ⟨x, z, none⟩) (by show x < g'; rw [HG'.out]; have := h1.size; omega)).trans (h1.cell (p := ⟨x, z, none⟩) hx)
          obtain ⟨p0, p1, p2⟩ := hcell k hkl
          have q0 := (hE b hb _).trans p0
          have q1 := (hE b hb _).trans p1
          have q2 := (hE b hb _).trans p2
          have hin := HIN.out k hkl
          have hhit := fun h1 h2 (x : Int) => nxtK_hit (rs := rs) (now := now) (k := k) (x := x) h1 h2
          have hno := fun h1 (x : Int) => nxtK_no (rs := rs) (now := now) (k := k) (x := x) h1
          obtain ⟨r, hr⟩ : ∃ r, r = rl rs k := ⟨_, rfl⟩
          rw [← hr] at q0 q1 q2 hin hhit hno
          obtain ⟨r0, r1, r2⟩ := r
          simp only at q0 q1 q2 hin hhit hno
          have i0 : (0 : Int) ≤ (k : Int) := by omega
          have i1 : (k : Int) < (n : Int) := by omega
          by_cases h2 : r0 = 2
          · obtain ⟨ha, hbb⟩ := hin h2
            rw [inZ_iff] at ha hbb
            obtain ⟨a', rfl⟩ := Int.eq_ofNat_of_zero_le ha.1
            obtain ⟨b', rfl⟩ := Int.eq_ofNat_of_zero_le hbb.1
            have hbm : b' < m := by omega
            have ham : a' < m := by omega
            have hc := HR.out.cell b' hbm
            have hg1 := HR.out.2.2.2
            have hcb := (HRk.out.2.2.cell (p := ⟨g1, b', none⟩) (by rw [HG'.out]; exact hg1)).trans hc
            have hca := HRk.out.cell a' ham
            have hfa := HRk.out.free a'
            obtain ⟨v, hv⟩ : ∃ v, v = hasV now b' := ⟨_, rfl⟩
            rw [← hv] at hcb
            have i2 : (0 : Int) ≤ (b' : Int) := by omega
            have i3 : (b' : Int) < (m : Int) := by omega
            have i4 : (0 : Int) ≤ (a' : Int) := by omega
            have i5 : (a' : Int) < (m : Int) := by omega
            subst h2
            cases v with
            | true =>
              have hs := inL_set (m := m) (l := nxtK rs now k) (k := nxtK rs now (k + 1)) (a := a') (fun p => by rw [hhit rfl (hasV_iff.1 hv.symm) p]; constructor <;> rintro (h | h) <;> first | exact .inl h | exact .inr (by omega))
              have HS := hide hs
              clear hs hhit hno hin ha hbb hc hv hcell p0 p1 p2 hr hE hkl
              go_wp2_with fail
              go_roundw
              case rel => exact ⟨k + 1, by omega, by go_num, by rw [← HS.out]; exact HRk.out.set a' true⟩
              case measure => simp [intOf]; omega
            | false =>
              have hs := inL_congr (m := m) (l := nxtK rs now (k + 1)) (k := nxtK rs now k) (fun p => hno (fun hh => by have := hasV_iff.2 hh.2; rw [← hv] at this; cases this) p)
              have HS := hide hs
              clear hs hhit hno hin ha hbb hc hv hcell p0 p1 p2 hr hE hkl
              go_wp2_with fail
              go_roundw
              case rel => exact ⟨k + 1, by omega, by go_num, by rw [HS.out]; exact HRk.out⟩
              case measure => simp [intOf]; omega
          · have hne : (r0 == 2) = false := by simpa using h2
            have hs := inL_congr (m := m) (l := nxtK rs now (k + 1)) (k := nxtK rs now k) (fun p => hno (fun hh => h2 hh.1) p)
            have HS := hide hs
            clear hs hhit hno hin hcell p0 p1 p2 hr hE hkl h2
            go_wp2_with fail
            go_roundw
            case rel => exact ⟨k + 1, by omega, by go_num, by rw [HS.out]; exact HRk.out⟩
            case measure => simp [intOf]; omega
        · obtain rfl : k = n := by omega
          have hlt4 : g' < wr.heap.size := World.block_lt_of_cell? wr _ (HRk.out.cell tp hto)
          have hI := InRel.of HRk.out rfl HR.out.2.1 HG'.out hlt4
          rw [← HNX.out] at hI
          have HI := hide hI
          clear hI hlt4
          go_wp2_with fail
          go_roundw
          case rel => exact ⟨q + 1, g', by omega, by go_num, rfl, HI.out⟩
          case measure => simp [intOf]; omega
    · obtain rfl : q = d := by omega
      go_wp2_with fail
      go_ret
      exact ⟨g1, rfl, HR.out⟩
end Go.Proofs.YtpjlhpaenmfieaaGreat
/- solve: the document's Bottom, walked. -/
namespace Go.Proofs.YtpjlhpaenmfieaaGreat
open Go.RowKit

def allTo (M : Nat → Nat → Bool) (a k : Nat) : Bool := (List.range k).all fun b => M a b
theorem allTo_step (M : Nat → Nat → Bool) (a k : Nat) : allTo M a (k + 1) = (allTo M a k && M a k) := by
  unfold allTo
  rw [List.range_succ, List.all_append]
  simp
theorem allTo_iff {M : Nat → Nat → Bool} {a k : Nat} : allTo M a k = true ↔ ∀ b, b < k → M a b = true := by
  unfold allTo
  rw [List.all_eq_true]
  exact ⟨fun h b hb => h b (List.mem_range.2 hb), fun h b hb => h b (List.mem_range.1 hb)⟩
theorem bot_eq {n : Nat} {M : Nat → Nat → Bool} (hl : LatM.Lat n M) {a : Nat} (ha : a < n) (h : allTo M a n = true) : a = LatM.botN n M :=
  hl.po.anti _ _ ha (LatM.botN_lt hl) (allTo_iff.1 h _ (LatM.botN_lt hl)) (LatM.botN_bot hl ha)
set_option maxRecDepth 100000 in
set_option maxHeartbeats 2000000 in
theorem refBottom_any (A : Option Addr) (cp n : Nat) (M : List (List Bool)) (w : World) (h : MatAt w w.heap.size A M) (hsq : ∀ r ∈ M, r.length = M.length) (hn : n = M.length) (hl : n ≤ 64) (hlat : LatM.Lat n (mat M)) :
    Calls Tryz.prog 96 #[.slice A n cp] w (fun e w' => e = .returned (.int .i64 ((LatM.botN n (mat M) : Nat) : Int)) ∧ w = w') := by
  have hbn := LatM.botN_lt hlat
  obtain ⟨b0, o0, rfl, _, hrow⟩ := h.form hsq (by omega)
  rw [← hn] at hrow
  have HROW := hide hrow
  have HBE := hide (fun (a : Nat) (ha : a < n) (h : allTo (mat M) a n = true) => bot_eq hlat ha h)
  have HBB := hide (show allTo (mat M) (LatM.botN n (mat M)) n = true from allTo_iff.2 fun b hb => LatM.botN_bot hlat hb)
  obtain ⟨bt, hbt⟩ : ∃ b, b = LatM.botN n (mat M) := ⟨_, rfl⟩
  rw [← hbt] at HBE HBB hbn ⊢
  clear hrow h hsq hn hlat hbt
  go_enter Tryz.func96, Tryz.ntmps96
  go_wp2_with fail
  go_loop [3] (fun i => ∃ c : Nat, c ≤ n ∧ i = .int .i64 c ∧ Hid (∀ j, j < c → allTo (mat M) j n = false)) (fun i => n - (intOf i).toNat)
  case atStart => exact ⟨0, Nat.zero_le _, rfl, fun j hj => absurd hj (by omega)⟩
  case round =>
    obtain ⟨c, hc, rfl, HA⟩ := hrel
    by_cases hcn : c < n
    · have i4 : (0 : Int) ≤ (c : Int) := by omega
      have i5 : (c : Int) < (n : Int) := by omega
      obtain ⟨bc, oc, cc, fc, _, gc⟩ := HROW.out c hcn
      have GC := hide gc
      clear gc
      go_wp2_with fail
      go_loop [5, 4] (fun i v => ∃ (d : Nat) (u : Bool), d ≤ n ∧ i = .int .i64 d ∧ v = .bool u ∧ Hid (u = allTo (mat M) c d)) (fun i _ => n - (intOf i).toNat)
      case atStart => exact ⟨0, _, Nat.zero_le _, rfl, rfl, rfl⟩
      case round =>
        obtain ⟨d, u, hd, rfl, rfl, HU⟩ := hrel
        by_cases hdn : d < n
        · have i6 : (0 : Int) ≤ (d : Int) := by omega
          have i7 : (d : Int) < (n : Int) := by omega
          have zc := GC.out d hdn
          have hs := allTo_step (mat M) c d
          obtain ⟨z1, hz1⟩ : ∃ x, x = mat M c d := ⟨_, rfl⟩
          rw [← hz1] at zc hs
          have HS := hide hs
          clear hz1 hs
          cases u with
          | false =>
            go_wp2_with fail
            go_round
            case rel => exact ⟨d + 1, false, by omega, by go_num, rfl, (show false = allTo (mat M) c (d + 1) from by rw [HS.out, ← HU.out]; rfl)⟩
            case measure => simp [intOf]; omega
          | true =>
            go_wp2_with fail
            go_round
            case rel => exact ⟨d + 1, z1, by omega, by go_num, rfl, (show z1 = allTo (mat M) c (d + 1) from by rw [HS.out, ← HU.out]; rfl)⟩
            case measure => simp [intOf]; omega
        · obtain rfl : d = n := by omega
          cases u with
          | true =>
            have hb := HBE.out c hcn HU.out.symm
            subst hb
            go_wp2_with fail
            go_ret
            exact ⟨rfl, rfl⟩
          | false =>
            have HB := hide (below_step HA.out HU.out.symm)
            clear HA
            go_wp2_with fail
            go_round
            case rel => exact ⟨c + 1, by omega, by go_num, HB⟩
            case measure => simp [intOf]; omega
    · exact absurd HBB.out (by rw [HA.out bt (by omega)]; decide)
end Go.Proofs.YtpjlhpaenmfieaaGreat
/- solve: the document's Least, walked. -/
namespace Go.Proofs.YtpjlhpaenmfieaaGreat
open Go.RowKit

def dOut (n : Nat) (L : Nat → Nat → Bool) (rs : List Ru) (m p : Nat) : List Nat := (List.range p).map fun (q : Nat) => dLvl n L rs (q : Int) m
theorem dOut_len (n : Nat) (L : Nat → Nat → Bool) (rs : List Ru) (m p : Nat) : (dOut n L rs m p).length = p := by simp [dOut]
theorem dOut_step (n : Nat) (L : Nat → Nat → Bool) (rs : List Ru) (m p : Nat) : dOut n L rs m (p + 1) = dOut n L rs m p ++ [dLvl n L rs (p : Int) m] := by
  unfold dOut
  rw [List.range_succ, List.map_append]
  rfl
theorem dRow_hit {n : Nat} {L : Nat → Nat → Bool} {rs : List Ru} {now : List Int} {lvl k : Nat} (h1 : (rl rs k).1 = 1) (h2 : hasV now (rl rs k).2.2 = true) : dRow n L rs now lvl (k + 1) = LatM.jn n L (dRow n L rs now lvl k) (rl rs k).2.1.toNat := by
  show dStep n L now (dRow n L rs now lvl k) (rl rs k) = _
  unfold dStep
  rw [decide_eq_true h1, h2]
  rfl
theorem dRow_miss {n : Nat} {L : Nat → Nat → Bool} {rs : List Ru} {now : List Int} {lvl k : Nat} (h : (rl rs k).1 ≠ 1 ∨ hasV now (rl rs k).2.2 = false) : dRow n L rs now lvl (k + 1) = dRow n L rs now lvl k := by
  show dStep n L now (dRow n L rs now lvl k) (rl rs k) = _
  unfold dStep
  rcases h with h | h
  · rw [decide_eq_false h]; rfl
  · rw [h, Bool.and_false]; rfl
theorem right_low {n m : Nat} {r : Ru} (h : rightR n m r = true) (h1 : r.1 = 1) : inZ r.2.1 n = true ∧ inZ r.2.2 m = true := by
  unfold rightR at h
  rw [if_pos h1, Bool.and_eq_true] at h
  exact h
theorem right_flow {n m : Nat} {r : Ru} (h : rightR n m r = true) (h1 : r.1 = 2) : inZ r.2.1 m = true ∧ inZ r.2.2 m = true := by
  unfold rightR at h
  rw [if_neg (by omega), if_pos h1, Bool.and_eq_true] at h
  exact h

set_option maxRecDepth 100000 in
set_option maxHeartbeats 8000000 in
theorem refLeast_any (A : Option Addr) (cp n : Nat) (M : List (List Bool)) (A2 : Option Addr) (c2 z : Nat) (rs : List Ru) (m : Nat) (w : World) (h : MatAt w w.heap.size A M) (hsq : ∀ r ∈ M, r.length = M.length) (hn : n = M.length) (hl : n ≤ 64) (hlat : LatM.Lat n (mat M)) (hr : RlsAt w w.heap.size A2 rs) (hz : z = rs.length) (hz' : z ≤ 1000000) (hm : m ≤ 64) (hfit : ∀ r ∈ rs, rightR n m r = true) :
    Calls Tryz.prog 63 #[.slice A n cp, .int .i64 (m : Nat), .slice A2 z c2] w (SeesPost (dLeast n (mat M) rs m) w) := by
  obtain ⟨L, hL⟩ : ∃ L, L = mat M := ⟨_, rfl⟩
  have hj : ∀ w1, Ext w w1 → ∀ u v : Nat, u < n → v < n → Calls Tryz.prog 71 #[.slice A n cp, .int .i64 (u : Int), .int .i64 (v : Int)] w1 (fun e w' => e = .returned (.int .i64 ((LatM.jn n L u v : Nat) : Int)) ∧ w1 = w') := fun w1 hE u v hu hv => by
    have := refJoin_any A cp n M u v w1 (h.below hE hE.size) hsq hn hl hu hv
    rw [(LatM.jn_eq hlat hu hv).1] at this
    rw [hL]
    exact this
  have hb : ∀ w1, Ext w w1 → Calls Tryz.prog 96 #[.slice A n cp] w1 (fun e w' => e = .returned (.int .i64 ((LatM.botN n L : Nat) : Int)) ∧ w1 = w') := fun w1 hE => by
    rw [hL]; exact refBottom_any A cp n M w1 (h.below hE hE.size) hsq hn hl hlat
  rw [← hL] at hlat ⊢
  have HJ := hide hj
  have HBot := hide hb
  have HRE := hide (fun (w1 : World) (hE : Ext w w1) (tp d : Nat) (hto : tp < m) (hd : d ≤ 1000000) => reach_any A2 c2 z rs m tp d w1 (hr.ext hE) hz hz' hm hto hd (fun i hi h1 => right_flow (hfit _ (rl_mem hi)) h1))
  have HLOW := hide (fun i (hi : i < rs.length) (h1 : (rl rs i).1 = 1) => right_low (hfit _ (rl_mem hi)) h1)
  have HRS := hide hr
  have HZ := hide hz
  obtain ⟨bt, hbt⟩ : ∃ b, b = LatM.botN n L := ⟨_, rfl⟩
  have hbtn : bt < n := by rw [hbt]; exact LatM.botN_lt hlat
  rw [← hbt] at HBot
  have HD0 := hide (fun p : Int => (show bt = dLvl n L rs p 0 from hbt))
  have HJL := hide (fun u v (hu : u < n) (hv : v < n) => (LatM.jn_eq hlat hu hv).2)
  have HDL := hide (show dLeast n L rs m = dOut n L rs m m from rfl)
  clear hj hb hr hz hlat h hsq hn hL hfit hbt
  go_enter Tryz.func63, Tryz.ntmps63
  go_wp2_with fail
  go_loopw [8, 7] (fun i o wr => ∃ (p : Nat) (Ao : Option Addr) (co : Nat), p ≤ m ∧ i = .int .i64 (p : Int) ∧ o = .slice Ao p co ∧ wr.ownsRow w.heap.size 3 1 (.slice Ao p co) p (natCells (dOut n L rs m p)) ∧ Ext w wr) (fun i _ _ => m - (intOf i).toNat)
  case atStart => exact ⟨0, none, 0, Nat.zero_le _, rfl, rfl, World.ownsRow_nil _ _ _ _, Ext.rfl' w⟩
  case round =>
    obtain ⟨p, Ao, co, hp, rfl, rfl, hO, hE⟩ := hrel
    have HO := hide hO
    have HE := hide hE
    clear hO hE
    by_cases hlt : p < m
    · have HB1 := hide (HBot.out wr HE.out)
      have HST := hide (dOut_step n L rs m p)
      go_wp2_with fail
      refine HB1.out.mono ?_
      rintro e w' ⟨rfl, rfl⟩
      clear HB1
      obtain ⟨wo, hwo⟩ : ∃ wo : World, wo = wr := ⟨_, rfl⟩
      rw [← hwo] at HO HE ⊢
      clear hwo
      go_wp2_with fail
      go_loopw [10, 9] (fun i v wr => ∃ (d u : Nat), d ≤ m ∧ i = .int .i64 (d : Int) ∧ v = .int .i64 (u : Int) ∧ u < n ∧ Ext wo wr ∧ Hid (u = dLvl n L rs (p : Int) d)) (fun i _ _ => m - (intOf i).toNat)
      case atStart => exact ⟨0, bt, Nat.zero_le _, rfl, rfl, hbtn, Ext.rfl' _, HD0.out _⟩
      case round =>
        obtain ⟨d, u, hd, rfl, rfl, hun, hEr, HU⟩ := hrel
        have HEr := hide hEr
        clear hEr
        by_cases hdm : d < m
        · have HR1 := hide (HRE.out wr (HE.out.trans' HEr.out) p d hlt (by omega))
          obtain ⟨now, hnow⟩ : ∃ l, l = nowAt rs (p : Int) d := ⟨_, rfl⟩
          have hnx : dLvl n L rs (p : Int) (d + 1) = dRow n L rs now u z := by rw [HU.out, hnow, HZ.out]; rfl
          rw [← hnow] at HR1
          have HNX := hide hnx
          clear hnow hnx
          go_wp2_with fail
          refine HR1.out.mono ?_
          rintro e wi ⟨g, rfl, hI⟩
          have HI := hide hI
          have HEi := hide (HEr.out.trans' hI.2.1)
          have HEw := hide (HE.out.trans' HEi.out)
          clear hI HR1
          go_wp2_with fail
          go_loop [12, 9] (fun i v => ∃ (k x : Nat), k ≤ z ∧ i = .int .i64 (k : Int) ∧ v = .int .i64 (x : Int) ∧ x < n ∧ Hid (x = dRow n L rs now u k)) (fun i _ => z - (intOf i).toNat)
          case atStart => exact ⟨0, u, Nat.zero_le _, rfl, rfl, hun, rfl⟩
          case round =>
            obtain ⟨k, x, hk, rfl, rfl, hxn, HX⟩ := hrel
            by_cases hkz : k < z
            · have hkl : k < rs.length := by rw [← HZ.out]; exact hkz
              obtain ⟨b, o, rfl, hbs, hcell⟩ := HRS.out.cell (by omega)
              obtain ⟨p0, p1, p2⟩ := hcell k hkl
              have q0 := (HEw.out.cell (p := ⟨b, o + k * 3, none⟩) hbs).trans p0
              have q1 := (HEw.out.cell (p := ⟨b, o + k * 3 + 1, none⟩) hbs).trans p1
              have q2 := (HEw.out.cell (p := ⟨b, o + k * 3 + 2, none⟩) hbs).trans p2
              have hlow := HLOW.out k hkl
              have hhit := fun h1 h2 => dRow_hit (n := n) (L := L) (rs := rs) (now := now) (lvl := u) (k := k) h1 h2
              have hmiss := fun h1 => dRow_miss (n := n) (L := L) (rs := rs) (now := now) (lvl := u) (k := k) h1
              obtain ⟨r, hr⟩ : ∃ r, r = rl rs k := ⟨_, rfl⟩
              rw [← hr] at q0 q1 q2 hlow hhit hmiss
              obtain ⟨r0, r1, r2⟩ := r
              simp only at q0 q1 q2 hlow hhit hmiss
              have i0 : (0 : Int) ≤ (k : Int) := by omega
              have i1 : (k : Int) < (z : Int) := by omega
              by_cases h1 : r0 = 1
              · obtain ⟨ha, hbb⟩ := hlow h1
                rw [inZ_iff] at ha hbb
                obtain ⟨a', rfl⟩ := Int.eq_ofNat_of_zero_le ha.1
                obtain ⟨b', rfl⟩ := Int.eq_ofNat_of_zero_le hbb.1
                have hbm : b' < m := by omega
                have han : a' < n := by omega
                have hc := HI.out.cell b' hbm
                obtain ⟨v, hv⟩ : ∃ v, v = hasV now b' := ⟨_, rfl⟩
                rw [← hv] at hc
                have i2 : (0 : Int) ≤ (b' : Int) := by omega
                have i3 : (b' : Int) < (m : Int) := by omega
                subst h1
                cases v with
                | true =>
                  have hs := hhit rfl hv.symm
                  rw [← HX.out, Int.toNat_natCast] at hs
                  have HJ1 := hide (HJ.out wi HEw.out x a' hxn han)
                  have hjn := HJL.out x a' hxn han
                  obtain ⟨y, hy⟩ : ∃ y, y = LatM.jn n L x a' := ⟨_, rfl⟩
                  rw [← hy] at hs HJ1 hjn
                  have HS := hide hs
                  clear hs hhit hmiss hlow ha hbb hv hcell p0 p1 p2 hr hkl hy
                  go_wp2_with fail
                  refine HJ1.out.mono ?_
                  rintro e w' ⟨rfl, rfl⟩
                  go_wp2_with fail
                  go_round
                  case rel => exact ⟨k + 1, y, by omega, by go_num, rfl, hjn, HS.out.symm⟩
                  case measure => simp [intOf]; omega
                | false =>
                  have hs := hmiss (.inr hv.symm)
                  rw [← HX.out] at hs
                  have HS := hide hs
                  clear hs hhit hmiss hlow ha hbb hv hcell p0 p1 p2 hr hkl
                  go_wp2_with fail
                  go_round
                  case rel => exact ⟨k + 1, x, by omega, by go_num, rfl, hxn, HS.out.symm⟩
                  case measure => simp [intOf]; omega
              · have hne : (r0 == 1) = false := by simpa using h1
                have hs := hmiss (.inl h1)
                rw [← HX.out] at hs
                have HS := hide hs
                clear hs hhit hmiss hlow hcell p0 p1 p2 hr hkl h1
                go_wp2_with fail
                go_round
                case rel => exact ⟨k + 1, x, by omega, by go_num, rfl, hxn, HS.out.symm⟩
                case measure => simp [intOf]; omega
            · obtain rfl : k = z := by omega
              go_wp2_with fail
              go_roundw
              case rel => exact ⟨d + 1, x, by omega, by go_num, rfl, hxn, HEi.out, by rw [HNX.out]; exact HX.out⟩
              case measure => simp [intOf]; omega
        · obtain rfl : d = m := by omega
          have hO2 := own_ext HO.out HEr.out
          have HO2 := hide hO2
          have hE2 := HE.out.trans' HEr.out
          have hsz := hE2.size
          have HE2 := hide hE2
          clear hO2 hE2
          go_wp2_with (at_builtin; refine wpList_append_Nat _ rfl _ _ rfl w.heap.size _ p (dOut n L rs d p) rfl wr.heap.size u _ rfl (HO2.out.alloc _) (reads_new _ _ _) (by omega) (by simp; omega) ?_)
          intro A3 c3 w3 hown3 hgrow3 _
          have HE3 := hide (grown_ext' (w := w) (wr := wr) (base := w.heap.size) HE2.out ((Ext.rfl' wr).alloc (Nat.le_refl _) _) hgrow3 HO2.out (Nat.le_refl _))
          rw [HU.out, ← HST.out] at hown3
          have HO3 := hide hown3
          clear hown3 hgrow3
          go_wp2_with fail
          go_roundw
          case rel => exact ⟨p + 1, A3, c3, by omega, by go_num, rfl, HO3.out, HE3.out⟩
          case measure => simp [intOf]; omega
    · obtain rfl : p = m := by omega
      go_wp2_with fail
      go_ret
      refine ⟨Ao, co, by rw [HDL.out, dOut_len]; rfl, ?_, HE.out⟩
      unfold NatAt
      rw [HDL.out, dOut_len]
      exact Reads.of_own HO.out
end Go.Proofs.YtpjlhpaenmfieaaGreat
