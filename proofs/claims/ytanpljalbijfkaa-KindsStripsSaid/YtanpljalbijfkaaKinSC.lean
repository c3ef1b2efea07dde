/- kinds: Strip, walked. (Printed by wip/gen_kinsc.py.) -/
import Derived.Test.YtanpljalbijfkaaKinSB
import Derived.Test.YtanpljalbijfkaaKinYs
namespace Go.Proofs.Ytanpljalbijfkaa
open Go.RowKit

/-- A stripped type lies in blocks that the call has made. -/
def StripPost (t : Ty) (w : World) (e : Ending) (w' : World) : Prop := ∃ us : List Value, e = .returned (.agg us.toArray) ∧ Held w.heap.size w'.heap.size w' (fun w2 => TyAt w2 w'.heap.size (strip t) us) ∧ Ext w w'
def StrC (t : Ty) : Prop := ∀ (w : World) (vs : List Value), TyAt w w.heap.size t vs → Calls Try.prog 15 #[.agg vs.toArray] w (StripPost t w)
/-- The parts that have been stripped so far. -/
def Row (w : World) (own : Option Nat) (B0 k : Nat) (p : Nat → PtH) (t : Nat → Ty) (xs : List Value) : Prop :=
  ∃ us : Nat → List Value, xs = (List.range k).flatMap us ∧ ∀ i, i < k → ∃ lo hi, B0 ≤ lo ∧ hi ≤ w.heap.size ∧ (∀ g, own = some g → g < lo ∨ hi ≤ g) ∧ Held lo hi w (fun w2 => PartAt w2 hi (strP (p i)) (strip (t i)) (us i))
theorem Row.len {w : World} {own : Option Nat} {B0 k : Nat} {p : Nat → PtH} {t : Nat → Ty} {us : Nat → List Value} (h : ∀ i, i < k → ∃ lo hi, B0 ≤ lo ∧ hi ≤ w.heap.size ∧ (∀ g, own = some g → g < lo ∨ hi ≤ g) ∧ Held lo hi w (fun w2 => PartAt w2 hi (strP (p i)) (strip (t i)) (us i))) : ∀ i, i < k → (us i).length = 18 := fun i hi => by
  obtain ⟨lo, hi', _, _, _, hh⟩ := h i hi
  exact hh.now.len
theorem flat_congr {l : List Nat} {f g : Nat → List Value} (h : ∀ i, i ∈ l → f i = g i) : l.flatMap f = l.flatMap g := by
  induction l with
  | nil => rfl
  | cons a r ih => rw [List.flatMap_cons, List.flatMap_cons, h a (List.mem_cons_self ..), ih (fun i hi => h i (List.mem_cons_of_mem _ hi))]
/-- One more part, laid in the span of the round; the row may have moved. -/
theorem Row.more {w w' : World} {own own' : Option Nat} {B0 k lo hi : Nat} {p : Nat → PtH} {t : Nat → Ty} {xs v : List Value} (h : Row w own B0 k p t xs) (hB : B0 ≤ lo) (hlo : lo = w.heap.size) (hhi : hi ≤ w'.heap.size) (hsz : w.heap.size ≤ w'.heap.size)
    (ho : ∀ g, own = some g → g < lo) (ho' : ∀ g, own' = some g → own = some g ∨ hi ≤ g) (hag : ∀ lo2 hi2, B0 ≤ lo2 → hi2 ≤ w.heap.size → (∀ g, own = some g → g < lo2 ∨ hi2 ≤ g) → Agree lo2 hi2 w w') (hnew : Held lo hi w' (fun w2 => PartAt w2 hi (strP (p k)) (strip (t k)) v)) (hle : w.heap.size ≤ hi) :
    Row w' own' B0 (k + 1) p t (xs ++ v) := by
  obtain ⟨us, rfl, hu⟩ := h
  refine ⟨fun i => if i = k then v else us i, ?_, fun i hi' => ?_⟩
  · rw [List.range_succ, List.flatMap_append, List.flatMap_singleton, if_pos rfl]
    congr 1
    refine flat_congr (fun i hi2 => ?_)
    rw [if_neg (Nat.ne_of_lt (List.mem_range.1 hi2))]
  · by_cases e : i = k
    · subst e
      refine ⟨lo, hi, hB, hhi, fun g hg => ?_, by simpa using hnew⟩
      rcases ho' g hg with q | q
      · exact .inl (ho g q)
      · exact .inr q
    · obtain ⟨lo2, hi2, q1, q2, q3, q4⟩ := hu i (by omega)
      refine ⟨lo2, hi2, q1, Nat.le_trans q2 hsz, fun g hg => ?_, ?_⟩
      · rcases ho' g hg with q | q
        · exact q3 g q
        · exact .inr (by omega)
      · simp only [if_neg e]
        exact q4.go (Nat.le_refl _) (Nat.le_refl _) (hag lo2 hi2 q1 q2 q3)
theorem Row.go {w w' : World} {own : Option Nat} {B0 k : Nat} {p : Nat → PtH} {t : Nat → Ty} {xs : List Value} (h : Row w own B0 k p t xs) (hsz : w.heap.size ≤ w'.heap.size) (hag : ∀ lo2 hi2, B0 ≤ lo2 → hi2 ≤ w.heap.size → (∀ g, own = some g → g < lo2 ∨ hi2 ≤ g) → Agree lo2 hi2 w w') : Row w' own B0 k p t xs := by
  obtain ⟨us, e, hu⟩ := h
  refine ⟨us, e, fun i hi => ?_⟩
  obtain ⟨lo2, hi2, q1, q2, q3, q4⟩ := hu i hi
  exact ⟨lo2, hi2, q1, Nat.le_trans q2 hsz, q3, q4.go (Nat.le_refl _) (Nat.le_refl _) (hag lo2 hi2 q1 q2 q3)⟩
theorem WdsAt.up {w : World} {B B' : Nat} {A : Option Addr} {l : List Wd} (h : WdsAt w B A l) (hB : B ≤ B') : WdsAt w B' A l := Reads.more h hB
/-- The stripped type, when its names and its parts lie there. -/
theorem strip_made {w' : World} {lo B0 n co cn : Nat} {h : TyH} {p : Nat → PtH} {t : Nat → Ty} {An Ao : Option Addr} {xs : List Value} {lo1 hi1 base : Nat} (hn1 : Held lo1 hi1 w' (fun w2 => WdsAt w2 hi1 An (bareWs h.names))) (hlo1 : lo ≤ lo1) (hhi1 : hi1 ≤ w'.heap.size)
    (hO : w'.ownsRow base 52 18 (.slice Ao n co) n xs) (hb : lo ≤ base) (hR : Row w' (Value.ownBlock (.slice Ao n co)) B0 n p t xs) (hB : lo ≤ B0) :
    Held lo w'.heap.size w' (fun w2 => TyAt w2 w'.heap.size (strip (.mk h n p t)) (tyV (strH h) An cn Ao n co)) := by
  intro w2 ha
  have hrd : Reads w2 w'.heap.size 18 Ao n xs := reads_held hO w2 (ha.sub hb (Nat.le_refl _))
  obtain ⟨us, rfl, hu⟩ := hR
  have hlen := Row.len hu
  rw [strip_mk]
  refine ⟨An, cn, Ao, co, rfl, (hn1 w2 (ha.sub hlo1 hhi1)).up hhi1, fun h0 => ?_⟩
  obtain ⟨b, o, e, hbb, hc⟩ := hrd.form h0 (by omega)
  refine ⟨b, o, e, hbb, fun i hi => ?_⟩
  obtain ⟨lo2, hi2, q1, q2, q3, q4⟩ := hu i hi
  obtain ⟨Al, cl, Ac, cc, vt, e2, g1, g2, g3⟩ := q4 w2 (ha.sub (Nat.le_trans hB q1) q2)
  refine ⟨Al, cl, Ac, cc, vt, fun j v hv => ?_, g1.up q2, g2.up q2, g3.more q2⟩
  rw [← e2] at hv
  have := hc (i * 18 + j) v (flat_get hlen hi hv)
  rw [← Nat.add_assoc] at this
  exact this

theorem infoTyA {vs : List Value} (h : vs.length = 9) : (Try.prog.info? 27).map (·.size) = some vs.toArray.size := by
  rw [List.size_toArray, h]; kernel_rfl

set_option maxRecDepth 100000 in
set_option maxHeartbeats 8000000 in
theorem strip_walk (h : TyH) (n : Nat) (p : Nat → PtH) (t : Nat → Ty) (w : World) (vs : List Value) (hT : TyAt w w.heap.size (.mk h n p t) vs) (hsz : TySz (.mk h n p t)) (hsub : ∀ i, i < n → StrC (t i)) :
    Calls Try.prog 15 #[.agg vs.toArray] w (StripPost (.mk h n p t) w) := by
  obtain ⟨An, cn, Ap, cp, hvs, hwd, hpp⟩ := hT.open_
  have hwords := fun w1 (hE : Ext w w1) => words_held An cn h.names.length h.names w1 (hwd.ext hE) rfl hsz.1.1
  have hmade := fun (w' : World) (lo1 hi1 base co B0 cn' : Nat) (An' Ao : Option Addr) (xs : List Value) q1 q2 q3 q4 q5 q6 q7 => strip_made (w' := w') (lo := w.heap.size) (h := h) (n := n) (p := p) (t := t) (lo1 := lo1) (hi1 := hi1) (base := base) (co := co) (B0 := B0) (cn := cn') (An := An') (Ao := Ao) (xs := xs) q1 q2 q3 q4 q5 q6 q7
  unfold tyV at hvs
  rw [show strH h = ⟨h.kind, 0, h.lo, h.hi, h.most, bareWs h.names, (h.name.1, 0)⟩ from rfl] at hmade
  unfold tyV at hmade
  simp only [bareWs_length] at hmade
  subst hvs
  obtain ⟨kd, hkd⟩ : ∃ x, x = h.kind := ⟨_, rfl⟩
  obtain ⟨a, ha⟩ : ∃ x, x = h.at_ := ⟨_, rfl⟩
  obtain ⟨lo, hlo'⟩ : ∃ x, x = h.lo := ⟨_, rfl⟩
  obtain ⟨hi, hhi⟩ : ∃ x, x = h.hi := ⟨_, rfl⟩
  obtain ⟨mo, hmo⟩ : ∃ x, x = h.most := ⟨_, rfl⟩
  obtain ⟨nn, hnn⟩ : ∃ x, x = h.names.length := ⟨_, rfl⟩
  obtain ⟨s0, hs0⟩ : ∃ x, x = h.name.1 := ⟨_, rfl⟩
  obtain ⟨s1, hs1⟩ : ∃ x, x = h.name.2 := ⟨_, rfl⟩
  rw [← hkd, ← hlo', ← hhi, ← hmo, ← hnn, ← hs0] at hmade
  rw [← hnn] at hwords
  unfold WordsHeld at hwords
  rw [← hnn] at hwords
  show Calls Try.prog 15 #[.agg #[.int .i64 h.kind, .int .i64 h.at_, .int .i64 h.lo, .int .i64 h.hi, .int .i64 h.most, .slice An h.names.length cn, .slice Ap n cp, .string h.name.1, .int .i64 h.name.2]] w _
  rw [← hkd, ← ha, ← hlo', ← hhi, ← hmo, ← hnn, ← hs0, ← hs1]
  obtain ⟨POST, hPOST⟩ : ∃ x, x = StripPost (.mk h n p t) w := ⟨_, rfl⟩
  rw [← hPOST]
  have hfin : ∀ us w', Held w.heap.size w'.heap.size w' (fun w2 => TyAt w2 w'.heap.size (strip (.mk h n p t)) us) → Ext w w' → POST (.returned (.agg us.toArray)) w' := fun us w' q1 q2 => by rw [hPOST]; exact ⟨us, rfl, q1, q2⟩
  have hnB := hsz.2.2.1
  have hszp := hsz.2.2.2
  obtain ⟨w0, hw0⟩ : ∃ x, x = (w.alloc (.cells #[.int .i64 kd, .int .i64 a, .int .i64 lo, .int .i64 hi, .int .i64 mo, .slice An nn cn, .slice Ap n cp, .string s0, .int .i64 s1] 27)).alloc (.cells #[.int .i64 0, .int .i64 0, .int .i64 0, .int .i64 0, .int .i64 0, .slice none 0 0, .slice none 0 0, .string ⟨#[]⟩, .int .i64 0] 27) := ⟨_, rfl⟩
  have hT0 : Blk w0 w.heap.size 27 #[.int .i64 kd, .int .i64 a, .int .i64 lo, .int .i64 hi, .int .i64 mo, .slice An nn cn, .slice Ap n cp, .string s0, .int .i64 s1] := by rw [hw0]; exact (Blk.new _ _ _).alloc _
  have hF0 : Blk w0 (w.heap.size + 1) 27 #[.int .i64 0, .int .i64 0, .int .i64 0, .int .i64 0, .int .i64 0, .slice none 0 0, .slice none 0 0, .string ⟨#[]⟩, .int .i64 0] := by
    rw [hw0]; have := Blk.new (w.alloc (.cells #[.int .i64 kd, .int .i64 a, .int .i64 lo, .int .i64 hi, .int .i64 mo, .slice An nn cn, .slice Ap n cp, .string s0, .int .i64 s1] 27)) 27 #[.int .i64 0, .int .i64 0, .int .i64 0, .int .i64 0, .int .i64 0, .slice none 0 0, .slice none 0 0, .string ⟨#[]⟩, .int .i64 0]; simpa only [World.size_alloc] using this
  have hE0 : Ext w w0 := by rw [hw0]; exact ((Ext.rfl' w).alloc (Nat.le_refl _) _).alloc (by simp only [World.size_alloc]; omega) _
  have hsz0 : w0.heap.size = w.heap.size + 2 := by rw [hw0]; simp only [World.size_alloc]
  obtain ⟨w1, hw1⟩ : ∃ x, x = (w0.setCell ⟨w.heap.size, 1, none⟩ (.int .i64 0)).setCell ⟨w.heap.size, 8, none⟩ (.int .i64 0) := ⟨_, rfl⟩
  have n1 : w.heap.size + 1 ≠ w.heap.size := by omega
  have hT1 : Blk w1 w.heap.size 27 #[.int .i64 kd, .int .i64 0, .int .i64 lo, .int .i64 hi, .int .i64 mo, .slice An nn cn, .slice Ap n cp, .string s0, .int .i64 0] := by rw [hw1]; exact (hT0.set_ 1 _).set_ 8 _
  have hF1 : Blk w1 (w.heap.size + 1) 27 #[.int .i64 0, .int .i64 0, .int .i64 0, .int .i64 0, .int .i64 0, .slice none 0 0, .slice none 0 0, .string ⟨#[]⟩, .int .i64 0] := by rw [hw1]; exact (hF0.far n1 _).far n1 _
  have hE1 : Ext w w1 := by rw [hw1]; exact (hE0.setCell (Nat.le_refl _) _).setCell (Nat.le_refl _) _
  have hsz1 : w1.heap.size = w.heap.size + 2 := by rw [hw1, size_setCell', size_setCell', hsz0]
  obtain ⟨gf, hgf⟩ : ∃ g, g = w.heap.size + 1 := ⟨_, rfl⟩
  obtain ⟨gt, hgt⟩ : ∃ g, g = w.heap.size := ⟨_, rfl⟩
  obtain ⟨base, hbase⟩ : ∃ g, g = w.heap.size + 2 := ⟨_, rfl⟩
  have hgtb : gt < base := by omega
  have hgfb : gf < base := by omega
  have hwb : w.heap.size ≤ base := by omega
  have hwt : w.heap.size ≤ gt := by omega
  have hwf : w.heap.size ≤ gf := by omega
  have hft : gf ≠ gt := by omega
  rw [← hgf] at hF1
  rw [← hgt] at hT1 hw1
  rw [← hbase] at hsz1
  have hT0' : Blk w0 gt 27 #[.int .i64 kd, .int .i64 a, .int .i64 lo, .int .i64 hi, .int .i64 mo, .slice An nn cn, .slice Ap n cp, .string s0, .int .i64 s1] := by rw [hgt]; exact hT0
  have HFIN := hide hfin
  have HMADE := hide hmade
  have HWORDS := hide hwords
  have HPP := hide hpp
  have HSZP := hide hszp
  have HNB := hide hnB
  have HSUB := hide hsub
  have HW0 := hide hw0
  have HW1 := hide hw1
  have HT1 := hide hT1
  have HF1 := hide hF1
  have HE1 := hide hE1
  have HGF := hide hgf
  have HGT := hide hgt
  have HS1 := hide hsz1
  have HTB := hide hgtb
  have HFB := hide hgfb
  have HWB := hide hwb
  have HWT := hide hwt
  have HWF := hide hwf
  have HFT := hide hft
  have t1 := hT0'.cell 1
  have t8 := hT0'.cell 8
  have tf1 := hT0'.free 1
  have tf8 := hT0'.free 8
  simp only [List.getElem?_toArray, List.getElem?_cons_zero, List.getElem?_cons_succ] at t1 t8
  clear hfin hmade hwords hpp hszp hnB hsub hw0 hw1 hT1 hF1 hE1 hgf hgt hsz1 hgtb hgfb hwb hwt hwf hft hT0 hT0' hF0 hE0 hsz0 n1 hbase hPOST hkd ha hlo' hhi hmo hnn hs0 hs1 hT hsz hwd
  go_enter Try.func15, Try.ntmps15
  go_upto_region 1 with fail
  rw [← HW0.out, ← HGF.out, ← HGT.out]
  go_upto_region 2 with fail
  rw [← HW1.out]
  clear t1 t8 tf1 tf8
  have t5 := HT1.out.cell 5
  simp only [List.getElem?_toArray, List.getElem?_cons_zero, List.getElem?_cons_succ] at t5
  go_wp2_with fail
  refine (HWORDS.out _ HE1.out).mono ?_
  rintro e w2 ⟨A1, c1, rfl, hA1, hE2⟩
  obtain ⟨w3, hw3⟩ : ∃ x, x = w2.setCell ⟨gt, 5, none⟩ (.slice A1 nn c1) := ⟨_, rfl⟩
  have hT2 := HT1.out.ext hE2
  have hT3 : Blk w3 gt 27 #[.int .i64 kd, .int .i64 0, .int .i64 lo, .int .i64 hi, .int .i64 mo, .slice A1 nn c1, .slice Ap n cp, .string s0, .int .i64 0] := by rw [hw3]; exact hT2.set_ 5 _
  have hF3 : Blk w3 gf 27 #[.int .i64 0, .int .i64 0, .int .i64 0, .int .i64 0, .int .i64 0, .slice none 0 0, .slice none 0 0, .string ⟨#[]⟩, .int .i64 0] := by rw [hw3]; exact (HF1.out.ext hE2).far HFT.out _
  have hE3 : Ext w w3 := by rw [hw3]; exact (HE1.out.trans' hE2).setCell HWT.out _
  have hs3 : w3.heap.size = w2.heap.size := by rw [hw3, size_setCell']
  have hb3 : base ≤ w3.heap.size := by rw [hs3, ← HS1.out]; exact hE2.size
  have hA3 : Held base w3.heap.size w3 (fun w2' => WdsAt w2' w3.heap.size A1 (bareWs h.names)) := by
    rw [hs3, ← HS1.out, hw3]
    exact hA1.go (Nat.le_refl _) (Nat.le_refl _) (Agree.set (.inl (by rw [HS1.out]; exact HTB.out)) _)
  obtain ⟨N, hN⟩ : ∃ N, N = w3.heap.size := ⟨_, rfl⟩
  have HA3 := hide (show Held base N w3 (fun w2' => WdsAt w2' N A1 (bareWs h.names)) by rw [hN]; exact hA3)
  have HNN := hide hN
  have HT3 := hide hT3
  have HF3 := hide hF3
  have HE3 := hide hE3
  have HB3 := hide hb3
  have HW3 := hide hw3
  have t5 := hT2.cell 5
  have tf5 := hT2.free 5
  simp only [List.getElem?_toArray, List.getElem?_cons_zero, List.getElem?_cons_succ] at t5
  clear hT2 hT3 hF3 hE3 hs3 hb3 hA3 hw3 hA1 hE2 hN
  go_upto_region 3 with fail
  rw [← HW3.out]
  clear t5 tf5
  have t0 := HT3.out.cell 0
  have t1 := HT3.out.cell 1
  have t2 := HT3.out.cell 2
  have t3 := HT3.out.cell 3
  have t4 := HT3.out.cell 4
  have t5 := HT3.out.cell 5
  have t6 := HT3.out.cell 6
  have t7 := HT3.out.cell 7
  have t8 := HT3.out.cell 8
  simp only [List.getElem?_toArray, List.getElem?_cons_zero, List.getElem?_cons_succ] at t0 t1 t2 t3 t4 t5 t6 t7 t8
  have tf1 := HT3.out.free 1
  have tf5 := HT3.out.free 5
  have tf6 := HT3.out.free 6
  have tf8 := HT3.out.free 8
  go_wp2_with fail
  clear t0 t1 t2 t3 t4 t5 t6 t7 t8 tf1 tf5 tf6 tf8
  go_loopw [16, 3] (fun i o wr => ∃ (k : Nat) (Ao : Option Addr) (co : Nat) (xs : List Value), k ≤ n ∧ i = .int .i64 k ∧ o = .slice Ao k co ∧ Ext w wr ∧ Blk wr gt 27 #[.int .i64 kd, .int .i64 0, .int .i64 lo, .int .i64 hi, .int .i64 mo, .slice A1 nn c1, .slice Ap n cp, .string s0, .int .i64 0] ∧ Blk wr gf 27 #[.int .i64 0, .int .i64 0, .int .i64 0, .int .i64 0, .int .i64 0, .slice none 0 0, .slice none 0 0, .string ⟨#[]⟩, .int .i64 0] ∧ N ≤ wr.heap.size ∧ Agree base N w3 wr ∧ wr.ownsRow N 52 18 (.slice Ao k co) k xs ∧ Row wr (Value.ownBlock (.slice Ao k co)) N k p t xs) (fun i _ _ => n - (intOf i).toNat)
  case atStart => exact ⟨0, none, 0, [], Nat.zero_le _, rfl, rfl, HE3.out, HT3.out, HF3.out, by rw [HNN.out]; exact Nat.le_refl _, .rfl' _ _ _, World.ownsRow_nil _ _ _ _, ⟨fun _ => [], rfl, fun i hi => absurd hi (Nat.not_lt_zero i)⟩⟩
  case round =>
    obtain ⟨k, Ao, co, xs, hk, rfl, rfl, hE, hTr, hFr, hNr, hAg, hO, hR⟩ := hrel
    have HE := hide hE
    have HTr := hide hTr
    have HFr := hide hFr
    have HNr := hide hNr
    have HAg := hide hAg
    have HO := hide hO
    have HR := hide hR
    have hNg : ∀ g, Value.ownBlock (.slice Ao k co) = some g → N ≤ g ∧ g < wr.heap.size := hO.lt
    have hTN : gt < N := Nat.lt_of_lt_of_le HTB.out (by rw [HNN.out]; exact HB3.out)
    have hFN : gf < N := Nat.lt_of_lt_of_le HFB.out (by rw [HNN.out]; exact HB3.out)
    by_cases hlt : k < n
    · obtain ⟨b, o, rfl, hbs, hcell⟩ := HPP.out (by omega)
      obtain ⟨vs, hr0, hpa⟩ := hcell k hlt
      have hs := HSZP.out k hlt
      have hr1 : wr.rangeAt b (o + k * 18) vs := fun j v hv => (hE.cell (p := ⟨b, o + k * 18 + j, none⟩) hbs).trans (hr0 j v hv)
      have hvl : vs.length = 18 := hpa.len
      have hvo : vs.toArray.all (·.oneCell') = true := hpa.one
      obtain ⟨Al, cl, Ac, cc, vt, hvs, hlb, hcc, htt⟩ := id hpa
      have htl : vt.length = 9 := by obtain ⟨y0, y1, y2, y3, y4, y5, y6, y7, y8, e⟩ := htt.nine; rw [e]; rfl
      have hwl := fun w1 (hE : Ext w w1) => words_held Al cl (p k).label.length (p k).label w1 (hlb.ext hE) rfl hs.2.1.1
      have hwc := fun w1 (hE : Ext w w1) => words_held Ac cc (p k).cl.length (p k).cl w1 (hcc.ext hE) rfl hs.2.2.1.1
      have hst := fun w1 (hE : Ext w w1) => HSUB.out k hlt w1 vt (htt.ext hE)
      have hpart : ∀ (w' : World) (B : Nat) (A2 A4 : Option Addr) (c2 c4 : Nat) (us : List Value), WdsAt w' B A2 (bareWs (p k).label) → WdsAt w' B A4 (bareWs (p k).cl) → TyAt w' B (strip (t k)) us → PartAt w' B (strP (p k)) (strip (t k)) (ptV (strP (p k)) A2 c2 A4 c4 ++ us) := fun w' B A2 A4 c2 c4 us q1 q2 q3 => ⟨A2, c2, A4, c4, us, rfl, q1, q2, q3⟩
      rw [show strP (p k) = ⟨((p k).name.1, 0), (p k).bare, bareWs (p k).label, (p k).wide, (p k).ck, (p k).cn, 0, bareWs (p k).cl⟩ from rfl] at hpart
      unfold ptV at hpart hvs
      simp only [bareWs_length] at hpart
      unfold WordsHeld at hwl hwc
      obtain ⟨nm, hnm⟩ : ∃ x, x = (p k).name.1 := ⟨_, rfl⟩
      obtain ⟨a5, ha5⟩ : ∃ x, x = (p k).name.2 := ⟨_, rfl⟩
      obtain ⟨br, hbr⟩ : ∃ x, x = (p k).bare := ⟨_, rfl⟩
      obtain ⟨nl, hnl⟩ : ∃ x, x = (p k).label.length := ⟨_, rfl⟩
      obtain ⟨wi, hwi⟩ : ∃ x, x = (p k).wide := ⟨_, rfl⟩
      obtain ⟨ck, hck⟩ : ∃ x, x = (p k).ck := ⟨_, rfl⟩
      obtain ⟨cnn, hcn⟩ : ∃ x, x = (p k).cn := ⟨_, rfl⟩
      obtain ⟨ca, hca⟩ : ∃ x, x = (p k).cat := ⟨_, rfl⟩
      obtain ⟨nc, hnc⟩ : ∃ x, x = (p k).cl.length := ⟨_, rfl⟩
      rw [← hnm, ← ha5, ← hbr, ← hnl, ← hwi, ← hck, ← hcn, ← hca, ← hnc] at hvs
      have hpart2 : ∀ (w' : World) (B : Nat) (A2 A4 : Option Addr) (c2 c4 : Nat) (us : List Value), WdsAt w' B A2 (bareWs (p k).label) → WdsAt w' B A4 (bareWs (p k).cl) → TyAt w' B (strip (t k)) us → PartAt w' B (strP (p k)) (strip (t k)) (([.string nm, .int .i64 0, .bool br, .slice A2 nl c2, .int .i64 wi, .int .i64 ck, .int .i64 cnn, .int .i64 0, .slice A4 nc c4] : List Value) ++ us) := fun w' B A2 A4 c2 c4 us q1 q2 q3 => by
        rw [hnm, hbr, hnl, hwi, hck, hcn, hnc]
        exact hpart w' B A2 A4 c2 c4 us q1 q2 q3
      rw [← hnl] at hwl
      rw [← hnc] at hwc
      obtain ⟨w4, hw4⟩ : ∃ wz, wz = wr.alloc (.cells vs.toArray 52) := ⟨_, rfl⟩
      have hE4 : Ext wr w4 := by rw [hw4]; exact (Ext.rfl' wr).alloc (Nat.le_refl _) _
      have hP4 : Blk w4 wr.heap.size 52 (([.string nm, .int .i64 a5, .bool br, .slice Al nl cl, .int .i64 wi, .int .i64 ck, .int .i64 cnn, .int .i64 ca, .slice Ac nc cc] : List Value) ++ vt).toArray := by rw [hw4, ← hvs]; exact Blk.new _ _ _
      have hs4 : w4.heap.size = wr.heap.size + 1 := by rw [hw4]; simp only [World.size_alloc]
      obtain ⟨LO, hLO⟩ : ∃ x, x = wr.heap.size := ⟨_, rfl⟩
      obtain ⟨gv, hgv⟩ : ∃ g, g = wr.heap.size := ⟨_, rfl⟩
      rw [← hgv] at hP4
      have hvL : gv < w4.heap.size := by omega
      obtain ⟨w5, hw5⟩ : ∃ x, x = w4.setCell ⟨gv, 1, none⟩ (.int .i64 0) := ⟨_, rfl⟩
      have hP5 : Blk w5 gv 52 (([.string nm, .int .i64 0, .bool br, .slice Al nl cl, .int .i64 wi, .int .i64 ck, .int .i64 cnn, .int .i64 ca, .slice Ac nc cc] : List Value) ++ vt).toArray := by rw [hw5]; exact blk_set9 hP4 (i := 1) (show 1 < 9 by decide) _
      have hE5 : Ext wr w5 := by rw [hw5]; exact hE4.setCell (by rw [hgv]; exact Nat.le_refl _) _
      have hs5 : w5.heap.size = LO + 1 := by rw [hw5, size_setCell', hs4, hLO]
      have u1 := hP4.cell 1
      have uf1 := hP4.free 1
      have HVO := hide hvo
      have HVL := hide hvl
      have HTL := hide htl
      have HR1 := hide hr1
      have HWL := hide hwl
      have HWC := hide hwc
      have HST := hide hst
      have HPART := hide hpart2
      have HW4 := hide hw4
      have HGV := hide hgv
      have HLO := hide hLO
      have HW5 := hide hw5
      have HP5 := hide hP5
      have HE5 := hide hE5
      have HS5 := hide hs5
      have HVGL := hide (show gv = LO by rw [hLO]; exact hgv)
      have HNG := hide hNg
      have HTN := hide hTN
      have HFN := hide hFN
      have HK := hide hlt
      have i2 : (0 : Int) ≤ (k : Int) := by omega
      have i3 : (k : Int) < (n : Int) := by omega
      simp only [List.getElem?_toArray, List.cons_append, List.getElem?_cons_zero, List.getElem?_cons_succ] at u1
      clear hE hTr hFr hNr hAg hO hR hNg hTN hFN hcell hr0 hpa hs hr1 hvl hvo hvs hlb hcc htt htl hwl hwc hst hpart hpart2 hnm ha5 hbr hnl hwi hck hcn hca hnc hw4 hE4 hP4 hs4 hLO hgv hvL hw5 hP5 hE5 hs5
      go_upto_region 6 with fail
      refine wp_region_lit ?_
      refine wpList_plain rfl ?_
      intro K1 hK1
      go_simp
      refine hK1 _ _ ?_
      refine wpList_load_mid rfl 52 _ rfl b (o + k * 18) rfl vs _ HR1.out Try.underlying52 rfl (infoPart' HVL.out) ?_
      refine wpList_plain rfl ?_
      intro K2 hK2
      go_simp
      refine hK2 _ _ ?_
      refine wpList_store_new rfl 52 _ _ rfl _ vs.toArray rfl rfl (infoPartA HVL.out) (by show _ = vs.length; rw [HVL.out]; rfl) HVO.out ?_
      go_upto_region 7 with fail
      rw [← HW4.out, ← HGV.out]
      go_upto_region 8 with fail
      rw [← HW5.out]
      clear u1 uf1
      have v3 := HP5.out.cell 3
      have vf3 := HP5.out.free 3
      simp only [List.getElem?_toArray, List.cons_append, List.getElem?_cons_zero, List.getElem?_cons_succ] at v3
      go_wp2_with fail
      refine (HWL.out _ (HE.out.trans' HE5.out)).mono ?_
      rintro e w6 ⟨A2, c2, rfl, hA2, hE6⟩
      have hP6 := HP5.out.ext hE6
      obtain ⟨w7, hw7⟩ : ∃ x, x = (w6.setCell ⟨gv, 3, none⟩ (.slice A2 nl c2)).setCell ⟨gv, 7, none⟩ (.int .i64 0) := ⟨_, rfl⟩
      have hP7 : Blk w7 gv 52 (([.string nm, .int .i64 0, .bool br, .slice A2 nl c2, .int .i64 wi, .int .i64 ck, .int .i64 cnn, .int .i64 0, .slice Ac nc cc] : List Value) ++ vt).toArray := by rw [hw7]; exact blk_set9 (blk_set9 hP6 (i := 3) (show 3 < 9 by decide) (.slice A2 nl c2)) (i := 7) (show 7 < 9 by decide) _
      have hgvl : wr.heap.size ≤ gv := by rw [HVGL.out, HLO.out]; exact Nat.le_refl _
      have hE7 : Ext wr w7 := by rw [hw7]; exact ((HE5.out.trans' hE6).setCell hgvl _).setCell hgvl _
      have hs7 : w7.heap.size = w6.heap.size := by rw [hw7, size_setCell', size_setCell']
      have hA7 : Held (LO + 1) w7.heap.size w7 (fun w2' => WdsAt w2' w7.heap.size A2 (bareWs (p k).label)) := by
        rw [hs7, ← HS5.out, hw7]
        exact hA2.go (Nat.le_refl _) (Nat.le_refl _) ((Agree.set (.inl (by rw [HS5.out, HVGL.out]; exact Nat.lt_succ_self _)) _).trans' (Agree.set (.inl (by rw [HS5.out, HVGL.out]; exact Nat.lt_succ_self _)) _))
      have hs7' : LO + 1 ≤ w7.heap.size := by rw [hs7, ← HS5.out]; exact hE6.size
      have v3 := hP6.cell 3
      have vf3 := hP6.free 3
      have v7 := hP6.cell 7
      have vf7 := hP6.free 7
      simp only [List.getElem?_toArray, List.cons_append, List.getElem?_cons_zero, List.getElem?_cons_succ] at v3 v7
      have HA7 := hide hA7
      have HP7 := hide hP7
      have HE7 := hide hE7
      have HS7 := hide hs7'
      have HW7 := hide hw7
      clear hA2 hE6 hP6 hP7 hE7 hs7 hA7 hs7' hw7
      go_upto_region 10 with fail
      rw [← HW7.out]
      clear v3 vf3 v7 vf7
      have v8 := HP7.out.cell 8
      have vf8 := HP7.out.free 8
      simp only [List.getElem?_toArray, List.cons_append, List.getElem?_cons_zero, List.getElem?_cons_succ] at v8
      go_wp2_with fail
      refine (HWC.out _ (HE.out.trans' HE7.out)).mono ?_
      rintro e w8 ⟨A4, c4, rfl, hA4, hE8⟩
      have hP8 := HP7.out.ext hE8
      obtain ⟨w9, hw9⟩ : ∃ x, x = w8.setCell ⟨gv, 8, none⟩ (.slice A4 nc c4) := ⟨_, rfl⟩
      have hP9 : Blk w9 gv 52 (([.string nm, .int .i64 0, .bool br, .slice A2 nl c2, .int .i64 wi, .int .i64 ck, .int .i64 cnn, .int .i64 0, .slice A4 nc c4] : List Value) ++ vt).toArray := by rw [hw9]; exact blk_set9 hP8 (i := 8) (show 8 < 9 by decide) _
      have hE9 : Ext wr w9 := by rw [hw9]; exact (HE7.out.trans' hE8).setCell hgvl _
      have hs9 : w9.heap.size = w8.heap.size := by rw [hw9, size_setCell']
      have hgv7 : gv < w7.heap.size := by rw [HVGL.out]; exact HS7.out
      have hA4' : Held w7.heap.size w9.heap.size w9 (fun w2' => WdsAt w2' w9.heap.size A4 (bareWs (p k).cl)) := by
        rw [hs9, hw9]
        exact hA4.go (Nat.le_refl _) (Nat.le_refl _) (Agree.set (.inl hgv7) _)
      have hA2' : Held (LO + 1) w7.heap.size w9 (fun w2' => WdsAt w2' w7.heap.size A2 (bareWs (p k).label)) := by
        rw [hw9]
        exact HA7.out.go (Nat.le_refl _) (Nat.le_refl _) ((Agree.ext hE8 (Nat.le_refl _)).trans' (Agree.set (.inl (by rw [HVGL.out]; exact Nat.lt_succ_self _)) _))
      have hs79 : w7.heap.size ≤ w9.heap.size := by rw [hs9]; exact hE8.size
      have hrt9 : w9.rangeAt gv 9 vt := fun j v hv => by
        have := blk_range hP9 (9 + j) v (by rw [List.getElem?_append_right (by show 9 ≤ 9 + j; omega)]; rw [show 9 + j - ([.string nm, .int .i64 0, .bool br, .slice A2 nl c2, .int .i64 wi, .int .i64 ck, .int .i64 cnn, .int .i64 0, .slice A4 nc c4] : List Value).length = j by show 9 + j - 9 = j; omega]; exact hv)
        rwa [Nat.zero_add] at this
      have v8 := hP8.cell 8
      have vf8 := hP8.free 8
      simp only [List.getElem?_toArray, List.cons_append, List.getElem?_cons_zero, List.getElem?_cons_succ] at v8
      have HA4 := hide hA4'
      have HA2 := hide hA2'
      have HP9 := hide hP9
      have HE9 := hide hE9
      have HS79 := hide hs79
      have HRT9 := hide hrt9
      have HW9 := hide hw9
      have HGVL := hide hgvl
      have HGV7 := hide hgv7
      clear hA4 hE8 hP8 hP9 hE9 hs9 hA4' hA2' hs79 hrt9 hw9 hgvl hgv7
      go_upto_region 11 with fail
      rw [← HW9.out]
      clear v8 vf8
      refine wp_region_lit ?_
      refine wpList_plain rfl ?_
      intro K3 hK3
      go_simp
      refine hK3 _ _ ?_
      refine wpList_load_mid rfl 27 _ rfl gv 9 rfl vt _ HRT9.out Try.underlying27 rfl (infoTy' HTL.out) ?_
      go_wp2_with fail
      refine (HST.out _ (HE.out.trans' HE9.out)).mono ?_
      rintro e w10 ⟨us, rfl, hT10, hE10⟩
      have hul : us.length = 9 := by obtain ⟨y0, y1, y2, y3, y4, y5, y6, y7, y8, e⟩ := hT10.now.nine; rw [e]; rfl
      have huo : us.toArray.all (·.oneCell') = true := by obtain ⟨_, _, _, _, _, _, e⟩ := hT10.now.form; rw [e]; simp [tyV, Value.oneCell']
      have hP10 := HP9.out.ext hE10
      obtain ⟨w11, hw11⟩ : ∃ x, x = w10.setCells gv 9 us := ⟨_, rfl⟩
      have hP11 : Blk w11 gv 52 (([.string nm, .int .i64 0, .bool br, .slice A2 nl c2, .int .i64 wi, .int .i64 ck, .int .i64 cnn, .int .i64 0, .slice A4 nc c4] : List Value) ++ us).toArray := by rw [hw11]; exact Blk.setCells us [.string nm, .int .i64 0, .bool br, .slice A2 nl c2, .int .i64 wi, .int .i64 ck, .int .i64 cnn, .int .i64 0, .slice A4 nc c4] vt w10 hP10 (by rw [HTL.out, hul])
      have hE11 : Ext wr w11 := by rw [hw11]; exact ext_setCells HGVL.out _ _ (HE9.out.trans' hE10)
      have hszc : ∀ (l : List Value) (o : Nat) (w' : World), (w'.setCells gv o l).heap.size = w'.heap.size := by
        intro l
        induction l with
        | nil => intro o w'; rfl
        | cons v r ih => intro o w'; exact (ih (o + 1) _).trans (size_setCell' _ _ _)
      have hs11 : w11.heap.size = w10.heap.size := by rw [hw11, hszc]
      have hth := there_blk hP10 (o := 9) (m := 9) (by rw [List.size_toArray, List.length_append, HTL.out]; exact Nat.le_refl 18)
      have hAg11 : Agree (LO + 1) w10.heap.size w10 w11 := by rw [hw11]; exact Agree.setCells (.inl (by rw [HVGL.out]; exact Nat.lt_succ_self _)) _ _ _
      have hnew : Held LO w11.heap.size w11 (fun w2' => PartAt w2' w11.heap.size (strP (p k)) (strip (t k)) (([.string nm, .int .i64 0, .bool br, .slice A2 nl c2, .int .i64 wi, .int .i64 ck, .int .i64 cnn, .int .i64 0, .slice A4 nc c4] : List Value) ++ us)) := by
        intro w2' ha
        have s1 : LO ≤ LO + 1 := Nat.le_succ _
        have s2 := HS7.out
        have s3 := HS79.out
        have s4 : w9.heap.size ≤ w10.heap.size := hE10.size
        have g1 := HA2.out w2' (((Agree.ext hE10 s3).trans' (hAg11.sub (Nat.le_refl _) (Nat.le_trans s3 s4))).trans' (ha.sub s1 (by rw [hs11]; exact Nat.le_trans s3 s4)))
        have g2 := HA4.out w2' (((Agree.ext hE10 (Nat.le_refl _)).trans' (hAg11.sub s2 s4)).trans' (ha.sub (Nat.le_trans s1 s2) (by rw [hs11]; exact s4)))
        have g3 := hT10 w2' ((hAg11.sub (Nat.le_trans s2 s3) (Nat.le_refl _)).trans' (ha.sub (Nat.le_trans s1 (Nat.le_trans s2 s3)) (by rw [hs11]; exact Nat.le_refl _)))
        exact HPART.out w2' _ A2 A4 c2 c4 us (g1.up (by rw [hs11]; exact Nat.le_trans s3 s4)) (g2.up (by rw [hs11]; exact s4)) (g3.more (by rw [hs11]; exact Nat.le_refl _))
      have hnv : (([.string nm, .int .i64 0, .bool br, .slice A2 nl c2, .int .i64 wi, .int .i64 ck, .int .i64 cnn, .int .i64 0, .slice A4 nc c4] : List Value) ++ us).length = 18 := by rw [List.length_append, hul]; rfl
      have hno : ∀ u ∈ (([.string nm, .int .i64 0, .bool br, .slice A2 nl c2, .int .i64 wi, .int .i64 ck, .int .i64 cnn, .int .i64 0, .slice A4 nc c4] : List Value) ++ us : List Value), u.oneCell' = true := by
        intro u hu
        rcases List.mem_append.1 hu with hu | hu
        · simp only [List.mem_cons, List.not_mem_nil, or_false] at hu
          rcases hu with rfl | rfl | rfl | rfl | rfl | rfl | rfl | rfl | rfl <;> rfl
        · exact (Array.all_eq_true_iff_forall_mem.1 huo) u (by simpa using hu)
      have hOr := HO.out
      have hO11 := own_ext hOr hE11
      have HUL := hide hul
      have HUO := hide huo
      have HP11 := hide hP11
      have HE11 := hide hE11
      have HTH := hide hth
      have HNEW := hide hnew
      have HNV := hide hnv
      have HNO := hide hno
      have HO11 := hide hO11
      have HW11 := hide hw11
      obtain ⟨nv, hnvv⟩ : ∃ x, x = (([.string nm, .int .i64 0, .bool br, .slice A2 nl c2, .int .i64 wi, .int .i64 ck, .int .i64 cnn, .int .i64 0, .slice A4 nc c4] : List Value) ++ us : List Value) := ⟨_, rfl⟩
      rw [← hnvv] at HNEW HNV HNO HP11
      have hs11' : LO ≤ w11.heap.size := by rw [HLO.out]; exact hE11.size
      have HS11 := hide hs11'
      clear hT10 hE10 hul huo hP10 hw11 hP11 hE11 hszc hs11 hth hAg11 hnew hnv hno hOr hO11 hnvv hs11'
      simp only []
      rename_i Kz hKz
      refine hKz _ _ ?_
      refine wpList_plain rfl ?_
      intro K4 hK4
      go_simp
      refine hK4 _ _ ?_
      refine wpList_store_mid rfl 27 _ _ rfl gv 9 us.toArray rfl rfl (by rw [List.size_toArray, HUL.out]; exact HTH.out) (infoTyA HUL.out) HUO.out ?_
      rw [show us.toArray.toList = us from rfl, ← HW11.out]
      go_upto_region 12 with fail
      refine wp_region_lit ?_
      refine wpList_plain rfl ?_
      intro K5 hK5
      go_simp
      refine hK5 _ _ ?_
      refine wpList_load_mid rfl 52 _ rfl gv 0 rfl nv _ (blk_range HP11.out) Try.underlying52 rfl (infoPart' HNV.out) ?_
      refine wpList_bs18 rfl _ rfl nv HNV.out rfl ?_
      obtain ⟨w12, hw12⟩ : ∃ x, x = w11.alloc (.cells nv.toArray 52) := ⟨_, rfl⟩
      have hrd : Reads w12 (w11.heap.size + 1) 18 (some ⟨w11.heap.size, 0, none⟩) 1 nv := by rw [hw12]; exact reads_pt w11 52 nv HNV.out _ rfl
      have hE12 : Ext w11 w12 := by rw [hw12]; exact (Ext.rfl' w11).alloc (Nat.le_refl _) _
      have hs12 : w12.heap.size = w11.heap.size + 1 := by rw [hw12]; simp only [World.size_alloc]
      rw [← hw12]
      refine wpList_append_Pt w12 rfl _ _ rfl N _ k xs rfl (w11.heap.size + 1) (some ⟨w11.heap.size, 0, none⟩) 1 nv rfl (own_ext HO11.out hE12) hrd HNO.out (by have := HNB.out; have := HK.out; omega) (by have := HNr.out; have := HS11.out; have := HLO.out; omega) ?_
      intro A3 c3 w13 hown3 hgrow3 hob
      have hLN : N ≤ LO := by rw [HLO.out]; exact HNr.out
      have hNG := HNG.out
      have hown : ∀ g, Value.ownBlock (.slice Ao k co) = some g → N ≤ g ∧ g < LO := fun g e => by rw [HLO.out]; exact hNG g e
      have hE13w : Ext wr w12 := HE11.out.trans' hE12
      have hgr : wr.grownBy w13 (Value.ownBlock (.slice Ao k co)) := ⟨hgrow3.os.trans hE13w.os, hgrow3.tape.trans hE13w.tape, hgrow3.output.trans hE13w.output, Nat.le_trans hE13w.size hgrow3.size, fun i hi hr => (hgrow3.block i (Nat.lt_of_lt_of_le hi hE13w.size) hr).trans (hE13w.block i hi)⟩
      have hEw13 : Ext w w13 := by
        refine ext_of_grown ⟨hgr.os.trans HE.out.os, hgr.tape.trans HE.out.tape, hgr.output.trans HE.out.output, Nat.le_trans HE.out.size hgr.size, fun i hi _ => (hgr.block i (Nat.lt_of_lt_of_le hi HE.out.size) (fun e => ?_)).trans (HE.out.block i hi)⟩
        have := (hown i e.symm).1
        have := HTN.out
        have := HWT.out
        omega
      have hT13 := HTr.out.grown hgr (fun e => by have := (hown gt e.symm).1; have := HTN.out; omega)
      have hF13 : Blk w13 gf 27 #[.int .i64 0, .int .i64 0, .int .i64 0, .int .i64 0, .int .i64 0, .slice none 0 0, .slice none 0 0, .string ⟨#[]⟩, .int .i64 0] := HFr.out.grown hgr (fun e => by have := (hown gf e.symm).1; have := HFN.out; omega)
      have hs13 : w12.heap.size ≤ w13.heap.size := hgrow3.size
      have hN13 : N ≤ w13.heap.size := Nat.le_trans HNr.out hgr.size
      have hAg13 : Agree base N w3 w13 := HAg.out.trans' (Agree.grown hgr HNr.out (fun g e => .inr (hown g e).1))
      have hLOs := HS11.out
      have hR13 : Row w13 (Value.ownBlock (.slice A3 (k + 1) c3)) N (k + 1) p t (xs ++ nv) := by
        refine Row.more HR.out (lo := LO) (hi := w11.heap.size) hLN HLO.out (by omega) hgr.size (fun g e => (hown g e).2) (fun g e => ?_) (fun lo2 hi2 q1 q2 q3 => Agree.grown hgr q2 q3) ?_ (by rw [← HLO.out]; exact hLOs)
        · rcases hob with hob | hob
          · exact .inl (hob.symm.trans e)
          · right
            have := hob.symm.trans e
            injection this with this
            omega
        · refine HNEW.out.go (Nat.le_refl _) (Nat.le_refl _) ?_
          exact (Agree.ext hE12 (Nat.le_refl _)).trans' (Agree.grown hgrow3 (by omega) (fun g e => .inl (hown g e).2))
      have HEw13 := hide hEw13
      have HT13 := hide hT13
      have HF13 := hide hF13
      have HN13 := hide hN13
      have HAg13 := hide hAg13
      have HO13 := hide hown3
      have HR13 := hide hR13
      clear hw12 hrd hE12 hs12 hown3 hgrow3 hob hLN hNG hown hE13w hgr hEw13 hT13 hF13 hs13 hN13 hAg13 hLOs hR13
      have hkk := HK.out
      have hnb := HNB.out
      go_wp2_with fail
      go_roundw
      case rel => exact ⟨k + 1, A3, c3, xs ++ nv, HK.out, by go_num, rfl, HEw13.out, HT13.out, HF13.out, HN13.out, HAg13.out, HO13.out, HR13.out⟩
      case measure => have := HK.out; simp [intOf]; omega
    · obtain rfl : k = n := by omega
      obtain ⟨w4, hw4⟩ : ∃ x, x = wr.setCell ⟨gt, 6, none⟩ (.slice Ao k co) := ⟨_, rfl⟩
      have hT4 : Blk w4 gt 27 #[.int .i64 kd, .int .i64 0, .int .i64 lo, .int .i64 hi, .int .i64 mo, .slice A1 nn c1, .slice Ao k co, .string s0, .int .i64 0] := by rw [hw4]; exact hTr.set_ 6 _
      have hF4 : Blk w4 gf 27 #[.int .i64 0, .int .i64 0, .int .i64 0, .int .i64 0, .int .i64 0, .slice none 0 0, .slice none 0 0, .string ⟨#[]⟩, .int .i64 0] := by rw [hw4]; exact hFr.far HFT.out _
      have hE4 : Ext w w4 := by rw [hw4]; exact hE.setCell HWT.out _
      have hs4 : w4.heap.size = wr.heap.size := by rw [hw4, size_setCell']
      have hO4 : w4.ownsRow N 52 18 (.slice Ao k co) k xs := by rw [hw4]; exact own_far hO (fun e => by have := (hNg _ e).1; exact absurd hTN (Nat.not_lt.2 this)) _
      have hR4 : Row w4 (Value.ownBlock (.slice Ao k co)) N k p t xs := hR.go (by rw [hs4]; exact Nat.le_refl _) (fun lo2 hi2 q1 q2 q3 => by rw [hw4]; exact Agree.set (.inl (Nat.lt_of_lt_of_le hTN q1)) _)
      have hA4 : Held base N w4 (fun w2' => WdsAt w2' N A1 (bareWs h.names)) := by
        refine HA3.out.go (Nat.le_refl _) (Nat.le_refl _) (hAg.trans' ?_)
        rw [hw4]; exact Agree.set (.inl HTB.out) _
      have t6 := hTr.cell 6
      have tf6 := hTr.free 6
      simp only [List.getElem?_toArray, List.getElem?_cons_zero, List.getElem?_cons_succ] at t6
      have HT4 := hide hT4
      have HF4 := hide hF4
      have HE4 := hide hE4
      have HO4 := hide hO4
      have HR4 := hide hR4
      have HA4 := hide hA4
      have HS4 := hide hs4
      have HW4 := hide hw4
      have HFN := hide hFN
      have HNG := hide hNg
      have HNr := hide hNr
      clear hE hTr hFr hNr hAg hO hR hNg hTN hFN hw4 hT4 hF4 hE4 hs4 hO4 hR4 hA4 HO HR HE HTr HFr HAg
      go_upto_region 15 with fail
      rw [← HW4.out]
      clear t6 tf6
      have t0 := HT4.out.cell 0
      have t1 := HT4.out.cell 1
      have t2 := HT4.out.cell 2
      have t3 := HT4.out.cell 3
      have t4 := HT4.out.cell 4
      have t5 := HT4.out.cell 5
      have t6 := HT4.out.cell 6
      have t7 := HT4.out.cell 7
      have t8 := HT4.out.cell 8
      simp only [List.getElem?_toArray, List.getElem?_cons_zero, List.getElem?_cons_succ] at t0 t1 t2 t3 t4 t5 t6 t7 t8
      have b0 := HF4.out.cell 0
      have b1 := HF4.out.cell 1
      have b2 := HF4.out.cell 2
      have b3 := HF4.out.cell 3
      have b4 := HF4.out.cell 4
      have b5 := HF4.out.cell 5
      have b6 := HF4.out.cell 6
      have b7 := HF4.out.cell 7
      have b8 := HF4.out.cell 8
      have f0 := HF4.out.free 0
      have f1 := HF4.out.free 1
      have f2 := HF4.out.free 2
      have f3 := HF4.out.free 3
      have f4 := HF4.out.free 4
      have f5 := HF4.out.free 5
      have f6 := HF4.out.free 6
      have f7 := HF4.out.free 7
      have f8 := HF4.out.free 8
      simp only [List.getElem?_toArray, List.getElem?_cons_zero, List.getElem?_cons_succ] at b0 b1 b2 b3 b4 b5 b6 b7 b8
      go_wp2_with fail
      obtain ⟨w5, hw5⟩ : ∃ x, x = w4.setCells gf 0 [.int .i64 kd, .int .i64 0, .int .i64 lo, .int .i64 hi, .int .i64 mo, .slice A1 nn c1, .slice Ao k co, .string s0, .int .i64 0] := ⟨_, rfl⟩
      have hB5 : Blk w5 gf 27 #[.int .i64 kd, .int .i64 0, .int .i64 lo, .int .i64 hi, .int .i64 mo, .slice A1 nn c1, .slice Ao k co, .string s0, .int .i64 0] := by rw [hw5]; exact Blk.setCells _ [] _ w4 HF4.out rfl
      have hE5 : Ext w w5 := by rw [hw5]; exact ext_setCells HWF.out _ _ HE4.out
      have hs5 : w5.heap.size = w4.heap.size := by rw [hw5]; simp only [World.setCells, size_setCell']
      have hO5 : w5.ownsRow N 52 18 (.slice Ao k co) k xs := by
        rw [hw5]
        simp only [World.setCells]
        have hne : ∀ j, Value.ownBlock (.slice Ao k co) ≠ some (⟨gf, j, none⟩ : Addr).block := fun j e => by have := (HNG.out _ e).1; exact absurd HFN.out (Nat.not_lt.2 this)
        exact own_far (own_far (own_far (own_far (own_far (own_far (own_far (own_far (own_far HO4.out (hne _) _) (hne _) _) (hne _) _) (hne _) _) (hne _) _) (hne _) _) (hne _) _) (hne _) _) (hne _) _
      have hR5 : Row w5 (Value.ownBlock (.slice Ao k co)) N k p t xs := HR4.out.go (by rw [hs5]; exact Nat.le_refl _) (fun lo2 hi2 q1 q2 q3 => by rw [hw5]; exact Agree.setCells (.inl (Nat.lt_of_lt_of_le HFN.out q1)) _ _ _)
      have hA5 : Held base N w5 (fun w2' => WdsAt w2' N A1 (bareWs h.names)) := HA4.out.go (Nat.le_refl _) (Nat.le_refl _) (by rw [hw5]; exact Agree.setCells (.inl HFB.out) _ _ _)
      have hm := HMADE.out w5 base N N co N c1 A1 Ao xs hA5 HWB.out (by rw [hs5, HS4.out]; exact HNr.out) hO5 (Nat.le_trans HWB.out (by rw [HNN.out]; exact HB3.out)) hR5 (Nat.le_trans HWB.out (by rw [HNN.out]; exact HB3.out))
      simp only [World.setCells] at hw5
      rw [← hw5]
      exact bodyPost_ret (results_cell_row rfl _ _ gf 27 _ (0, 0) _ rfl hB5 Try.underlying27 rfl (by kernel_rfl)) rfl (HFIN.out _ w5 hm hE5)
theorem strip_any (t : Ty) : TySz t → StrC t := by
  induction t with
  | nil => intro h; exact h.elim
  | mk h n p t ih => exact fun hsz w vs hT => strip_walk h n p t w vs hT hsz (fun i hi => ih i (hsz.2.2.2 i hi).2.2.2)
end Go.Proofs.Ytanpljalbijfkaa
