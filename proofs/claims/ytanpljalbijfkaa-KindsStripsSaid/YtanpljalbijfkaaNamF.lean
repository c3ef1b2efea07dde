/- The table in memory: Find (its search). -/
import Derived.Test.YtanpljalbijfkaaNamP
import Derived.Test.YtanpljalbijfkaaSrcL
namespace Go.Proofs.Ytanpljalbijfkaa
open Go.RowKit Go.Shelf Go.Lib Go.Sort

/-- The places that a row of ints holds. -/
def natCells (l : List Nat) : List Value := l.map fun (p : Nat) => Value.int .i64 (p : Int)
def NatAt (w : World) (B : Nat) (A : Option Addr) (l : List Nat) : Prop := Reads w B 1 A l.length (natCells l)
theorem NatAt.cell {w : World} {B : Nat} {A : Option Addr} {l : List Nat} (h : NatAt w B A l) (hn : 0 < l.length) :
    ∃ b o, A = some ⟨b, o, none⟩ ∧ b < B ∧ ∀ k (hk : k < l.length), w.cell? ⟨b, o + k, none⟩ = some (.int .i64 (l[k] : Nat)) := by
  obtain ⟨b, o, e, hb, hc⟩ := h.form hn (Nat.lt_succ_self 0)
  exact ⟨b, o, e, hb, fun k hk => hc _ _ (by simp [natCells, hk])⟩
theorem NatAt.ext {w w' : World} {A : Option Addr} {l : List Nat} (h : NatAt w w.heap.size A l) (hE : Ext w w') : NatAt w' w'.heap.size A l :=
  (Reads.keep h fun _p hp => hE.cell hp).more hE.size

theorem Blk.new_at' (w : World) (t : TypeId) (cs : Array Value) {g : Nat} (h : g = w.heap.size) : Blk (w.alloc (.cells cs t)) g t cs := by subst h; exact Blk.new w t cs
/-- A table of texts at a block. -/
def TabAt (w : World) (g : Nat) (l : List ByteArray) : Prop :=
  ∃ Al cl Ao co O, Blk w g 77 #[.slice Al l.length cl, .slice Ao (List.length O) co] ∧ StrAt w w.heap.size Al l ∧ NatAt w w.heap.size Ao O ∧ TableOK l O ∧ l.length ≤ 9223372036854775807
theorem TabAt.ext {w w' : World} {g : Nat} {l : List ByteArray} (h : TabAt w g l) (hE : Ext w w') : TabAt w' g l := by
  obtain ⟨Al, cl, Ao, co, O, hB, hs, hn, ho, hl⟩ := h
  exact ⟨Al, cl, Ao, co, O, hB.ext hE, hs.ext hE, hn.ext hE, ho, hl⟩

theorem countP_anti {n : Nat} {q : Nat → Bool} (h : ∀ a b, a ≤ b → b < n → q b = true → q a = true) : (List.range n).countP q ≤ n ∧ ∀ j, j < n → q j = decide (j < (List.range n).countP q) := by
  induction n with
  | zero => simp
  | succ n ih =>
    obtain ⟨h1, h2⟩ := ih fun a b hab hb => h a b hab (by omega)
    rw [List.range_succ, List.countP_append]
    cases hq : q n with
    | true =>
      have hall : (List.range n).countP q = n := by
        have := List.countP_eq_length (p := q) (l := List.range n)
        rw [List.length_range] at this
        exact this.2 fun a ha => h a n (by have := List.mem_range.1 ha; omega) (by omega) hq
      have hs : List.countP q [n] = 1 := by simp [hq]
      rw [hall, hs]
      refine ⟨Nat.le_refl _, fun j hj => ?_⟩
      rw [h j n (by omega) (by omega) hq]
      simp [hj]
    | false =>
      have hs : List.countP q [n] = 0 := by simp [hq]
      rw [hs, Nat.add_zero]
      refine ⟨by omega, fun j hj => ?_⟩
      by_cases e : j = n
      · subst e; rw [hq]; simp; omega
      · exact h2 j (by omega)

/-- Is the text of the i-th first place ahead of a text? -/
def ahd (l : List ByteArray) (O : List Nat) (s : ByteArray) (i : Nat) : Bool := bl (sAt l (O.getD i 0)) s
def cntA (l : List ByteArray) (O : List Nat) (s : ByteArray) : Nat := (List.range O.length).countP (ahd l O s)
theorem O_at {O : List Nat} {i : Nat} (h : i < O.length) : O.getD i 0 = O[i] := by rw [List.getD_eq_getElem?_getD, List.getElem?_eq_getElem h]; rfl
theorem ahd_mono {l : List ByteArray} {O : List Nat} {s : ByteArray} (h : TableOK l O) : ∀ a b, a ≤ b → b < O.length → ahd l O s b = true → ahd l O s a = true := by
  intro a b hab hb hq
  unfold ahd at *
  rw [O_at hb] at hq
  rw [O_at (show a < O.length by omega)]
  rcases Nat.lt_or_eq_of_le hab with h1 | rfl
  · exact bl_trans (List.pairwise_iff_getElem.1 h.up a b (by omega) hb h1) hq
  · exact hq

theorem find_of_cnt {l : List ByteArray} {O : List Nat} {s : ByteArray} (h : TableOK l O) :
    cntA l O s ≤ O.length ∧ (cntA l O s = O.length → findL l s = -1) ∧ (∀ hc : cntA l O s < O.length, (sAt l O[cntA l O s] ≠ s → findL l s = -1) ∧ (sAt l O[cntA l O s] = s → findL l s = (O[cntA l O s] : Nat))) := by
  obtain ⟨h1, h2⟩ := countP_anti (ahd_mono (s := s) h)
  change cntA l O s ≤ _ at h1
  change ∀ j, j < O.length → _ = decide (j < cntA l O s) at h2
  have at_ : ∀ j (hj : j < O.length), bl (sAt l O[j]) s = decide (j < cntA l O s) := fun j hj => by
    have := h2 j hj
    unfold ahd at this
    rwa [O_at hj] at this
  have miss : (∀ j (hj : j < O.length), sAt l O[j] ≠ s) → findL l s = -1 := by
    intro hno
    unfold findL
    rw [findIdx_miss]
    intro q hq he
    obtain ⟨p, hp, e⟩ := h.has q hq
    obtain ⟨j, hj, rfl⟩ := List.getElem_of_mem hp
    exact hno j hj (by rw [e, sAt_eq hq, he])
  refine ⟨h1, fun hc => miss fun j hj he => ?_, fun hc => ⟨fun hne => miss fun j hj he => ?_, fun he => ?_⟩⟩
  · have := at_ j hj
    rw [he, bl_irrefl] at this
    have := this.symm
    simp at this
    omega
  · have h3 := at_ j hj
    rw [he, bl_irrefl] at h3
    have h3 := h3.symm
    simp at h3
    have h4 := at_ _ hc
    simp at h4
    rcases Nat.lt_or_eq_of_le h3 with h5 | h5
    · have := List.pairwise_iff_getElem.1 h.up _ j hc hj h5
      rw [he, h4] at this
      cases this
    · subst h5; exact hne he
  · unfold findL
    have hp := h.first _ (List.getElem_mem hc)
    rw [findIdx_hit hp.1 (fun j hj hjk hx => ?_) (by rw [← sAt_eq hp.1]; exact he)]
    have := hp.2 j hj (by rw [sAt_eq hj, hx, he])
    omega

set_option maxRecDepth 100000 in
set_option maxHeartbeats 2000000 in
theorem findLess_any (go oo gl ol co cl Bt Bn gt n m : Nat) (W : World) (i p : Nat) (x s : ByteArray)
    (ht : W.cell? ⟨Bt, 0, none⟩ = some (.pointer (some ⟨gt, 0, none⟩))) (hn : W.cell? ⟨Bn, 0, none⟩ = some (.string s)) (htl : W.cell? ⟨gt, 0, none⟩ = some (.slice (some ⟨gl, ol, none⟩) n cl)) (hto : W.cell? ⟨gt, 1, none⟩ = some (.slice (some ⟨go, oo, none⟩) m co))
    (hp : W.cell? ⟨go, oo + i, none⟩ = some (.int .i64 (p : Int))) (hx : W.cell? ⟨gl, ol + p, none⟩ = some (.string x)) (hi : i < m) (hpn : p < n) :
    Calls Try.prog 56 #[.int .i64 i, .pointer (some ⟨Bt, 0, none⟩), .pointer (some ⟨Bn, 0, none⟩)] W fun e w' => e = .returned (.bool (!bl x s)) ∧ ∃ q, w' = W.drewN q := by
  obtain ⟨z, hz⟩ : ∃ z, z = bl x s := ⟨_, rfl⟩
  rw [← hz]
  have hz' : Op.bytesLess x.toList s.toList = z := hz.symm
  clear hz
  go_enter Try.func56, Try.ntmps56
  go_wp2_with fail
  go_quiet (fail)
  go_wp2_with fail
  go_ret
  exact ⟨rfl, nq, rfl⟩

def findR (l : List ByteArray) (s : ByteArray) : Value := .tuple #[.int .i64 (if findL l s < 0 then 0 else findL l s), .bool (decide (0 ≤ findL l s))]

theorem search_ext {W0 W : World} {q : Nat} {os : Array Obj} (hW : Ext W W0) : Ext W (grow (W0.drewN q) os) :=
  hW.trans' ⟨rfl, rfl, rfl, by simp [grow], fun k hk => by simp only [grow]; rw [Array.getElem?_append_left (xs := (W0.drewN q).heap) hk]; rfl⟩

set_option maxRecDepth 100000 in
set_option maxHeartbeats 2000000 in
theorem tabFind_any (g : Nat) (l : List ByteArray) (s : ByteArray) (w : World) (h : TabAt w g l) (hbig : l.length < 4611686018427387904) :
    Calls Try.prog 52 #[.pointer (some ⟨g, 0, none⟩), .string s] w (fun e w' => e = .returned (findR l s) ∧ Ext w w') := by
  obtain ⟨Al, cl, Ao, co, O, hB, hs, hno, hok, hln⟩ := h
  obtain ⟨hc1, hc2, hc3⟩ := find_of_cnt (s := s) hok
  have hOl := hok.short
  obtain ⟨W0, hW0⟩ : ∃ W0, W0 = (w.alloc (.cells #[.pointer (some ⟨g, 0, none⟩)] 71)).alloc (.cells #[.string s] 9) := ⟨_, rfl⟩
  have hE0 : Ext w W0 := by rw [hW0]; exact ((Ext.rfl' w).alloc (Nat.le_refl _) _).alloc (by simp) _
  have hBt : Blk W0 w.heap.size 71 #[.pointer (some ⟨g, 0, none⟩)] := by rw [hW0]; exact (Blk.new _ _ _).alloc _
  have hBn : Blk W0 (w.heap.size + 1) 9 #[.string s] := by rw [hW0]; exact Blk.new_at' _ _ _ (by simp)
  have hBg := hB.ext hE0
  have hs0 := hs.ext hE0
  have hn0 := hno.ext hE0
  have hBt1 := hBt.lt
  have hBn1 := hBn.lt
  have hBg1 := hBg.lt
  have hS := Any.sort_Search (P := Try.prog) Try.sl16 56 #[.pointer (some ⟨w.heap.size, 0, none⟩), .pointer (some ⟨w.heap.size + 1, 0, none⟩)] O.length (fun i => !ahd l O s i) W0
    (enters_of Try.func56 (by kernel_rfl) rfl) (by omega)
    (fun m os i hi => by
      have hE : Ext W0 (grow (W0.drewN m) os) := search_ext (Ext.rfl' W0)
      have hp : O[i] < l.length := (hok.first _ (List.getElem_mem hi)).1
      obtain ⟨bo, oo, rfl, _, hco⟩ := (hn0.ext hE).cell (by omega)
      obtain ⟨bs, os', rfl, _, hcs⟩ := (hs0.ext hE).cell (by omega)
      refine (findLess_any bo oo bs os' co cl w.heap.size (w.heap.size + 1) g l.length O.length _ i O[i] (sAt l O[i]) s ((hBt.ext hE).cell 0) ((hBn.ext hE).cell 0) ((hBg.ext hE).cell 0) ((hBg.ext hE).cell 1) (hco i hi) ((hcs O[i] hp).trans (by rw [sAt_eq hp])) hi hp).mono fun _ _ ⟨he, q, hq⟩ => ⟨?_, q, #[], by rw [hq, grow_empty]⟩
      rw [he]
      unfold ahd
      rw [O_at hi])
    (fun a b hab hb hq => by
      have hq' : ahd l O s a = false := by simpa using hq
      cases hx : ahd l O s b with
      | true => rw [ahd_mono hok a b hab hb hx] at hq'; cases hq'
      | false => rfl)
  have ecn : (fun i => !(!ahd l O s i)) = ahd l O s := funext fun i => by simp
  have hS' : Calls Try.prog 55 #[.int .i64 (O.length : Nat), .func (.func 56) #[] #[.pointer (some ⟨w.heap.size, 0, none⟩), .pointer (some ⟨w.heap.size + 1, 0, none⟩)]] W0 (fun e w' => e = .returned (.int .i64 (cntA l O s : Nat)) ∧ ∃ q os, w' = grow (W0.drewN q) os) := by
    unfold cntA
    rw [← ecn]
    exact hS
  clear hS ecn
  have key : ∃ cn : Nat, Calls Try.prog 55 #[.int .i64 (O.length : Nat), .func (.func 56) #[] #[.pointer (some ⟨w.heap.size, 0, none⟩), .pointer (some ⟨w.heap.size + 1, 0, none⟩)]] W0 (fun e w' => e = .returned (.int .i64 (cn : Nat)) ∧ ∃ q os, w' = grow (W0.drewN q) os) ∧
      cn ≤ O.length ∧ (cn = O.length → findL l s = -1) ∧ ∀ hc : cn < O.length, (sAt l O[cn] ≠ s → findL l s = -1) ∧ (sAt l O[cn] = s → findL l s = (O[cn] : Nat)) := ⟨cntA l O s, hS', hc1, hc2, hc3⟩
  clear hS' hc1 hc2 hc3
  obtain ⟨cn, hS', hc1, hc2, hc3⟩ := key
  have HS := hide hS'
  have HC2 := hide hc2
  have HC3 := hide hc3
  have HE0 := hide hE0
  have HBt := hide hBt
  have HBn := hide hBn
  have HBg := hide hBg
  have HS0 := hide hs0
  have HN0 := hide hn0
  have HOK := hide hok
  have b0 := hBt.cell 0
  have b1 := hBn.cell 0
  have b2 := hBg.cell 0
  have b3 := hBg.cell 1
  have a0 := hB.cell 0
  have a1 := hB.cell 1
  have lg := hB.lt
  simp only [List.getElem?_toArray, List.getElem?_cons_zero, List.getElem?_cons_succ] at b0 b1 b2 b3 a0 a1
  obtain ⟨m, hm⟩ : ∃ m, m = O.length := ⟨_, rfl⟩
  obtain ⟨n, hn⟩ : ∃ n, n = l.length := ⟨_, rfl⟩
  have HM := hide hm
  have HNN := hide hn
  rw [← hm] at HS hc1 b3 a1 hOl
  rw [← hn] at b2 a0 hln hbig hOl
  clear hS' hc2 hc3 hE0 hBt hBn hBg hs0 hn0 hok hB hs hno hm hn
  go_enter Try.func52, Try.ntmps52
  go_wp2_with fail
  rw [← hW0]
  refine HS.out.mono ?_
  rintro e w1 ⟨rfl, q, os, rfl⟩
  have hE1 : Ext W0 (grow (W0.drewN q) os) := search_ext (Ext.rfl' W0)
  obtain ⟨W1, hW1⟩ : ∃ W1, W1 = grow (W0.drewN q) os := ⟨_, rfl⟩
  rw [← hW1] at hE1 ⊢
  have c0 := (HBt.out.ext hE1).cell 0
  have c1 := (HBn.out.ext hE1).cell 0
  have c2 := (HBg.out.ext hE1).cell 0
  have c3 := (HBg.out.ext hE1).cell 1
  simp only [List.getElem?_toArray, List.getElem?_cons_zero, List.getElem?_cons_succ] at c0 c1 c2 c3
  rw [← HM.out] at c3
  rw [← HNN.out] at c2
  have HE1 := hide (Ext.trans' HE0.out hE1)
  have HS1 := hide (HS0.out.ext hE1)
  have HN1 := hide (HN0.out.ext hE1)
  clear hE1 hW1 hW0 b0 b1 b2 b3 HS HBt HBn HBg HS0 HN0
  by_cases hc : cn < m
  · have hcO : cn < O.length := by rw [← HM.out]; exact hc
    have hp : O[cn] < l.length := (HOK.out.first _ (List.getElem_mem hcO)).1
    obtain ⟨bo, oo, rfl, _, hco⟩ := HN1.out.cell (by omega)
    obtain ⟨bs, os', rfl, _, hcs⟩ := HS1.out.cell (by omega)
    have d1 := hco cn hcO
    have d2 := (hcs O[cn] hp).trans (by rw [sAt_eq hp] : _ = some (Value.string (sAt l O[cn])))
    obtain ⟨h3, h4⟩ := HC3.out hcO
    rw [← HNN.out] at hp
    generalize O[cn] = p at d1 d2 h3 h4 hp
    generalize sAt l p = x at d2 h3 h4
    have hxs := str_eq x s
    have hbc : ((cn : Int) == (m : Int)) = false := by simp; omega
    have H3 := hide h3
    have H4 := hide h4
    clear h3 h4 hco hcs
    by_cases e : x = s
    · have h5 := H4.out e
      have HR : Hid (findR l s = .tuple #[.int .i64 (p : Int), .bool true]) := by
        show findR l s = _
        unfold findR
        rw [h5, if_neg (by omega)]
        simp
      subst e
      clear h5 hxs
      go_wp2_with fail
      go_quiet (fail)
      go_wp2_with fail
      go_ret2
      exact ⟨by rw [HR.out]; rfl, below_drewN HE1.out _⟩
    · have h5 := H3.out e
      have HR : Hid (findR l s = .tuple #[.int .i64 0, .bool false]) := by
        show findR l s = _
        unfold findR
        rw [h5]
        rfl
      have hx' : (x.toList == s.toList) = false := by rw [hxs]; simpa using e
      clear h5 hxs e
      go_wp2_with fail
      go_quiet (fail)
      go_wp2_with fail
      go_ret2
      exact ⟨by rw [HR.out]; rfl, below_drewN HE1.out _⟩
  · obtain rfl : cn = m := by omega
    have h5 := HC2.out HM.out
    have HR : Hid (findR l s = .tuple #[.int .i64 0, .bool false]) := by
      show findR l s = _
      unfold findR
      rw [h5]
      rfl
    clear h5
    go_wp2_with fail
    go_quiet (fail)
    go_wp2_with fail
    go_ret2
    exact ⟨by rw [HR.out]; rfl, below_drewN HE1.out _⟩
end Go.Proofs.Ytanpljalbijfkaa
