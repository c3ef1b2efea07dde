/- ranges.New. -/
import Derived.Test.YtkfepdejiedjbaaRngS
namespace Go.Proofs.Ytkfepdejiedjbaa
open Go.RowKit

theorem info_parts2 {t : TypeId} {a b : Nat} {v : Value} {s : Nat} (h : (Try.prog.info? t).map (fun i => (i.size, i.bytes, i.zero, (i.zero.map (·.cells.size)))) = some (a, b, some v, some s)) :
    ∃ i, Try.prog.info? t = some i ∧ i.zero = some v ∧ i.size = a ∧ i.bytes = b := by
  cases hi : Try.prog.info? t with
  | none => simp [hi] at h
  | some i =>
    simp [hi] at h
    exact ⟨i, rfl, h.2.2.1, h.1, h.2.1⟩

theorem info_rng : ∃ i, Try.prog.info? 85 = some i ∧ i.zero = some (.agg #[.int .i32 0, .int .i32 0]) ∧ i.size = 2 ∧ i.bytes = 8 :=
  info_parts2 (a := 2) (b := 8) (v := .agg #[.int .i32 0, .int .i32 0]) (s := 2) (by kernel_rfl)

theorem rngCells_append (l m : List (Int × Int)) : rngCells (l ++ m) = rngCells l ++ rngCells m := by simp [rngCells]
theorem rngCells_one (l : List (Int × Int)) : ∀ u ∈ rngCells l, u.oneCell' = true := by
  intro u hu
  simp only [rngCells, List.mem_flatMap] at hu
  obtain ⟨p, _, hu⟩ := hu
  simp at hu
  rcases hu with rfl | rfl <;> rfl

/-- append of one range that has just been laid. -/
theorem wpList_append_R (w : World) {ops : Array Oper} {rest : List Oper} {o : Oper} {a : Act} {Q : Exit → Act → World → Prop} (hgd : o.guard = none) (s x : Operand)
    (ho : o.op = .call { callee := .builtin .append, args := #[s, x], argTypes := #[47, 47] })
    (base : Nat) (v : Value) (n : Nat) (l : List (Int × Int)) (hs : a.eval s = v) (_p : Int × Int) (B : Nat) (A : Option Addr) (m c : Nat) (news : List (Int × Int)) (hx : a.eval x = .slice A m c)
    (hown : w.ownsRow base 85 2 v n (rngCells l)) (hr : Reads w B 2 A m (rngCells news)) (hn : n + m ≤ 17592186044416) (hbase : base ≤ w.heap.size)
    (h : ∀ A' c' w', w'.ownsRow base 85 2 (.slice A' (n + m) c') (n + m) (rngCells (l ++ news)) → w.grownBy w' v.ownBlock → (Value.ownBlock (.slice A' (n + m) c') = v.ownBlock ∨ Value.ownBlock (.slice A' (n + m) c') = some w.heap.size) → wpList Try.prog ops Q rest (a.put o.dst (.slice A' (n + m) c')) w') : wpList Try.prog ops Q (o :: rest) a w := by
  obtain ⟨i0, hi, hz, hs2, hb⟩ := info_rng
  refine wpList_append_sl w hgd s x 47 ho base 85 i0 _ 2 8 Try.underlying47 hi hz hs2 hb rfl (by decide) v n (rngCells l) hs hown B A m c (rngCells news) hx hr (rngCells_one _) (by unfold maxLen; omega) (by omega) hbase ?_
  rw [← rngCells_append]
  exact h

theorem clipL_snoc (l : List (Int × Int)) (p : Int × Int) : clipL (l ++ [p]) = if max p.1 0 ≤ min p.2 1114111 then clipL l ++ [(max p.1 0, min p.2 1114111)] else clipL l := by
  unfold clipL
  rw [List.map_append, List.filter_append]
  simp only [List.map_cons, List.map_nil, List.filter_cons, List.filter_nil, decide_eq_true_eq]
  split <;> simp

theorem clipL_len (l : List (Int × Int)) : (clipL l).length ≤ l.length := by
  unfold clipL
  exact Nat.le_trans (List.length_filter_le _ _) (by simp)

theorem mg_len (l : List (Int × Int)) (c : Int × Int) : (mg c l).length ≤ l.length + 1 := by
  induction l generalizing c with
  | nil => simp [mg]
  | cons x l ih =>
    unfold mg
    split
    · have := ih (c.1, max c.2 x.2); simp; omega
    · have := ih x; simp; omega
theorem mergeL_len (l : List (Int × Int)) : (mergeL l).length ≤ l.length := by
  cases l with
  | nil => simp [mergeL]
  | cons x l => have := mg_len l x; simp [mergeL]; omega

theorem own_cell2 {w : World} {base : Nat} {e : TypeId} {A : Option Addr} {n c : Nat} {xs : List Value} (h : w.ownsRow base e 2 (.slice A n c) n xs) (hn : 0 < n) :
    ∃ g, A = some ⟨g, 0, none⟩ ∧ base ≤ g ∧ g < w.heap.size ∧ (∀ j, j < n * 2 → w.cell? ⟨g, j, none⟩ = xs[j]?) ∧ ∀ j, w.frozen? ⟨g, j, none⟩ = false := by
  have hl := h.lt
  rcases h.2 with ⟨_, h0⟩ | ⟨g, cap, cur, hv, hg, hb, _⟩
  · omega
  · injection hv with h1 h2 h3
    subst h1; subst h3
    exact ⟨g, rfl, hg, (Array.getElem?_eq_some_iff.1 hb).1, fun j hj => h.cellAt j (by omega), fun j => h.frozenAt j⟩

theorem reads_one (w : World) (t : TypeId) (x y : Int) (g : Nat) (hg : g = w.heap.size) : Reads (w.alloc (.cells #[.int .i32 x, .int .i32 y] t)) (g + 1) 2 (some ⟨g, 0, none⟩) 1 (rngCells [(x, y)]) := by
  subst hg
  exact (reads_lit w t #[.int .i32 x, .int .i32 y] [(x, y)] rfl rfl).more (by simp)

/-- sort.Slice at a row of the caller's own, none or one range too. -/
theorem sortR_own (A : Option Addr) (c Bs base : Nat) (l : List (Int × Int)) (w : World) (hO : w.ownsRow base 85 2 (.slice A l.length c) l.length (rngCells l)) (hsz : l.length < 4611686018427387904)
    (hBs : w.cell? ⟨Bs, 0, none⟩ = some (.slice A l.length c)) (hB1 : Bs < w.heap.size) (hB2 : Bs < base) :
    Calls Try.prog 77 #[.iface 47 (.slice A l.length c), .func (.func 78) #[] #[.pointer (some ⟨Bs, 0, none⟩)]] w (fun e w' =>
      e = .returned (.tuple #[]) ∧ ∃ l', l'.Perm l ∧ sortedLo l' ∧ RngAt w' w'.heap.size A l' ∧ w.grownBy w' (Value.ownBlock (.slice A l.length c))) := by
  by_cases h0 : 0 < l.length
  · obtain ⟨g, rfl, hg1, hg2, hc, hf⟩ := own_cell2 hO h0
    refine (sortR_any g c Bs l w (fun j u hu => ?_) hf hg2 hsz hBs hB1 (by omega)).mono fun e w' h => h
    rw [hc j (by rw [← rngCells_length]; exact (List.getElem?_eq_some_iff.1 hu).1), hu]
  · have hl : l = [] := List.length_eq_zero_iff.1 (by omega)
    subst hl
    have h := Any.sort_Slice_tiny Try.sl6 47 85 srT srE (by kernel_rfl) (by kernel_rfl) (by kernel_rfl) (by kernel_rfl) 25 (fun _ => by kernel_rfl)
      A 0 c (by omega) 94 (by kernel_rfl) (.func 78) #[] #[.pointer (some ⟨Bs, 0, none⟩)] w
    refine h.mono ?_
    rintro e w' ⟨rfl, os, rfl⟩
    refine ⟨rfl, [], List.Perm.refl _, trivial, Reads.none_, ⟨rfl, rfl, rfl, by simp [Sort.grow], fun k hk _ => ?_⟩⟩
    simp only [Sort.grow]
    rw [Array.getElem?_append_left hk]

theorem sortedLo_drop {l : List (Int × Int)} (h : sortedLo l) (k : Nat) : sortedLo (l.drop k) := by
  induction k generalizing l with
  | zero => exact h
  | succ k ih =>
    cases l with
    | nil => trivial
    | cons p l => exact ih h.2

/-- How far the merging of sorted ranges has come. -/
def mrel (S : List (Int × Int)) (k : Nat) (O : List (Int × Int)) : Prop :=
  (k = 0 ∧ O = []) ∨ ∃ d c, O = d ++ [c] ∧ mergeL S = d ++ mg c (S.drop k) ∧ c.2 ≤ 1114111 ∧ 0 ≤ c.2

theorem mrel_new {S : List (Int × Int)} {k : Nat} {O : List (Int × Int)} (h : mrel S k O) (hk : k < S.length) (hr : okR S[k]) (hno : O = [] ∨ ∀ d c, O = d ++ [c] → c.2 + 1 < S[k].1) : mrel S (k + 1) (O ++ [S[k]]) := by
  have hd : S.drop k = S[k] :: S.drop (k + 1) := by rw [List.drop_eq_getElem_cons hk]
  rcases h with ⟨rfl, rfl⟩ | ⟨d, c, rfl, hm, _⟩
  · refine .inr ⟨[], S[0], rfl, ?_, hr.2.2, by have := hr.1; have := hr.2.1; omega⟩
    cases S with
    | nil => simp at hk
    | cons x S => rfl
  · rcases hno with e | hno
    · simp at e
    · have := hno d c rfl
      refine .inr ⟨d ++ [c], S[k], rfl, ?_, hr.2.2, by have := hr.1; have := hr.2.1; omega⟩
      rw [hm, hd, mg, if_neg (by omega)]
      simp

theorem mrel_join {S : List (Int × Int)} {k : Nat} {d : List (Int × Int)} {c : Int × Int} (h : mrel S k (d ++ [c])) (hk : k < S.length) (hr : okR S[k]) (hj : S[k].1 ≤ c.2 + 1) : mrel S (k + 1) (d ++ [(c.1, max c.2 S[k].2)]) := by
  have hd : S.drop k = S[k] :: S.drop (k + 1) := by rw [List.drop_eq_getElem_cons hk]
  rcases h with ⟨_, e⟩ | ⟨d', c', e, hm, hc1, hc2⟩
  · simp at e
  · obtain ⟨rfl, e2⟩ := List.append_inj' e rfl
    obtain rfl : c = c' := by simpa using e2
    refine .inr ⟨d, (c.1, max c.2 S[k].2), rfl, ?_, by have := hr.2.2; show max c.2 S[k].2 ≤ _; omega, by show 0 ≤ max c.2 S[k].2; omega⟩
    rw [hm, hd, mg, if_pos hj]

theorem mrel_end {S O : List (Int × Int)} (h : mrel S S.length O) : O = mergeL S := by
  rcases h with ⟨h0, rfl⟩ | ⟨d, c, rfl, hm, _⟩
  · have : S = [] := List.length_eq_zero_iff.1 h0
    subst this; rfl
  · rw [hm, List.drop_length, mg]

theorem rngCells_setHi (d : List (Int × Int)) (c : Int × Int) (v : Int) : (rngCells (d ++ [c])).set (d.length * 2 + 1) (i32v v) = rngCells (d ++ [(c.1, v)]) := by
  rw [rngCells_append, rngCells_append, List.set_append_right _ _ (by rw [rngCells_length]; omega), rngCells_length, Nat.add_sub_cancel_left]
  rfl

/-- A set: its ranges lie in a row of its own; they rise; it has just the runes of which f holds. -/
def SetPost (f : Int → Bool) (n : Nat) (w : World) (e : Ending) (w' : World) : Prop :=
  ∃ A c out, e = .returned (.agg #[.slice A (List.length out) c]) ∧ w'.ownsRow w.heap.size 85 2 (.slice A (List.length out) c) (List.length out) (rngCells out) ∧ canonFrom 0 out ∧ (∀ r, inT out r = f r) ∧ out.length ≤ n ∧ Ext w w'

set_option maxRecDepth 100000 in
set_option maxHeartbeats 1000000 in
theorem newR_any (A : Option Addr) (c : Nat) (l : List (Int × Int)) (w : World) (h : RngAt w w.heap.size A l) (hl : l.length ≤ 17592186044416) :
    Calls Try.prog 34 #[.slice A l.length c] w (SetPost (hasT l) l.length w) := by
  go_enter Try.func34, Try.ntmps34
  go_wp2_with fail
  go_loopw [12] (fun i wr => ∃ (k : Nat) (A' : Option Addr) (c' : Nat), k ≤ l.length ∧ i = .int .i64 k ∧ Ext w wr ∧ Blk wr w.heap.size 49 #[.slice none 0 0] ∧ Blk wr (w.heap.size + 1) 47 #[.slice A' (clipL (l.take k)).length c'] ∧ wr.ownsRow (w.heap.size + 2) 85 2 (.slice A' (clipL (l.take k)).length c') (clipL (l.take k)).length (rngCells (clipL (l.take k)))) (fun i _ => l.length - (intOf i).toNat)
  case atStart => exact ⟨0, none, 0, Nat.zero_le _, rfl, ((Ext.rfl' w).alloc (Nat.le_refl _) _).alloc (by simp) _, (Blk.new _ _ _).alloc _, by simpa [clipL] using Blk.new (w.alloc (.cells #[.slice none 0 0] 49)) 47 #[.slice none 0 0], World.ownsRow_nil _ _ _ _⟩
  case round =>
    obtain ⟨k, A', c', hk, rfl, hE, hB1, hB2, hO⟩ := hrel
    by_cases hlt : k < l.length
    · obtain ⟨b, o, rfl, hbs, hcell⟩ := h.cell (by omega)
      obtain ⟨hp1, hp2⟩ := hcell k hlt
      obtain ⟨lo, hlo⟩ : ∃ lo, lo = l[k].1 := ⟨_, rfl⟩
      obtain ⟨hi, hhi⟩ : ∃ hi, hi = l[k].2 := ⟨_, rfl⟩
      rw [← hlo] at hp1
      rw [← hhi] at hp2
      have hst := clipL_snoc (l.take k) l[k]
      rw [← List.take_succ_eq_append_getElem hlt, ← hlo, ← hhi] at hst
      have hlen := clipL_len (l.take k)
      rw [List.length_take] at hlen
      have q1 : wr.cell? ⟨b, o + k * 2, none⟩ = some (i32v lo) := (hE.cell (p := ⟨b, o + k * 2, none⟩) hbs).trans hp1
      have q2 : wr.cell? ⟨b, o + k * 2 + 1, none⟩ = some (i32v hi) := (hE.cell (p := ⟨b, o + k * 2 + 1, none⟩) hbs).trans hp2
      obtain ⟨L, hL⟩ : ∃ L, L = clipL (l.take k) := ⟨_, rfl⟩
      obtain ⟨L', hL'⟩ : ∃ L, L = clipL (l.take (k + 1)) := ⟨_, rfl⟩
      rw [← hL, ← hL'] at hst
      rw [← hL] at hB2 hO hlen
      have HST := hide hst
      have HL' := hide hL'
      have HE := hide hE
      have HO := hide hO
      have HB1 := hide hB1
      have HB2 := hide hB2
      have b2 := hB2.cell 0
      have b2f := hB2.free 0
      have b2l := hB2.lt
      have hsz := hE.size
      clear hst hL hL' hE hO hB1 hB2 hp1 hp2 hcell hlo hhi
      simp only [List.getElem?_toArray, List.getElem?_cons_zero] at b2
      by_cases hle : max lo 0 ≤ min hi 1114111
      · rw [if_pos hle] at HST
        go_wp2_with (at_builtin; go_loud (refine wpList_append_R _ rfl _ _ rfl (w.heap.size + 2) _ L.length L rfl (max lo 0, min hi 1114111) _ _ 1 1 [(max lo 0, min hi 1114111)] rfl ((HO.out.alloc _).alloc _) (reads_one _ _ _ _ _ (by simp)) (by omega) (by simp; omega) ?_))
        intro A2 c2 w1 hown1 hgrow hat
        have hn1 : L'.length = L.length + 1 := by rw [HST.out]; simp
        rw [← HST.out, ← hn1] at hown1
        rw [← hn1]
        have hnr : ∀ g', g' < w.heap.size + 2 → some g' ≠ Value.ownBlock (.slice A' L.length c') := by
          intro g' hg'
          rcases HO.out.2 with ⟨e, _⟩ | ⟨g, cap, cur, e, hg, _⟩
          · rw [e]; simp [Value.ownBlock]
          · rw [e]; simp [Value.ownBlock]; omega
        have B1' := hide (((HB1.out.alloc _).alloc _).grown hgrow (hnr _ (by omega)))
        have B2' := ((HB2.out.alloc _).alloc _).grown hgrow (hnr _ (by omega))
        have f2 := B2'.free 0
        have g2 := B2'.cell 0
        have hE1 := hide (show Ext w w1 from ⟨hgrow.os.trans HE.out.os, hgrow.tape.trans HE.out.tape, hgrow.output.trans HE.out.output, by have := hgrow.size; simp at this; omega, fun k' hk' => (hgrow.block k' (by simp; omega) (hnr _ (by omega))).trans (((HE.out.alloc (by omega) _).alloc (by simp; omega) _).block k' hk')⟩)
        have B2h := hide B2'
        have HO1 := hide hown1
        clear B2' hgrow hat hown1 hnr
        simp only [List.getElem?_toArray, List.getElem?_cons_zero] at g2
        go_wp2_with fail
        go_roundw
        case rel =>
          refine ⟨k + 1, A2, c2, by omega, by go_num, hE1.out.setCell (by simp) _, B1'.out.far (by simp) _, ?_, ?_⟩
          · rw [← HL'.out, hn1]; exact B2h.out.set_ 0 _
          · rw [← HL'.out]
            refine own_far HO1.out ?_ _
            rcases HO1.out.2 with ⟨e, _⟩ | ⟨g, cap, cur, e, hg, _⟩
            · rw [e]; simp [Value.ownBlock]
            · rw [e]; simp [Value.ownBlock]; omega
        case measure => simp [intOf]; omega
      · rw [if_neg hle] at HST
        go_wp2_with fail
        go_roundw
        case rel => exact ⟨k + 1, A', c', by omega, by go_num, HE.out.alloc (by omega) _, HB1.out.alloc _, by rw [← HL'.out, HST.out]; exact HB2.out.alloc _, by rw [← HL'.out, HST.out]; exact HO.out.alloc _⟩
        case measure => simp [intOf]; omega
    · obtain rfl : k = l.length := by omega
      rw [List.take_length] at hB2 hO
      have hlen := clipL_len l
      have hE' := hE
      obtain ⟨L, hL⟩ : ∃ L, L = clipL l := ⟨_, rfl⟩
      rw [← hL] at hB2 hO hlen
      have HS := hide (sortR_own A' c' (w.heap.size + 1) (w.heap.size + 2) L wr hO (by omega) (by rw [hB2.cell]; rfl) hB2.lt (by omega))
      have HL := hide hL
      have HE := hide hE
      have HB1 := hide hB1
      have HB2 := hide hB2
      have b2 := hB2.cell 0
      have HO := hide hO
      simp only [List.getElem?_toArray, List.getElem?_cons_zero] at b2
      clear hL hE hB1 hB2 hE' hO
      go_wp2_with fail
      refine HS.out.mono ?_
      rintro e w2 ⟨rfl, S, hperm, hsort, hS, hg2⟩
      have hSl : S.length = L.length := hperm.length_eq
      have hok : ∀ p ∈ S, okR p := fun p hp => clipL_ok l p (by rw [← HL.out]; exact hperm.subset hp)
      have hin : ∀ r, inT S r = hasT l r := fun r => by rw [← clipL_in, ← HL.out]; unfold inT; exact hperm.any_eq
      have hnr : ∀ g', g' < w.heap.size + 2 → some g' ≠ Value.ownBlock (.slice A' L.length c') := by
        intro g' hg'
        rcases HO.out.2 with ⟨e, _⟩ | ⟨g, cap, cur, e, hg, _⟩
        · rw [e]; simp [Value.ownBlock]
        · rw [e]; simp [Value.ownBlock]; omega
      have B1' := HB1.out.grown hg2 (hnr _ (by omega))
      have B2' := HB2.out.grown hg2 (hnr _ (by omega))
      have hE2 := hide (show Ext w w2 from ⟨hg2.os.trans HE.out.os, hg2.tape.trans HE.out.tape, hg2.output.trans HE.out.output, Nat.le_trans HE.out.size hg2.size, fun k' hk' => (hg2.block k' (by have := HE.out.size; omega) (hnr _ (by omega))).trans (HE.out.block k' hk')⟩)
      have hbound : S.length ≤ 17592186044416 := by omega
      have g2 := B2'.cell 0
      have l1 := B1'.lt
      simp only [List.getElem?_toArray, List.getElem?_cons_zero] at g2
      rw [← hSl] at g2
      rw [← hSl] at hlen
      have BB1 := hide B1'
      have HOK := hide hok
      have HIN := hide hin
      have HSORT := hide hsort
      have HSR := hide hS
      clear B2' hg2 hnr hperm hok hin hsort hS hSl HS HO HB1 HB2 B1'
      go_wp2_with fail
      go_loopw [39, 6] (fun i o wr => ∃ (k : Nat) (Ao : Option Addr) (co : Nat) (O : List (Int × Int)), k ≤ S.length ∧ O.length ≤ k ∧ i = .int .i64 k ∧ o = .slice Ao O.length co ∧ Ext w2 wr ∧ wr.ownsRow w2.heap.size 85 2 (.slice Ao O.length co) O.length (rngCells O) ∧ mrel S k O) (fun i _ _ => S.length - (intOf i).toNat)
      case atStart => exact ⟨0, none, 0, [], Nat.zero_le _, Nat.le_refl _, rfl, rfl, Ext.rfl' _, World.ownsRow_nil _ _ _ _, .inl ⟨rfl, rfl⟩⟩
      case round =>
        obtain ⟨k, Ao, co, O, hk, hOk, rfl, rfl, hEk, hOr, hmr⟩ := hrel
        have HMR := hide hmr
        by_cases hlt : k < S.length
        · obtain ⟨b, o, rfl, hbs, hcell⟩ := HSR.out.cell (by omega)
          obtain ⟨hp1, hp2⟩ := hcell k hlt
          obtain ⟨lo, hlo⟩ : ∃ lo, lo = S[k].1 := ⟨_, rfl⟩
          obtain ⟨hi, hhi⟩ : ∃ hi, hi = S[k].2 := ⟨_, rfl⟩
          rw [← hlo] at hp1
          rw [← hhi] at hp2
          have q1 : wr.cell? ⟨b, o + k * 2, none⟩ = some (i32v lo) := (hEk.cell (p := ⟨b, o + k * 2, none⟩) hbs).trans hp1
          have q2 : wr.cell? ⟨b, o + k * 2 + 1, none⟩ = some (i32v hi) := (hEk.cell (p := ⟨b, o + k * 2 + 1, none⟩) hbs).trans hp2
          have hrk : okR S[k] := HOK.out _ (List.getElem_mem hlt)
          have hSk : S[k] = (lo, hi) := by rw [hlo, hhi]
          have HSK := hide hSk
          have HRK := hide hrk
          have HEK := hide hEk
          have HOR := hide hOr
          have hszk := hEk.size
          clear hp1 hp2 hcell hlo hhi hEk hSk hrk hmr hOr
          rcases List.eq_nil_or_concat O with hO | ⟨d, cc, hO⟩
          · subst hO
            go_wp2_with fail
            go_quiet (fail)
            go_wp2_with (at_builtin; refine wpList_append_R _ rfl _ _ rfl w2.heap.size _ 0 [] rfl (lo, hi) _ _ 1 1 [(lo, hi)] rfl ((own_ext (HOR.out.alloc _) (below_drewN (Ext.rfl' _) _)).alloc _) (reads_one _ _ _ _ _ (by simp)) (by omega) (by simp; omega) ?_)
            intro A3 c3 w3 hown3 hgrow3 _
            have hE3 : Ext w2 w3 := by
              have h1 : Ext w2 (((wr.alloc (.cells #[.int .i32 lo, .int .i32 hi] 85)).drewN nq).alloc (.cells #[.int .i32 lo, .int .i32 hi] 85)) := (below_drewN (HEK.out.alloc (by omega) _) _).alloc (by simp; omega) _
              refine ⟨hgrow3.os.trans h1.os, hgrow3.tape.trans h1.tape, hgrow3.output.trans h1.output, Nat.le_trans h1.size hgrow3.size, fun k' hk' => (hgrow3.block k' (by simp; omega) ?_).trans (h1.block k' hk')⟩
              exact fun e => absurd (HOR.out.lt k' e.symm).1 (by omega)
            have HE3 := hide hE3
            have HO3 := hide hown3
            clear hE3 hown3 hgrow3
            go_wp2_with fail
            go_roundw
            case rel =>
              have hm := mrel_new HMR.out hlt HRK.out (.inl rfl)
              rw [HSK.out] at hm
              exact ⟨k + 1, A3, c3, [] ++ [(lo, hi)], by omega, by simp, by go_num, rfl, HE3.out, by simpa using HO3.out, hm⟩
            case measure => simp [intOf]; omega
          · rw [List.concat_eq_append] at hO
            subst hO
            obtain ⟨g, rfl, hgb, hgl, hgc, hgf⟩ := own_cell2 HOR.out (by simp)
            have hlast : (rngCells (d ++ [cc]))[d.length * 2 + 1]? = some (i32v cc.2) := by
              have := (rngCells_get (d ++ [cc]) d.length (by simp)).2
              simpa using this
            have r2 := (hgc (d.length * 2 + 1) (by simp; omega)).trans hlast
            have r2f := hgf (d.length * 2 + 1)
            have hcb : cc.2 ≤ 1114111 ∧ 0 ≤ cc.2 := by
              rcases HMR.out with ⟨_, e⟩ | ⟨d', c'', e, _, h1, h2⟩
              · simp at e
              · obtain ⟨_, e2⟩ := List.append_inj' e rfl
                obtain rfl : cc = c'' := by simpa using e2
                exact ⟨h1, h2⟩
            obtain ⟨n, hn⟩ : ∃ n, n = d.length := ⟨_, rfl⟩
            have hlen2 : (d ++ [cc]).length = n + 1 := by simp [hn]
            rw [hlen2] at hOk ⊢
            rw [hlen2] at HOR
            rw [← hn] at r2 r2f
            have HN := hide hn
            have HL2 := hide hlen2
            obtain ⟨ch, hch⟩ : ∃ ch, ch = cc.2 := ⟨_, rfl⟩
            rw [← hch] at r2 hcb
            have HCH := hide hch
            clear hgc hgf hlast hn hlen2 hch
            by_cases hj : lo ≤ ch + 1
            · go_wp2_with fail
              go_quiet (fail)
              go_wp2_with fail
              go_region
              go_wp2_with fail
              go_roundw
              case rel =>
                have hm := mrel_join HMR.out hlt HRK.out (by rw [HSK.out, ← HCH.out]; exact hj)
                rw [HSK.out, ← HCH.out] at hm
                have hL3 : (d ++ [(cc.1, max ch hi)]).length = n + 1 := by simp [HN.out]
                refine ⟨k + 1, some ⟨g, 0, none⟩, co, d ++ [(cc.1, max ch hi)], by omega, by rw [hL3]; omega, by go_num, by rw [hL3], Below.setCell (below_drewN (HEK.out.alloc (by omega) _) _) hgb _, ?_, hm⟩
                rw [hL3, ← rngCells_setHi d cc, ← HN.out]
                exact ((own_ext (HOR.out.alloc _) (below_drewN (Ext.rfl' _) _)).stored (n * 2 + 1) (i32v (max ch hi))).1
              case measure => simp [intOf]; omega
            · go_wp2_with fail
              go_quiet (fail)
              go_wp2_with (at_builtin; refine wpList_append_R _ rfl _ _ rfl w2.heap.size _ (n + 1) (d ++ [cc]) rfl (lo, hi) _ _ 1 1 [(lo, hi)] rfl ((own_ext (HOR.out.alloc _) (below_drewN (Ext.rfl' _) _)).alloc _) (reads_one _ _ _ _ _ (by simp)) (by omega) (by simp; omega) ?_)
              intro A3 c3 w3 hown3 hgrow3 _
              have hE3 : Ext w2 w3 := by
                have h1 : Ext w2 (((wr.alloc (.cells #[.int .i32 lo, .int .i32 hi] 85)).drewN nq).alloc (.cells #[.int .i32 lo, .int .i32 hi] 85)) := (below_drewN (HEK.out.alloc (by omega) _) _).alloc (by simp; omega) _
                refine ⟨hgrow3.os.trans h1.os, hgrow3.tape.trans h1.tape, hgrow3.output.trans h1.output, Nat.le_trans h1.size hgrow3.size, fun k' hk' => (hgrow3.block k' (by simp; omega) ?_).trans (h1.block k' hk')⟩
                exact fun e => absurd (HOR.out.lt k' e.symm).1 (by omega)
              have HE3 := hide hE3
              have HO3 := hide hown3
              clear hE3 hown3 hgrow3
              go_wp2_with fail
              go_roundw
              case rel =>
                have hm := mrel_new HMR.out hlt HRK.out (.inr fun d' c'' e => by obtain ⟨_, e2⟩ := List.append_inj' e rfl; obtain rfl : cc = c'' := (by simpa using e2); rw [HSK.out, ← HCH.out]; show ch + 1 < lo; omega)
                rw [HSK.out] at hm
                have hL3 : (d ++ [cc] ++ [(lo, hi)]).length = n + 1 + 1 := by rw [List.length_append, HL2.out]; rfl
                exact ⟨k + 1, A3, c3, (d ++ [cc]) ++ [(lo, hi)], by omega, by rw [hL3]; omega, by go_num, by rw [hL3], HE3.out, by rw [hL3]; simpa using HO3.out, hm⟩
              case measure => simp [intOf]; omega
        · obtain rfl : k = S.length := by omega
          have HEK := hide hEk
          have HOR := hide hOr
          have hB' := BB1.out.ext hEk
          have fB := hB'.free 0
          have cB := hB'.cell 0
          simp only [List.getElem?_toArray, List.getElem?_cons_zero] at cB
          clear hB'
          clear hEk hOr hmr
          go_wp2_with fail
          have hBr := (BB1.out.ext HEK.out).set_ 0 (.slice Ao O.length co)
          refine bodyPost_ret (results_cell_row rfl _ _ w.heap.size 49 _ (0, 0) _ rfl hBr Try.underlying49 rfl (by kernel_rfl)) rfl ?_
          have hO := mrel_end HMR.out
          have hSo := HSORT.out
          refine ⟨Ao, co, O, rfl, ?_, by rw [hO]; exact mergeL_canon HOK.out hSo, fun r => by rw [hO, mergeL_in HOK.out hSo]; exact HIN.out r, by omega, ?_⟩
          · have h1 := own_far HOR.out (p := ⟨w.heap.size, 0, none⟩) (by
              rcases HOR.out.2 with ⟨e, _⟩ | ⟨g, cap, cur, e, hg, _⟩
              · rw [e]; simp [Value.ownBlock]
              · rw [e]; simp [Value.ownBlock]; omega) (.slice Ao O.length co)
            exact own_more h1 (by have := hE2.out.size; omega)
          · exact Below.setCell (hE2.out.trans' HEK.out) (by simp) _
end Go.Proofs.Ytkfepdejiedjbaa
