/- kinds: how a type reads as an argument. -/
import Derived.Test.YtanpljalbijfkaaKinAll
import Derived.ProofKit
import Derived.OpenShut
import Derived.ChangeOld
import Derived.Deep.Slices
import Derived.SizedLaws
namespace Go.Proofs.Ytanpljalbijfkaa
open Go.ChangeShapes Go.WideShapes Go.ChangeAt Go.RowKit Go.Deep

theorem Try.own : ownKnob Try.prog.godebug = none := by kernel_rfl
theorem Try.laidOut : laidOutB Try.prog = true := by kernel_rfl

def WOk {H : Type} (t : TypeId) (d : DataW H) : Prop := ∀ n ∈ d.weights Try.prog t, n ≤ reachBytes
theorem WOk.part {H : Type} {t : TypeId} {fs : Array Field} {parts : List (DataW H)} (hu : Try.prog.underlying t = some (.struct fs)) (h : WOk t (.agg parts)) {j : Nat} {tj : TypeId} {d : DataW H} (ht : (fs.toList.map (·.type))[j]? = some tj) (hd : parts[j]? = some d) : WOk tj d := by
  intro n hn
  refine h n ?_
  simp only [DataW.weights, hu]
  exact DataW.weights_mem_each ht hd n hn
theorem weightsAll_mem {H : Type} {e : TypeId} {l : List (DataW H)} {d : DataW H} (hd : d ∈ l) {n : Nat} (hn : n ∈ d.weights Try.prog e) : n ∈ DataW.weightsAll Try.prog e l := by
  induction l with
  | nil => cases hd
  | cons x r ih =>
    simp only [DataW.weightsAll, List.mem_append]
    rcases List.mem_cons.1 hd with rfl | hd
    · exact .inl hn
    · exact .inr (ih hd)
theorem WOk.elem {H : Type} {t e : TypeId} {elems spare : List (DataW H)} (hu : Try.prog.underlying t = some (.slice e)) (h : WOk t (.slice elems spare)) {d : DataW H} (hd : d ∈ elems) : WOk e d := by
  intro n hn
  refine h n ?_
  simp only [DataW.weights, hu, List.mem_cons, List.mem_append]
  exact .inr (.inl (weightsAll_mem hd hn))
theorem WOk.len {H : Type} {t e : TypeId} {elems spare : List (DataW H)} (hu : Try.prog.underlying t = some (.slice e)) (h : WOk t (.slice elems spare)) : (elems.length + spare.length) * Try.prog.bytesOf e ≤ reachBytes := by
  refine h _ ?_
  simp [DataW.weights, hu]

instance : Inhabited Ty := ⟨.nil⟩
instance : Inhabited PtH := ⟨⟨wd0, false, [], 0, 0, 0, 0, []⟩⟩

section
variable {H : Type} {enc : TypeId × Value → H} {W : World} {base : Nat} {spare : Nat → Bool} {held : Bool}

theorem lenTwo {α : Type} {l : List α} (h : l.length = 2) : ∃ a b, l = [a, b] := by
  match l, h with
  | [a, b], _ => exact ⟨a, b, rfl⟩
theorem lenFour {α : Type} {l : List α} (h : l.length = 4) : ∃ a b c d, l = [a, b, c, d] := by
  match l, h with
  | [a, b, c, d], _ => exact ⟨a, b, c, d, rfl⟩
theorem lenNine {α : Type} {l : List α} (h : l.length = 9) : ∃ a0 a1 a2 a3 a4 a5 a6 a7 a8, l = [a0, a1, a2, a3, a4, a5, a6, a7, a8] := by
  match l, h with
  | [a0, a1, a2, a3, a4, a5, a6, a7, a8], _ => exact ⟨a0, a1, a2, a3, a4, a5, a6, a7, a8, rfl⟩
theorem lenMany {α : Type} {l : List α} {n m : Nat} (h : l.length = n + m) : ∃ a b, l = a ++ b ∧ a.length = n ∧ b.length = m :=
  ⟨l.take n, l.drop n, (List.take_append_drop n l).symm, by rw [List.length_take]; omega, by rw [List.length_drop]; omega⟩

set_option maxRecDepth 100000 in
theorem trod_word {fuel : Nat} {cs : List Value} {x : DataW H × List MemPlace} (h : DataW.trod enc Try.prog W base spare held fuel 25 cs = some x) : ∃ p : Wd, cs = [.string p.1, .int .i64 p.2] ∧ p.1.size ≤ maxLen := by
  obtain ⟨xs, m, _, _, hl, hxl, hx⟩ := DataW.trod_struct Try.underlying25 h
  have h2 : Try.prog.cellsOf 25 = 2 := by kernel_rfl
  have h1 : Try.prog.cellsOf 9 = 1 := by kernel_rfl
  have h3 : Try.prog.cellsOf 3 = 1 := by kernel_rfl
  have hl' : cs.length = 2 := hl.trans h2
  clear hl h2
  obtain ⟨u, v, rfl⟩ := lenTwo hl'
  have e0 : DataW.trod enc Try.prog W base spare held m 9 (List.take (Try.prog.cellsOf 9) (List.drop 0 [u, v])) = xs[0]? := hx 0 _ rfl
  have e1 : DataW.trod enc Try.prog W base spare held m 3 (List.take (Try.prog.cellsOf 3) (List.drop 1 [u, v])) = xs[1]? := hx 1 _ rfl
  have hxl' : xs.length = 2 := hxl
  obtain ⟨x0, hx0⟩ : ∃ x0, xs[0]? = some x0 := ⟨_, List.getElem?_eq_getElem (by omega)⟩
  obtain ⟨x1, hx1⟩ : ∃ x1, xs[1]? = some x1 := ⟨_, List.getElem?_eq_getElem (by omega)⟩
  generalize Try.prog.cellsOf 9 = k at e0 h1
  generalize Try.prog.cellsOf 3 = k' at e1 h3
  subst h1 h3
  obtain ⟨s, ha, _, hw⟩ := DataW.trod_string Try.underlying9 (e0.trans hx0)
  obtain ⟨b, hb, _, _⟩ := DataW.trod_int Try.underlying3 (e1.trans hx1)
  simp at ha hb
  exact ⟨(s, b), by rw [ha, hb], hw⟩

theorem lt_parts {n k j : Nat} (hk : 0 < k) (h : j < n * k) : j / k < n := Nat.div_lt_of_lt_mul (by rw [Nat.mul_comm]; exact h)
set_option maxRecDepth 100000 in
theorem trod_words {fuel : Nat} {cs : List Value} {x : DataW H × List MemPlace} (h : DataW.trod enc Try.prog W base spare held fuel 22 cs = some x) (hw : WOk 22 x.1) :
    ∃ (a : Option Addr) (c : Nat) (ws : List Wd), cs = [.slice a ws.length c] ∧ WdsAt W W.heap.size a ws ∧ WdsSz ws := by
  have h2 : Try.prog.cellsOf 25 = 2 := by kernel_rfl
  have hby : Try.prog.bytesOf 25 = 24 := by kernel_rfl
  rcases open_slice Try.underlying22 h with ⟨hcs, _⟩ | ⟨a, len, cap, m, n, D, Pl, hcs, _, hlc, hm, hmm, hd, hx⟩
  · exact ⟨none, 0, [], hcs, Reads.none_, by simp, by intro i; simp [wNm, wd0, maxLen, ByteArray.size]⟩
  · have hlm : len ≤ m := by rw [hmm]; split <;> omega
    have hlen : len ≤ 5864062014634 := by
      rw [hd] at hw
      have := hw.len Try.underlying22
      rw [hby, List.length_map, List.length_range] at this
      unfold reachBytes at this
      omega
    rw [h2] at hx
    have hex : ∀ i, i < len → ∃ q : Wd, (W.cell? (a.add (i * 2)) = some (.string q.1) ∧ W.cell? (a.add (i * 2 + 1)) = some (.int .i64 q.2)) ∧ q.1.size ≤ maxLen := by
      intro i hi
      obtain ⟨cs, hc, ht⟩ := hx i (by omega)
      obtain ⟨q, rfl, hq⟩ := trod_word ht
      obtain ⟨_, _, hat⟩ := World.cells?_some hc
      have c0 := hat 0 (by omega)
      have c1 := hat 1 (by omega)
      rw [add_add] at c0 c1
      exact ⟨q, ⟨by simpa using c0, by simpa using c1⟩, hq⟩
    obtain ⟨f, hf'⟩ := choose_lt (α := Wd) hex
    have hat : ∀ i, i < len → wNm ((List.range len).map f) i = (f i).1 ∧ wPl ((List.range len).map f) i = (f i).2 := fun i hi => by
      simp [wNm, wPl, List.getD_eq_getElem?_getD, List.getElem?_map, List.getElem?_range hi]
    refine ⟨some a, cap, (List.range len).map f, by rw [hcs]; simp, ⟨by rw [wdCells_length], fun hn => ⟨a, rfl, ?_, fun j u hu => ?_⟩⟩, by simpa using hlen, fun i => ?_⟩
    · have c0 := (hf' 0 (by simpa using hn)).1.1
      simp only [Nat.zero_mul] at c0
      have := World.block_lt_of_cell? W _ c0
      simpa [Addr.add] using this
    · have hj : j < len * 2 := by
        have := (List.getElem?_eq_some_iff.1 hu).1
        rw [wdCells_length] at this
        simpa using this
      have hk := lt_parts (by omega) hj
      have hg := wdCells_get ((List.range len).map f) (j / 2) (by simpa using hk)
      rw [(hat _ hk).1, (hat _ hk).2] at hg
      have hh := (hf' _ hk).1
      rcases Nat.mod_two_eq_zero_or_one j with e | e
      · have ej : j = j / 2 * 2 := by omega
        rw [ej] at hu ⊢
        rw [hg.1] at hu
        rw [hh.1, ← hu]
      · have ej : j = j / 2 * 2 + 1 := by omega
        rw [ej] at hu ⊢
        rw [hg.2] at hu
        rw [hh.2, ← hu]
    · by_cases hi' : i < len
      · rw [(hat i hi').1]; exact (hf' i hi').2
      · have : wNm ((List.range len).map f) i = ⟨#[]⟩ := by
          simp [wNm, wd0, List.getD_eq_getElem?_getD, List.getElem?_eq_none (show (List.range len).length ≤ i by simpa using hi')]
        rw [this]; simp [maxLen, ByteArray.size]
theorem tkdr {l a b c : List Value} {n k : Nat} (h : l = a ++ (b ++ c)) (hn : a.length = n) (hk : b.length = k) : List.take k (List.drop n l) = b := by
  subst h
  subst hn
  subst hk
  rw [List.drop_left, List.take_left]

set_option maxRecDepth 100000 in
set_option maxHeartbeats 1000000 in
theorem trod_coarse {fuel : Nat} {cs : List Value} {x : DataW H × List MemPlace} (h : DataW.trod enc Try.prog W base spare held fuel 50 cs = some x) (hw : WOk 50 x.1) :
    ∃ (k n a : Int) (A : Option Addr) (c : Nat) (ws : List Wd), cs = [.int .i64 k, .int .i64 n, .int .i64 a, .slice A ws.length c] ∧ WdsAt W W.heap.size A ws ∧ WdsSz ws := by
  obtain ⟨xs, m, _, hx1, hl, hxl, hx⟩ := DataW.trod_struct Try.underlying50 h
  have h2 : Try.prog.cellsOf 50 = 4 := by kernel_rfl
  have h1 : Try.prog.cellsOf 3 = 1 := by kernel_rfl
  have h3 : Try.prog.cellsOf 22 = 1 := by kernel_rfl
  have hl' : cs.length = 4 := hl.trans h2
  clear hl h2
  obtain ⟨u0, u1, u2, u3, rfl⟩ := lenFour hl'
  have e0 : DataW.trod enc Try.prog W base spare held m 3 (List.take (Try.prog.cellsOf 3) (List.drop 0 [u0, u1, u2, u3])) = xs[0]? := hx 0 _ rfl
  have e1 : DataW.trod enc Try.prog W base spare held m 3 (List.take (Try.prog.cellsOf 3) (List.drop 1 [u0, u1, u2, u3])) = xs[1]? := hx 1 _ rfl
  have e2 : DataW.trod enc Try.prog W base spare held m 3 (List.take (Try.prog.cellsOf 3) (List.drop 2 [u0, u1, u2, u3])) = xs[2]? := hx 2 _ rfl
  have e3 : DataW.trod enc Try.prog W base spare held m 22 (List.take (Try.prog.cellsOf 22) (List.drop 3 [u0, u1, u2, u3])) = xs[3]? := hx 3 _ rfl
  have hxl' : xs.length = 4 := hxl
  obtain ⟨x0, hx0⟩ : ∃ x0, xs[0]? = some x0 := ⟨_, List.getElem?_eq_getElem (by omega)⟩
  obtain ⟨x1, hx1'⟩ : ∃ x1, xs[1]? = some x1 := ⟨_, List.getElem?_eq_getElem (by omega)⟩
  obtain ⟨x2, hx2⟩ : ∃ x2, xs[2]? = some x2 := ⟨_, List.getElem?_eq_getElem (by omega)⟩
  obtain ⟨x3, hx3⟩ : ∃ x3, xs[3]? = some x3 := ⟨_, List.getElem?_eq_getElem (by omega)⟩
  have hw3 : WOk 22 x3.1 := by
    rw [hx1] at hw
    exact hw.part (j := 3) Try.underlying50 rfl (by rw [List.getElem?_map, hx3]; rfl)
  generalize Try.prog.cellsOf 3 = k at e0 e1 e2 h1
  generalize Try.prog.cellsOf 22 = k' at e3 h3
  subst h1 h3
  obtain ⟨a, ha, _, _⟩ := DataW.trod_int Try.underlying3 (e0.trans hx0)
  obtain ⟨b, hb, _, _⟩ := DataW.trod_int Try.underlying3 (e1.trans hx1')
  obtain ⟨c, hc, _, _⟩ := DataW.trod_int Try.underlying3 (e2.trans hx2)
  obtain ⟨A, cc, ws, hd, k1, k2⟩ := trod_words (e3.trans hx3) hw3
  simp at ha hb hc hd
  exact ⟨a, b, c, A, cc, ws, by rw [ha, hb, hc, hd], k1, k2⟩

set_option maxRecDepth 100000 in
set_option maxHeartbeats 2000000 in
theorem trod_part {fuel : Nat} {cs : List Value} {x : DataW H × List MemPlace} (h : DataW.trod enc Try.prog W base spare held fuel 52 cs = some x) (hw : WOk 52 x.1)
    (hty : ∀ m, m < fuel → ∀ (cs : List Value) (x : DataW H × List MemPlace), DataW.trod enc Try.prog W base spare held m 27 cs = some x → WOk 27 x.1 → ∃ t : Ty, TyAt W W.heap.size t cs ∧ TySz t) :
    ∃ (q : PtH) (t : Ty) (Al : Option Addr) (cl : Nat) (Ac : Option Addr) (cc : Nat) (vt : List Value), cs = ptV q Al cl Ac cc ++ vt ∧ WdsAt W W.heap.size Al q.label ∧ WdsAt W W.heap.size Ac q.cl ∧ TyAt W W.heap.size t vt ∧ q.name.1.size ≤ maxLen ∧ WdsSz q.label ∧ WdsSz q.cl ∧ TySz t := by
  obtain ⟨xs, m, hm, hx1, hl, hxl, hx⟩ := DataW.trod_struct Try.underlying52 h
  have h18 : Try.prog.cellsOf 52 = 18 := by kernel_rfl
  have h1 : Try.prog.cellsOf 3 = 1 := by kernel_rfl
  have hbo : Try.prog.cellsOf 4 = 1 := by kernel_rfl
  have h2 : Try.prog.cellsOf 25 = 2 := by kernel_rfl
  have h3 : Try.prog.cellsOf 22 = 1 := by kernel_rfl
  have h4 : Try.prog.cellsOf 50 = 4 := by kernel_rfl
  have h9 : Try.prog.cellsOf 27 = 9 := by kernel_rfl
  have hl' : cs.length = 2 + 16 := hl.trans h18
  clear hl h18
  obtain ⟨c0, r0, rfl, l0, m0⟩ := lenMany hl'
  obtain ⟨c1, r1, rfl, l1, m1⟩ := lenMany (n := 1) (m := 15) m0
  obtain ⟨c2, r2, rfl, l2, m2⟩ := lenMany (n := 1) (m := 14) m1
  obtain ⟨c3, r3, rfl, l3, m3⟩ := lenMany (n := 1) (m := 13) m2
  obtain ⟨c4, c5, rfl, l4, l5⟩ := lenMany (n := 4) (m := 9) m3
  obtain ⟨L, hL⟩ : ∃ L, L = c0 ++ (c1 ++ (c2 ++ (c3 ++ (c4 ++ c5)))) := ⟨_, rfl⟩
  rw [← hL] at hx ⊢
  have e0 : DataW.trod enc Try.prog W base spare held m 25 (List.take (Try.prog.cellsOf 25) (List.drop 0 L)) = xs[0]? := hx 0 _ rfl
  have e1 : DataW.trod enc Try.prog W base spare held m 4 (List.take (Try.prog.cellsOf 4) (List.drop 2 L)) = xs[1]? := hx 1 _ rfl
  have e2 : DataW.trod enc Try.prog W base spare held m 22 (List.take (Try.prog.cellsOf 22) (List.drop 3 L)) = xs[2]? := hx 2 _ rfl
  have e3 : DataW.trod enc Try.prog W base spare held m 3 (List.take (Try.prog.cellsOf 3) (List.drop 4 L)) = xs[3]? := hx 3 _ rfl
  have e4 : DataW.trod enc Try.prog W base spare held m 50 (List.take (Try.prog.cellsOf 50) (List.drop 5 L)) = xs[4]? := hx 4 _ rfl
  have e5 : DataW.trod enc Try.prog W base spare held m 27 (List.take (Try.prog.cellsOf 27) (List.drop 9 L)) = xs[5]? := hx 5 _ rfl
  rw [h2, tkdr (n := 0) (a := []) hL rfl l0] at e0
  rw [hbo, tkdr (a := c0) hL l0 l1] at e1
  rw [h3, tkdr (a := c0 ++ c1) (b := c2) (c := c3 ++ (c4 ++ c5)) (by rw [hL]; simp) (by rw [List.length_append, l0, l1]) l2] at e2
  rw [h1, tkdr (a := c0 ++ c1 ++ c2) (b := c3) (c := c4 ++ c5) (by rw [hL]; simp) (by rw [List.length_append, List.length_append, l0, l1, l2]) l3] at e3
  rw [h4, tkdr (a := c0 ++ c1 ++ c2 ++ c3) (b := c4) (c := c5) (by rw [hL]; simp) (by rw [List.length_append, List.length_append, List.length_append, l0, l1, l2, l3]) l4] at e4
  rw [h9, tkdr (a := c0 ++ c1 ++ c2 ++ c3 ++ c4) (b := c5) (c := []) (by rw [hL]; simp) (by rw [List.length_append, List.length_append, List.length_append, List.length_append, l0, l1, l2, l3, l4]) l5] at e5
  have hxl' : xs.length = 6 := hxl
  obtain ⟨x0, hx0⟩ : ∃ x0, xs[0]? = some x0 := ⟨_, List.getElem?_eq_getElem (by omega)⟩
  obtain ⟨x1, hx1'⟩ : ∃ x1, xs[1]? = some x1 := ⟨_, List.getElem?_eq_getElem (by omega)⟩
  obtain ⟨x2, hx2⟩ : ∃ x2, xs[2]? = some x2 := ⟨_, List.getElem?_eq_getElem (by omega)⟩
  obtain ⟨x3, hx3⟩ : ∃ x3, xs[3]? = some x3 := ⟨_, List.getElem?_eq_getElem (by omega)⟩
  obtain ⟨x4, hx4⟩ : ∃ x4, xs[4]? = some x4 := ⟨_, List.getElem?_eq_getElem (by omega)⟩
  obtain ⟨x5, hx5⟩ : ∃ x5, xs[5]? = some x5 := ⟨_, List.getElem?_eq_getElem (by omega)⟩
  rw [hx1] at hw
  have hw2 : WOk 22 x2.1 := hw.part (j := 2) Try.underlying52 rfl (by rw [List.getElem?_map, hx2]; rfl)
  have hw4 : WOk 50 x4.1 := hw.part (j := 4) Try.underlying52 rfl (by rw [List.getElem?_map, hx4]; rfl)
  have hw5 : WOk 27 x5.1 := hw.part (j := 5) Try.underlying52 rfl (by rw [List.getElem?_map, hx5]; rfl)
  obtain ⟨nm, rfl, n1⟩ := trod_word (e0.trans hx0)
  obtain ⟨br, rfl, _⟩ := DataW.trod_bool Try.underlying4 (e1.trans hx1')
  obtain ⟨Al, cl, lb, rfl, g1, g2⟩ := trod_words (e2.trans hx2) hw2
  obtain ⟨wi, rfl, _, _⟩ := DataW.trod_int Try.underlying3 (e3.trans hx3)
  obtain ⟨ck, cn, ca, Ac, cc, cw, rfl, g3, g4⟩ := trod_coarse (e4.trans hx4) hw4
  obtain ⟨t, g5, g6⟩ := hty m (by omega) c5 x5 (e5.trans hx5) hw5
  exact ⟨⟨nm, br, lb, wi, ck, cn, ca, cw⟩, t, Al, cl, Ac, cc, c5, by rw [hL]; rfl, g1, g3, g5, n1, g2, g4, g6⟩

set_option maxRecDepth 100000 in
set_option maxHeartbeats 2000000 in
theorem trod_ty : ∀ (fuel : Nat) (cs : List Value) (x : DataW H × List MemPlace), DataW.trod enc Try.prog W base spare held fuel 27 cs = some x → WOk 27 x.1 → ∃ t : Ty, TyAt W W.heap.size t cs ∧ TySz t := by
  intro fuel
  induction fuel using Nat.strongRecOn with
  | _ fuel ih =>
    intro cs x h hw
    obtain ⟨xs, m, hm, hx1, hl, hxl, hx⟩ := DataW.trod_struct Try.underlying27 h
    have h9 : Try.prog.cellsOf 27 = 9 := by kernel_rfl
    have h1 : Try.prog.cellsOf 3 = 1 := by kernel_rfl
    have h2 : Try.prog.cellsOf 25 = 2 := by kernel_rfl
    have h3 : Try.prog.cellsOf 22 = 1 := by kernel_rfl
    have h4 : Try.prog.cellsOf 23 = 1 := by kernel_rfl
    have h18 : Try.prog.cellsOf 52 = 18 := by kernel_rfl
    have hl' : cs.length = 9 := hl.trans h9
    clear hl h9
    obtain ⟨u0, u1, u2, u3, u4, u5, u6, u7, u8, rfl⟩ := lenNine hl'
    have e0 : DataW.trod enc Try.prog W base spare held m 3 (List.take (Try.prog.cellsOf 3) (List.drop 0 [u0, u1, u2, u3, u4, u5, u6, u7, u8])) = xs[0]? := hx 0 _ rfl
    have e1 : DataW.trod enc Try.prog W base spare held m 3 (List.take (Try.prog.cellsOf 3) (List.drop 1 [u0, u1, u2, u3, u4, u5, u6, u7, u8])) = xs[1]? := hx 1 _ rfl
    have e2 : DataW.trod enc Try.prog W base spare held m 3 (List.take (Try.prog.cellsOf 3) (List.drop 2 [u0, u1, u2, u3, u4, u5, u6, u7, u8])) = xs[2]? := hx 2 _ rfl
    have e3 : DataW.trod enc Try.prog W base spare held m 3 (List.take (Try.prog.cellsOf 3) (List.drop 3 [u0, u1, u2, u3, u4, u5, u6, u7, u8])) = xs[3]? := hx 3 _ rfl
    have e4 : DataW.trod enc Try.prog W base spare held m 3 (List.take (Try.prog.cellsOf 3) (List.drop 4 [u0, u1, u2, u3, u4, u5, u6, u7, u8])) = xs[4]? := hx 4 _ rfl
    have e5 : DataW.trod enc Try.prog W base spare held m 22 (List.take (Try.prog.cellsOf 22) (List.drop 5 [u0, u1, u2, u3, u4, u5, u6, u7, u8])) = xs[5]? := hx 5 _ rfl
    have e6 : DataW.trod enc Try.prog W base spare held m 23 (List.take (Try.prog.cellsOf 23) (List.drop 6 [u0, u1, u2, u3, u4, u5, u6, u7, u8])) = xs[6]? := hx 6 _ rfl
    have e7 : DataW.trod enc Try.prog W base spare held m 25 (List.take (Try.prog.cellsOf 25) (List.drop 7 [u0, u1, u2, u3, u4, u5, u6, u7, u8])) = xs[7]? := hx 7 _ rfl
    have hxl' : xs.length = 8 := hxl
    obtain ⟨x0, hx0⟩ : ∃ x0, xs[0]? = some x0 := ⟨_, List.getElem?_eq_getElem (by omega)⟩
    obtain ⟨x1, hx1'⟩ : ∃ x1, xs[1]? = some x1 := ⟨_, List.getElem?_eq_getElem (by omega)⟩
    obtain ⟨x2, hx2⟩ : ∃ x2, xs[2]? = some x2 := ⟨_, List.getElem?_eq_getElem (by omega)⟩
    obtain ⟨x3, hx3⟩ : ∃ x3, xs[3]? = some x3 := ⟨_, List.getElem?_eq_getElem (by omega)⟩
    obtain ⟨x4, hx4⟩ : ∃ x4, xs[4]? = some x4 := ⟨_, List.getElem?_eq_getElem (by omega)⟩
    obtain ⟨x5, hx5⟩ : ∃ x5, xs[5]? = some x5 := ⟨_, List.getElem?_eq_getElem (by omega)⟩
    obtain ⟨x6, hx6⟩ : ∃ x6, xs[6]? = some x6 := ⟨_, List.getElem?_eq_getElem (by omega)⟩
    obtain ⟨x7, hx7⟩ : ∃ x7, xs[7]? = some x7 := ⟨_, List.getElem?_eq_getElem (by omega)⟩
    rw [hx1] at hw
    have hw5 : WOk 22 x5.1 := hw.part (j := 5) Try.underlying27 rfl (by rw [List.getElem?_map, hx5]; rfl)
    have hw6 : WOk 23 x6.1 := hw.part (j := 6) Try.underlying27 rfl (by rw [List.getElem?_map, hx6]; rfl)
    generalize Try.prog.cellsOf 3 = k1 at e0 e1 e2 e3 e4 h1
    generalize Try.prog.cellsOf 22 = k3 at e5 h3
    generalize Try.prog.cellsOf 23 = k4 at e6 h4
    generalize Try.prog.cellsOf 25 = k2 at e7 h2
    subst h1 h3 h4 h2
    obtain ⟨kd, a0, _, _⟩ := DataW.trod_int Try.underlying3 (e0.trans hx0)
    obtain ⟨at_, a1, _, _⟩ := DataW.trod_int Try.underlying3 (e1.trans hx1')
    obtain ⟨lo, a2, _, _⟩ := DataW.trod_int Try.underlying3 (e2.trans hx2)
    obtain ⟨hi, a3, _, _⟩ := DataW.trod_int Try.underlying3 (e3.trans hx3)
    obtain ⟨mo, a4, _, _⟩ := DataW.trod_int Try.underlying3 (e4.trans hx4)
    obtain ⟨An, cn, nws, a5, w1, w2⟩ := trod_words (e5.trans hx5) hw5
    obtain ⟨nm, a7, w3⟩ := trod_word (e7.trans hx7)
    have e6' := e6.trans hx6
    simp at a0 a1 a2 a3 a4 a5 a7
    simp only [List.take_succ_cons, List.take_zero, List.drop_succ_cons, List.drop_zero] at e6'
    subst a0 a1 a2 a3 a4 a5
    obtain ⟨rfl, rfl⟩ := a7
    have key : ∃ (Ap : Option Addr) (cp n : Nat) (p : Nat → PtH) (t : Nat → Ty), u6 = .slice Ap n cp ∧ n ≤ 628292358710 ∧
        (0 < n → ∃ b o, Ap = some ⟨b, o, none⟩ ∧ b < W.heap.size ∧ ∀ i, i < n → ∃ Al cl Ac cc vt, (∀ j v, (ptV (p i) Al cl Ac cc ++ vt)[j]? = some v → W.cell? ⟨b, o + i * 18 + j, none⟩ = some v) ∧ WdsAt W W.heap.size Al (p i).label ∧ WdsAt W W.heap.size Ac (p i).cl ∧ TyAt W W.heap.size (t i) vt) ∧
        ∀ i, i < n → (p i).name.1.size ≤ maxLen ∧ WdsSz (p i).label ∧ WdsSz (p i).cl ∧ TySz (t i) := by
      rcases DataW.trod_slice Try.underlying23 e6' with ⟨hcs, _⟩ | ⟨a, len, cap, elems, rest, n, hmn, hcs, hx6', _, hlc, hcm, hel, hall, _, _⟩
      · refine ⟨none, 0, 0, fun _ => ⟨wd0, false, [], 0, 0, 0, 0, []⟩, fun _ => .nil, by simpa using hcs, by omega, fun h => absurd h (by omega), fun i hi => absurd hi (by omega)⟩
      · have hby : Try.prog.bytesOf 52 = 224 := by kernel_rfl
        have hlen : len ≤ 628292358710 := by
          rw [hx6'] at hw6
          have := hw6.len Try.underlying23
          rw [hby, List.length_map, List.length_map, hel] at this
          unfold reachBytes at this
          omega
        rw [h18] at hall
        have hex : ∀ i, i < len → ∃ qt : PtH × Ty, (∃ Al cl Ac cc vt, (∀ j v, (ptV qt.1 Al cl Ac cc ++ vt)[j]? = some v → W.cell? (a.add (i * 18 + j)) = some v) ∧ WdsAt W W.heap.size Al qt.1.label ∧ WdsAt W W.heap.size Ac qt.1.cl ∧ TyAt W W.heap.size qt.2 vt) ∧ qt.1.name.1.size ≤ maxLen ∧ WdsSz qt.1.label ∧ WdsSz qt.1.cl ∧ TySz qt.2 := by
          intro i hi
          obtain ⟨xe, hxe⟩ : ∃ xe, elems[i]? = some xe := ⟨_, List.getElem?_eq_getElem (by omega)⟩
          have hb := (hall i hi).trans hxe
          obtain ⟨cs', hc, ht⟩ := Option.bind_eq_some_iff.1 hb
          have hwe : WOk 52 xe.1 := by
            rw [hx6'] at hw6
            exact hw6.elem Try.underlying23 (List.mem_map.2 ⟨xe, List.mem_of_getElem? hxe, rfl⟩)
          obtain ⟨q, t, Al, cl, Ac, cc, vt, rfl, g1, g2, g3, g4, g5, g6, g7⟩ := trod_part ht hwe (fun m' hm' => ih m' (by omega))
          obtain ⟨_, hlc', hat⟩ := World.cells?_some hc
          refine ⟨(q, t), ⟨Al, cl, Ac, cc, vt, fun j v hv => ?_, g1, g2, g3⟩, g4, g5, g6, g7⟩
          have hj : j < 18 := by
            have h9 := (List.getElem?_eq_some_iff.1 hv).1
            have hvl : vt.length = 9 := by obtain ⟨_, _, _, _, _, _, rfl⟩ := g3.form; rfl
            rw [List.length_append, hvl] at h9
            exact h9
          have := hat j hj
          rw [add_add] at this
          rw [this, hv]
        obtain ⟨f, hf⟩ := choose_lt (α := PtH × Ty) hex
        refine ⟨some a, cap, len, fun i => (f i).1, fun i => (f i).2, by simpa using hcs, hlen, fun h0 => ?_, fun i hi => (hf i hi).2⟩
        have hcell0 : W.cell? (a.add 0) = some (.string (f 0).1.name.1) := by
          obtain ⟨⟨Al, cl, Ac, cc, vt, g1, _⟩, _⟩ := hf 0 h0
          exact g1 0 _ rfl
        obtain ⟨b, o, sp⟩ := a
        have hsp : sp = none := by
          rcases sp with _ | sp
          · rfl
          · simp [Addr.add, World.cell?] at hcell0
            split at hcell0 <;> simp at hcell0
        subst hsp
        have hadd : ∀ j, (⟨b, o, none⟩ : Addr).add j = ⟨b, o + j, none⟩ := fun j => by
          unfold Addr.add
          split
          · rename_i h; subst h; rfl
          · rfl
        refine ⟨b, o, rfl, ?_, fun i hi => ?_⟩
        · have := World.block_lt_of_cell? W _ hcell0
          simpa [Addr.add] using this
        · obtain ⟨⟨Al, cl, Ac, cc, vt, g1, g2, g3, g4⟩, _⟩ := hf i hi
          refine ⟨Al, cl, Ac, cc, vt, fun j v hv => ?_, g2, g3, g4⟩
          have := g1 j v hv
          rw [hadd] at this
          rw [Nat.add_assoc]
          exact this
    obtain ⟨Ap, cp, n, p, t, rfl, k1, k2, k3⟩ := key
    exact ⟨.mk ⟨kd, at_, lo, hi, mo, nws, nm⟩ n p t, ⟨An, cn, Ap, cp, rfl, w1, k2⟩, w2, w3, k1, k3⟩
set_option maxRecDepth 100000 in
theorem open_ty {r : Reach} {b0 : Nat} {v : Value} {d : DataW H} {p : List MemPlace} (hv : Value.okWide Try.prog W r b0 27 v) (h : DataW.Trod enc Try.prog W base spare held 27 v d p) (hw : WOk 27 d) : ∃ (t : Ty) (vs : List Value), v = .agg vs.toArray ∧ TyAt W W.heap.size t vs ∧ TySz t := by
  simp only [Value.okWide, Try.underlying27] at hv
  obtain ⟨cs, rfl, _, _⟩ := hv
  obtain ⟨fuel, hf⟩ := h
  obtain ⟨t, h1, h2⟩ := trod_ty fuel _ _ hf hw
  have e : (Value.agg cs).cells.toList = cs.toList := by simp [Value.cells]
  rw [e] at h1
  exact ⟨t, cs.toList, by simp, h1, h2⟩
theorem wok_of {ts : List TypeId} {ds : List (DataW H)} (h : (DataW.weightsEach Try.prog ts ds).all (· ≤ reachBytes) = true) {j : Nat} {t : TypeId} {d : DataW H} (ht : ts[j]? = some t) (hd : ds[j]? = some d) : WOk t d := by
  intro n hn
  have := List.all_eq_true.1 h n (DataW.weights_mem_each ht hd n hn)
  simpa using this
end
end Go.Proofs.Ytanpljalbijfkaa
