/- ranges.Set: others, Both, Less, Join. -/
import Derived.Test.YtkfepdejiedjbaaRngA
namespace Go.Proofs.Ytkfepdejiedjbaa
open Go.RowKit

theorem set_end {f : Int → Bool} {n g : Nat} {w w1 w2 : World} {A : Option Addr} {c : Nat} {out : List (Int × Int)} (hg : w.heap.size ≤ g) (hg1 : g < w1.heap.size) (hE : Ext w w2)
    (hO : w2.ownsRow w1.heap.size 85 2 (.slice A out.length c) out.length (rngCells out)) (hc : canonFrom 0 out) (hf : ∀ r, inT out r = f r) (hn : out.length ≤ n) (u : Value) :
    SetPost f n w (.returned (.agg #[.slice A out.length c])) (w2.setCell ⟨g, 0, none⟩ u) := by
  refine ⟨A, c, out, rfl, ?_, hc, hf, hn, hE.setCell hg _⟩
  refine own_more (own_far hO ?_ u) (by omega)
  intro e
  have := (hO.lt g (by rw [e])).1
  omega

theorem set_ret {A : Option Addr} {c g : Nat} {out : List (Int × Int)} {w2 : World} {fn : Func} {p : Tmp} {a : Act} {R : Ending → World → Prop} {v0 : Value} (hB : Blk w2 g 49 #[v0]) (hfn : fn.results = #[.cell p 49]) (hp : a.tmps.getD p undef = .pointer (some ⟨g, 0, none⟩)) (hd : a.defers = [])
    (hR : R (.returned (.agg #[.slice A out.length c])) (w2.setCell ⟨g, 0, none⟩ (.slice A out.length c))) : bodyPost Try.prog fn R .ret a (w2.setCell ⟨g, 0, none⟩ (.slice A out.length c)) := by
  have hBr := hB.set_ 0 (.slice A out.length c)
  exact bodyPost_ret (results_cell_row hfn _ _ g 49 _ (0, 0) _ hp hBr Try.underlying49 rfl (by kernel_rfl)) hd hR

theorem grown_ext {w wr w0 w3 : World} {base size n : Nat} {e : TypeId} {v : Value} {xs : List Value} (hE : Ext w wr) (h1 : Ext wr w0) (hg : w0.grownBy w3 v.ownBlock) (hO : wr.ownsRow base e size v n xs) (hb : w.heap.size ≤ base) : Ext w w3 := by
  have h := hE.trans' h1
  refine ⟨hg.os.trans h.os, hg.tape.trans h.tape, hg.output.trans h.output, Nat.le_trans h.size hg.size, fun k' hk' => (hg.block k' (by have := h.size; omega) ?_).trans (h.block k' hk')⟩
  intro e
  have := (hO.lt k' e.symm).1
  omega
theorem grown_blk {wr w0 w3 : World} {base size n g : Nat} {e t : TypeId} {v : Value} {xs : List Value} {cs : Array Value} (hB : Blk w0 g t cs) (hg : w0.grownBy w3 v.ownBlock) (hO : wr.ownsRow base e size v n xs) (hne : g < base ∨ wr.heap.size ≤ g) : Blk w3 g t cs := by
  refine hB.grown hg ?_
  intro e
  have := hO.lt g e.symm
  omega

theorem othL_drop (f : Int) (l : List (Int × Int)) (k : Nat) (hk : k < l.length) : othL f (l.drop k) = (f, l[k].1 - 1) :: othL (l[k].2 + 1) (l.drop (k + 1)) := by
  rw [List.drop_eq_getElem_cons hk, othL]
theorem othL_len (f : Int) (l : List (Int × Int)) : (othL f l).length = l.length + 1 := by
  induction l generalizing f with
  | nil => rfl
  | cons p l ih => simp [othL, ih]

set_option maxRecDepth 100000 in
set_option maxHeartbeats 1000000 in
theorem others_any (A : Option Addr) (c : Nat) (l : List (Int × Int)) (w : World) (h : RngAt w w.heap.size A l) (hl : l.length ≤ 9000000) (hcan : canonFrom 0 l) :
    Calls Try.prog 81 #[.agg #[.slice A l.length c]] w (SetPost (fun r => decide (0 ≤ r ∧ r ≤ 1114111) && !inT l r) (l.length + 1) w) := by
  have HOK := hide (canon_ok (by omega) hcan)
  have HCAN := hide hcan
  clear hcan
  go_enter Try.func81, Try.ntmps81
  go_wp2_with fail
  go_loopw [10, 3, 4] (fun i o f wr => ∃ (k : Nat) (Ao : Option Addr) (co : Nat) (O : List (Int × Int)) (fr : Int), k ≤ l.length ∧ i = .int .i64 k ∧ o = .slice Ao O.length co ∧ f = .int .i32 fr ∧ 0 ≤ fr ∧ fr ≤ 1114112 ∧ O.length = k ∧ othL 0 l = O ++ othL fr (l.drop k) ∧ Ext w wr ∧ Blk wr (w.heap.size + 1) 49 #[.slice none 0 0] ∧ wr.ownsRow (w.heap.size + 2) 85 2 (.slice Ao O.length co) O.length (rngCells O)) (fun i _ _ _ => l.length - (intOf i).toNat)
  case atStart => exact ⟨0, none, 0, [], 0, Nat.zero_le _, rfl, rfl, rfl, by omega, by omega, rfl, rfl, ((Ext.rfl' w).alloc (Nat.le_refl _) _).alloc (by simp) _, by simpa using Blk.new (w.alloc (.cells #[.slice A l.length c] 49)) 49 #[.slice none 0 0], World.ownsRow_nil _ _ _ _⟩
  case round =>
    obtain ⟨k, Ao, co, O, fr, hk, rfl, rfl, rfl, hf0, hf1, hOk, hoth, hE, hB, hO⟩ := hrel
    rw [hOk] at hO ⊢
    have HOT := hide hoth
    have HE := hide hE
    have HB := hide hB
    have HO := hide hO
    have HOK2 := hide hOk
    have hsz := hB.lt
    clear hOk
    by_cases hlt : k < l.length
    · obtain ⟨b, o, rfl, hbs, hcell⟩ := h.cell (by omega)
      obtain ⟨hp1, hp2⟩ := hcell k hlt
      have hst := othL_drop fr l k hlt
      have hr := HOK.out l[k] (List.getElem_mem hlt)
      unfold okR at hr
      obtain ⟨lo, hlo⟩ : ∃ lo, lo = l[k].1 := ⟨_, rfl⟩
      obtain ⟨hi, hhi⟩ : ∃ hi, hi = l[k].2 := ⟨_, rfl⟩
      rw [← hlo] at hp1 hst hr
      rw [← hhi] at hp2 hst hr
      have q1 : wr.cell? ⟨b, o + k * 2, none⟩ = some (i32v lo) := (hE.cell (p := ⟨b, o + k * 2, none⟩) hbs).trans hp1
      have q2 : wr.cell? ⟨b, o + k * 2 + 1, none⟩ = some (i32v hi) := (hE.cell (p := ⟨b, o + k * 2 + 1, none⟩) hbs).trans hp2
      have HST := hide hst
      clear hst hlo hhi hp1 hp2 hcell hE hB hO hoth
      go_wp2_with (at_builtin; refine wpList_append_R _ rfl _ _ rfl (w.heap.size + 2) _ k O rfl (fr, lo - 1) _ _ 1 1 [(fr, lo - 1)] rfl ((HO.out.alloc _).alloc _) (reads_one _ _ _ _ _ (by simp)) (by omega) (by simp; omega) ?_)
      intro A3 c3 w3 hown3 hgrow3 _
      have HE3 := hide (grown_ext (w := w) (wr := wr) (base := w.heap.size + 2) HE.out (((Ext.rfl' wr).alloc (Nat.le_refl _) _).alloc (by simp) _) hgrow3 HO.out (by omega))
      have HB3 := hide (grown_blk ((HB.out.alloc _).alloc _) hgrow3 HO.out (.inl (by omega)))
      have HX3 := grown_blk ((Blk.new wr 85 #[.int .i32 lo, .int .i32 hi]).alloc (.cells #[.int .i32 fr, .int .i32 (lo - 1)] 85)) hgrow3 HO.out (.inr (Nat.le_refl _))
      have x1 := HX3.cell 1
      have HO3 := hide hown3
      clear HX3 hgrow3 hown3
      simp only [List.getElem?_toArray, List.getElem?_cons_succ, List.getElem?_cons_zero] at x1
      go_wp2_with fail
      go_roundw
      case rel =>
        have hL3 : (O ++ [(fr, lo - 1)]).length = k + 1 := by simp [HOK2.out]
        refine ⟨k + 1, A3, c3, O ++ [(fr, lo - 1)], hi + 1, by omega, by go_num, by rw [hL3], by go_num, by omega, by omega, hL3, ?_, HE3.out, HB3.out, by rw [hL3]; exact HO3.out⟩
        rw [HOT.out, HST.out]
        simp
      case measure => simp [intOf]; omega
    · obtain rfl : k = l.length := by omega
      clear hE hB hO hoth
      go_wp2_with (at_builtin; refine wpList_append_R _ rfl _ _ rfl (w.heap.size + 2) _ l.length O rfl (fr, 1114111) _ _ 1 1 [(fr, 1114111)] rfl (HO.out.alloc _) (reads_one _ _ _ _ _ (by simp)) (by omega) (by simp; omega) ?_)
      intro A3 c3 w3 hown3 hgrow3 _
      have HE3 := hide (grown_ext (w := w) (wr := wr) (base := w.heap.size + 2) HE.out ((Ext.rfl' wr).alloc (Nat.le_refl _) _) hgrow3 HO.out (by omega))
      have hB3 := grown_blk (HB.out.alloc _) hgrow3 HO.out (.inl (by omega))
      have hoth : O ++ [(fr, 1114111)] = othL 0 l := by rw [HOT.out, List.drop_length]; rfl
      have hln := othL_len 0 l
      rw [hoth, ← hln] at hown3
      rw [← hln]
      have hE3' := HE3.out
      have HB3 := hide hB3
      have HC := hide (newR_any A3 c3 (othL 0 l) w3 (Reads.of_own hown3) (by omega))
      have l3 := hB3.lt
      clear hown3 hgrow3 hB3
      obtain ⟨n3, hn3⟩ : ∃ n3, n3 = (othL 0 l).length := ⟨_, rfl⟩
      rw [← hn3] at HC ⊢
      have HN3 := hide (hn3.trans hln)
      clear hln hoth hn3
      go_wp2_with fail
      refine HC.out.mono ?_
      rintro e w4 ⟨A4, c4, out, rfl, hO4, hc4, hi4, hl4, hE4⟩
      have hB4 := HB3.out.ext hE4
      have cB := hB4.cell 0
      have fB := hB4.free 0
      simp only [List.getElem?_toArray, List.getElem?_cons_zero] at cB
      have HB4 := hide hB4
      have HR := hide (fun u => set_end (f := fun r => decide (0 ≤ r ∧ r ≤ 1114111) && !inT l r) (n := l.length + 1) (g := w.heap.size + 1) (by omega) l3 (HE3.out.trans' hE4) hO4 hc4 (fun r => by
        rw [hi4 r, hasT, othL_in HCAN.out]
        cases decide (0 ≤ r ∧ r ≤ 1114111) <;> simp) (by have := HN3.out; omega) u)
      clear hO4 hc4 hi4 hl4 hE4 hB4
      go_wp2_with fail
      exact set_ret HB4.out rfl rfl rfl (HR.out _)

/-- What both have: how far the meeting has come. -/
theorem bothL_step {a b : Int × Int} {s t : List (Int × Int)} : bothL (a :: s) (b :: t) = (max a.1 b.1, min a.2 b.2) :: if a.2 < b.2 then bothL s (b :: t) else bothL (a :: s) t := by
  rw [bothL]
theorem bothL_len (s t : List (Int × Int)) : (bothL s t).length ≤ s.length + t.length := by
  induction hn : s.length + t.length using Nat.strongRecOn generalizing s t with
  | ind n ih =>
    cases s with
    | nil => simp [bothL]
    | cons a s =>
      cases t with
      | nil => simp [bothL]
      | cons b t =>
        simp only [List.length_cons] at hn
        rw [bothL_step]
        simp only [List.length_cons]
        split
        · have := ih (s.length + (b :: t).length) (by simp only [List.length_cons]; omega) s (b :: t) rfl
          simp only [List.length_cons] at this
          omega
        · have := ih ((a :: s).length + t.length) (by simp only [List.length_cons]; omega) (a :: s) t rfl
          simp only [List.length_cons] at this
          omega
end Go.Proofs.Ytkfepdejiedjbaa
