/- kinds: words, walked. -/
import Derived.Test.YtanpljalbijfkaaKinAll
import Derived.Test.YtanpljalbijfkaaNamT
namespace Go.Proofs.Ytanpljalbijfkaa
open Go.RowKit

theorem info_Wd : ∃ i, Try.prog.info? 25 = some i ∧ i.zero = some (.agg #[.string ⟨#[]⟩, .int .i64 0]) ∧ i.size = 2 ∧ i.bytes = 24 :=
  info_parts3 (a := 2) (b := 24) (v := .agg #[.string ⟨#[]⟩, .int .i64 0]) (s := 2) (by kernel_rfl)
theorem wdCells_append (l m : List Wd) : wdCells (l ++ m) = wdCells l ++ wdCells m := by simp [wdCells]
theorem wdCells_one (l : List Wd) : ∀ u ∈ wdCells l, u.oneCell' = true := by
  intro u hu
  simp only [wdCells, List.mem_flatMap] at hu
  obtain ⟨p, _, hu⟩ := hu
  simp at hu
  rcases hu with rfl | rfl <;> rfl
theorem reads_wd (w : World) (t : TypeId) (s : ByteArray) (y : Int) (g : Nat) (hg : g = w.heap.size) : Reads (w.alloc (.cells #[.string s, .int .i64 y] t)) (g + 1) 2 (some ⟨g, 0, none⟩) 1 (wdCells [(s, y)]) := by
  subst hg
  refine ⟨rfl, fun _ => ⟨_, rfl, by simp, fun j u hu => ?_⟩⟩
  have e : (⟨w.heap.size, 0, none⟩ : Addr).add j = ⟨w.heap.size, j, none⟩ := by unfold Addr.add; split <;> simp_all
  rw [e, World.cell?_alloc_new]
  simpa [wdCells] using hu
/-- append of one word that has just been laid. -/
theorem wpList_append_Wd (w : World) {ops : Array Oper} {rest : List Oper} {o : Oper} {a : Act} {Q : Exit → Act → World → Prop} (hgd : o.guard = none) (s x : Operand)
    (ho : o.op = .call { callee := .builtin .append, args := #[s, x], argTypes := #[22, 22] })
    (base : Nat) (v : Value) (n : Nat) (l : List Wd) (hs : a.eval s = v) (B : Nat) (A : Option Addr) (c : Nat) (p : Wd) (hx : a.eval x = .slice A 1 c)
    (hown : w.ownsRow base 25 2 v n (wdCells l)) (hr : Reads w B 2 A 1 (wdCells [p])) (hn : n ≤ 5864062014633) (hbase : base ≤ w.heap.size)
    (h : ∀ A' c' w', w'.ownsRow base 25 2 (.slice A' (n + 1) c') (n + 1) (wdCells (l ++ [p])) → w.grownBy w' v.ownBlock → (Value.ownBlock (.slice A' (n + 1) c') = v.ownBlock ∨ Value.ownBlock (.slice A' (n + 1) c') = some w.heap.size) → wpList Try.prog ops Q rest (a.put o.dst (.slice A' (n + 1) c')) w') : wpList Try.prog ops Q (o :: rest) a w := by
  obtain ⟨i0, hi, hz, hs2, hb⟩ := info_Wd
  refine wpList_append_sl w hgd s x 22 ho base 25 i0 _ 2 24 Try.underlying22 hi hz hs2 hb rfl (by decide) v n (wdCells l) hs hown B A 1 c (wdCells [p]) hx hr (wdCells_one _) (by unfold maxLen; omega) (by omega) hbase ?_
  rw [← wdCells_append]
  exact h

/-- Names without places. -/
def bareWs (l : List Wd) : List Wd := l.map fun p => (p.1, 0)
theorem bareWs_length (l : List Wd) : (bareWs l).length = l.length := by simp [bareWs]
theorem nms_bare (l : List Wd) : nms (bareWs l) = nms l := by
  unfold nms bareWs
  rw [List.map_map]
  rfl
theorem bareWs_nms (l : List Wd) : bareWs l = (nms l).map fun s => (s, 0) := by
  unfold nms bareWs
  rw [List.map_map]
  rfl
theorem bareWs_eq {a b : List Wd} : bareWs a = bareWs b ↔ nms a = nms b := by
  constructor
  · intro h
    rw [← nms_bare a, h, nms_bare]
  · intro h
    rw [bareWs_nms, bareWs_nms, h]
theorem bareWs_step {l : List Wd} {k : Nat} (hk : k < l.length) : bareWs (l.take (k + 1)) = bareWs (l.take k) ++ [(wNm l k, 0)] := by
  unfold bareWs
  rw [List.take_succ_eq_append_getElem hk, List.map_append]
  congr 1
  unfold wNm
  rw [List.getD_eq_getElem?_getD, List.getElem?_eq_getElem hk]
  rfl
def WordsPost (l : List Wd) (w : World) (e : Ending) (w' : World) : Prop := ∃ A c, e = .returned (.slice A l.length c) ∧ WdsAt w' w'.heap.size A (bareWs l) ∧ Ext w w'

set_option maxRecDepth 100000 in
set_option maxHeartbeats 2000000 in
theorem words_any (A : Option Addr) (c n : Nat) (l : List Wd) (w : World) (h : WdsAt w w.heap.size A l) (hn : n = l.length) (hn' : n ≤ 5864062014634) :
    Calls Try.prog 28 #[.slice A n c] w (WordsPost l w) := by
  have HN := hide hn
  have HWS := hide h
  clear hn h
  go_enter Try.func28, Try.ntmps28
  go_wp2_with fail
  go_loopw [8, 3] (fun i o wr => ∃ (k : Nat) (Ao : Option Addr) (co : Nat), k ≤ n ∧ i = .int .i64 (k : Int) ∧ o = .slice Ao k co ∧ wr.ownsRow w.heap.size 25 2 (.slice Ao k co) k (wdCells (bareWs (l.take k))) ∧ Ext w wr) (fun i _ _ => n - (intOf i).toNat)
  case atStart => exact ⟨0, none, 0, Nat.zero_le _, rfl, rfl, World.ownsRow_nil _ _ _ _, Ext.rfl' w⟩
  case round =>
    obtain ⟨k, Ao, co, hk, rfl, rfl, hO, hE⟩ := hrel
    have HO := hide hO
    have HE := hide hE
    by_cases hlt : k < n
    · have hkl : k < l.length := by rw [← HN.out]; exact hlt
      obtain ⟨b, o, rfl, hbs, hcell⟩ := HWS.out.cell (by omega)
      obtain ⟨p0, p1⟩ := hcell k hkl
      have q0 := (hE.cell (p := ⟨b, o + k * 2, none⟩) hbs).trans p0
      have q1 := (hE.cell (p := ⟨b, o + k * 2 + 1, none⟩) hbs).trans p1
      have hst := bareWs_step hkl
      obtain ⟨s, hs⟩ : ∃ r, r = wNm l k := ⟨_, rfl⟩
      obtain ⟨y, hy⟩ : ∃ r, r = wPl l k := ⟨_, rfl⟩
      rw [← hs] at q0 hst
      rw [← hy] at q1
      have HST := hide hst
      have i0 : (0 : Int) ≤ (k : Int) := by omega
      have i1 : (k : Int) < (n : Int) := by omega
      obtain ⟨w5, hw5⟩ : ∃ w5, w5 = wr.alloc (.cells #[.string s, .int .i64 y] 25) := ⟨_, rfl⟩
      obtain ⟨g5, hg5⟩ : ∃ g, g = wr.heap.size := ⟨_, rfl⟩
      have hV : Blk w5 g5 25 #[.string s, .int .i64 y] := by rw [hw5, hg5]; exact Blk.new _ _ _
      have hE5' : Ext wr w5 := by rw [hw5]; exact (Ext.rfl' wr).alloc (Nat.le_refl _) _
      have v0 := hV.cell 0
      have v1 := hV.cell 1
      simp only [List.getElem?_toArray, List.getElem?_cons_zero, List.getElem?_cons_succ] at v0 v1
      have HE5 := hide (hE.trans' hE5')
      have HO5 := hide (own_ext hO hE5')
      have hsz := HE5.out.size
      have HW5 := hide hw5
      have HG5 := hide hg5
      clear hcell p0 p1 hs hy hst hO hE hkl hw5 hg5 hV hE5' HO
      go_upto_region 5 with fail
      rw [← HW5.out, ← HG5.out]
      clear q0 q1
      go_wp2_with (at_builtin; refine wpList_append_Wd _ rfl _ _ rfl w.heap.size _ k (bareWs (l.take k)) rfl (w5.heap.size + 1) (some ⟨w5.heap.size, 0, none⟩) 1 (s, 0) rfl (HO5.out.alloc _) (reads_wd _ _ _ _ _ rfl) (by omega) (by simp only [World.size_alloc]; omega) ?_)
      intro A3 c3 w3 hown3 hgrow3 _
      have HE3 := hide (grown_ext' (w := w) (wr := w5) (base := w.heap.size) HE5.out ((Ext.rfl' w5).alloc (Nat.le_refl _) _) hgrow3 HO5.out (Nat.le_refl _))
      rw [← HST.out] at hown3
      have HO3 := hide hown3
      clear hown3 hgrow3 v0 v1
      go_wp2_with fail
      go_roundw
      case rel => exact ⟨k + 1, A3, c3, by omega, by go_num, rfl, HO3.out, HE3.out⟩
      case measure => simp [intOf]; omega
    · obtain rfl : k = n := by omega
      have hO' := HO.out
      rw [List.take_of_length_le (by rw [← HN.out]; exact Nat.le_refl _)] at hO'
      have HO' := hide hO'
      clear hO hE hO'
      go_wp2_with fail
      go_ret
      refine ⟨Ao, co, by rw [← HN.out]; rfl, ?_, HE.out⟩
      unfold WdsAt
      rw [bareWs_length, ← HN.out]
      exact Reads.of_own HO'.out
end Go.Proofs.Ytanpljalbijfkaa
