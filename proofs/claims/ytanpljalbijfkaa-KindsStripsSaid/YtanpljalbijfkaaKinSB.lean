/- kinds: what lies in blocks of a span stays there while these blocks do; words of a span; append of a part. -/
import Derived.Test.YtanpljalbijfkaaKinX
import Derived.Test.YtanpljalbijfkaaKinSA
namespace Go.Proofs.Ytanpljalbijfkaa
open Go.RowKit

/-- The worlds agree on the blocks of a span. -/
def Agree (lo hi : Nat) (w w' : World) : Prop := ∀ p : Addr, lo ≤ p.block → p.block < hi → w'.cell? p = w.cell? p
theorem Agree.rfl' (lo hi : Nat) (w : World) : Agree lo hi w w := fun _ _ _ => rfl
theorem Agree.trans' {lo hi : Nat} {a b c : World} (h : Agree lo hi a b) (k : Agree lo hi b c) : Agree lo hi a c := fun p h1 h2 => (k p h1 h2).trans (h p h1 h2)
theorem Agree.sub {lo hi lo' hi' : Nat} {a b : World} (h : Agree lo hi a b) (h1 : lo ≤ lo') (h2 : hi' ≤ hi) : Agree lo' hi' a b := fun p q1 q2 => h p (Nat.le_trans h1 q1) (Nat.lt_of_lt_of_le q2 h2)
theorem Agree.ext {lo hi : Nat} {a b : World} (h : Ext a b) (hh : hi ≤ a.heap.size) : Agree lo hi a b := fun _ _ q => h.cell (Nat.lt_of_lt_of_le q hh)
theorem Agree.grown {lo hi : Nat} {a b : World} {row : Option Nat} (h : a.grownBy b row) (hh : hi ≤ a.heap.size) (hr : ∀ g, row = some g → g < lo ∨ hi ≤ g) : Agree lo hi a b := fun p q1 q2 => by
  have := h.block p.block (Nat.lt_of_lt_of_le q2 hh) (fun e => by rcases hr _ e.symm with e' | e' <;> omega)
  unfold World.cell?
  rw [this]
theorem Agree.set {lo hi g i : Nat} {a : World} (hg : g < lo ∨ hi ≤ g) (v : Value) : Agree lo hi a (a.setCell ⟨g, i, none⟩ v) := fun p q1 q2 => by
  refine World.cell?_setCell_other _ _ _ _ (fun e => ?_)
  subst e
  rcases hg with hg | hg
  · exact absurd q1 (Nat.not_le.2 hg)
  · exact absurd q2 (Nat.not_lt.2 hg)
theorem Agree.setCells {lo hi g : Nat} (hg : g < lo ∨ hi ≤ g) (vs : List Value) : ∀ (o : Nat) (a : World), Agree lo hi a (a.setCells g o vs) := by
  induction vs with
  | nil => intro o a; exact .rfl' _ _ _
  | cons v r ih => intro o a; exact (Agree.set hg v).trans' (ih (o + 1) _)
/-- It holds in every world that agrees on the span. -/
def Held (lo hi : Nat) (w : World) (Φ : World → Prop) : Prop := ∀ w', Agree lo hi w w' → Φ w'
theorem Held.now {lo hi : Nat} {w : World} {Φ : World → Prop} (h : Held lo hi w Φ) : Φ w := h w (.rfl' _ _ _)
theorem Held.go {lo hi lo' hi' : Nat} {w w' : World} {Φ : World → Prop} (h : Held lo hi w Φ) (h1 : lo' ≤ lo) (h2 : hi ≤ hi') (ha : Agree lo hi w w') : Held lo' hi' w' Φ := fun w2 hq => h w2 (ha.trans' (hq.sub h1 h2))
theorem Held.mono {lo hi : Nat} {w : World} {Φ Ψ : World → Prop} (h : Held lo hi w Φ) (hm : ∀ w, Φ w → Ψ w) : Held lo hi w Ψ := fun w2 hq => hm _ (h w2 hq)

theorem reads_held {w : World} {base : Nat} {e : TypeId} {size : Nat} {A : Option Addr} {n c : Nat} {xs : List Value} (h : w.ownsRow base e size (.slice A n c) n xs) : Held base w.heap.size w (fun w' => Reads w' w.heap.size size A n xs) := by
  intro w' ha
  refine ⟨h.1, fun hn => ?_⟩
  obtain ⟨g, cap, hv, hb, hlt⟩ := h.form hn
  have hA : A = some ⟨g, 0, none⟩ := by injection hv
  subst hA
  exact ⟨_, rfl, hlt, fun j u hu => (ha _ (by rw [show ((⟨g, 0, none⟩ : Addr).add j).block = g by unfold Addr.add; split <;> rfl]; exact hb) (by rw [show ((⟨g, 0, none⟩ : Addr).add j).block = g by unfold Addr.add; split <;> rfl]; exact hlt)).trans (h.cells (g := g) rfl j u hu)⟩

def WordsHeld (l : List Wd) (w : World) (e : Ending) (w' : World) : Prop := ∃ A c, e = .returned (.slice A l.length c) ∧ Held w.heap.size w'.heap.size w' (fun w2 => WdsAt w2 w'.heap.size A (bareWs l)) ∧ Ext w w'
set_option maxRecDepth 100000 in
set_option maxHeartbeats 2000000 in
theorem words_held (A : Option Addr) (c n : Nat) (l : List Wd) (w : World) (h : WdsAt w w.heap.size A l) (hn : n = l.length) (hn' : n ≤ 5864062014634) :
    Calls Try.prog 28 #[.slice A n c] w (WordsHeld l w) := by
  have HN := hide hn
  have HWS := hide h
  clear hn h
  go_enter Try.func28, Try.ntmps28
  go_wp2_with fail
  go_loopw [8, 3] (fun i o wr => ∃ (k : Nat) (Ao : Option Addr) (co : Nat), k ≤ n ∧ i = .int .i64 (k : Int) ∧ o = .slice Ao k co ∧ wr.ownsRow w.heap.size 25 2 (.slice Ao k co) k (wdCells (bareWs (l.take k))) ∧ Ext w wr) (fun i _ _ => n - (intOf i).toNat)
  case atStart => exact ⟨0, none, 0, Nat.zero_le _, rfl, rfl, World.ownsRow_nil _ _ _ _, Ext.rfl' w⟩
  case round =>
    obtain ⟨k, Ao, co, hk, rfl, rfl, hO, hE⟩ := hrel
    have HO := hide hO
    have HE := hide hE
    by_cases hlt : k < n
    · have hkl : k < l.length := by rw [← HN.out]; exact hlt
      obtain ⟨b, o, rfl, hbs, hcell⟩ := HWS.out.cell (by omega)
      obtain ⟨p0, p1⟩ := hcell k hkl
      have q0 := (hE.cell (p := ⟨b, o + k * 2, none⟩) hbs).trans p0
      have q1 := (hE.cell (p := ⟨b, o + k * 2 + 1, none⟩) hbs).trans p1
      have hst := bareWs_step hkl
      obtain ⟨s, hs⟩ : ∃ r, r = wNm l k := ⟨_, rfl⟩
      obtain ⟨y, hy⟩ : ∃ r, r = wPl l k := ⟨_, rfl⟩
      rw [← hs] at q0 hst
      rw [← hy] at q1
      have HST := hide hst
      have i0 : (0 : Int) ≤ (k : Int) := by omega
      have i1 : (k : Int) < (n : Int) := by omega
      obtain ⟨w5, hw5⟩ : ∃ w5, w5 = wr.alloc (.cells #[.string s, .int .i64 y] 25) := ⟨_, rfl⟩
      obtain ⟨g5, hg5⟩ : ∃ g, g = wr.heap.size := ⟨_, rfl⟩
      have hV : Blk w5 g5 25 #[.string s, .int .i64 y] := by rw [hw5, hg5]; exact Blk.new _ _ _
      have hE5' : Ext wr w5 := by rw [hw5]; exact (Ext.rfl' wr).alloc (Nat.le_refl _) _
      have v0 := hV.cell 0
      have v1 := hV.cell 1
      simp only [List.getElem?_toArray, List.getElem?_cons_zero, List.getElem?_cons_succ] at v0 v1
      have HE5 := hide (hE.trans' hE5')
      have HO5 := hide (own_ext hO hE5')
      have hsz := HE5.out.size
      have HW5 := hide hw5
      have HG5 := hide hg5
      clear hcell p0 p1 hs hy hst hO hE hkl hw5 hg5 hV hE5' HO
      go_upto_region 5 with fail
      rw [← HW5.out, ← HG5.out]
      clear q0 q1
      go_wp2_with (at_builtin; refine wpList_append_Wd _ rfl _ _ rfl w.heap.size _ k (bareWs (l.take k)) rfl (w5.heap.size + 1) (some ⟨w5.heap.size, 0, none⟩) 1 (s, 0) rfl (HO5.out.alloc _) (reads_wd _ _ _ _ _ rfl) (by omega) (by simp only [World.size_alloc]; omega) ?_)
      intro A3 c3 w3 hown3 hgrow3 _
      have HE3 := hide (grown_ext' (w := w) (wr := w5) (base := w.heap.size) HE5.out ((Ext.rfl' w5).alloc (Nat.le_refl _) _) hgrow3 HO5.out (Nat.le_refl _))
      rw [← HST.out] at hown3
      have HO3 := hide hown3
      clear hown3 hgrow3 v0 v1
      go_wp2_with fail
      go_roundw
      case rel => exact ⟨k + 1, A3, c3, by omega, by go_num, rfl, HO3.out, HE3.out⟩
      case measure => simp [intOf]; omega
    · obtain rfl : k = n := by omega
      have hO' := HO.out
      rw [List.take_of_length_le (by rw [← HN.out]; exact Nat.le_refl _)] at hO'
      have HO' := hide hO'
      clear hO hE hO'
      go_wp2_with fail
      go_ret
      refine ⟨Ao, co, by rw [← HN.out]; rfl, ?_, HE.out⟩
      refine (reads_held HO'.out).mono fun w2 h2 => ?_
      unfold WdsAt
      rw [bareWs_length, ← HN.out]
      exact h2

theorem info_Pt : ∃ i, Try.prog.info? 52 = some i ∧ i.zero = some (.agg #[.string ⟨#[]⟩, .int .i64 0, .bool false, .slice none 0 0, .int .i64 0, .int .i64 0, .int .i64 0, .int .i64 0, .slice none 0 0, .int .i64 0, .int .i64 0, .int .i64 0, .int .i64 0, .int .i64 0, .slice none 0 0, .slice none 0 0, .string ⟨#[]⟩, .int .i64 0]) ∧ i.size = 18 ∧ i.bytes = 224 :=
  info_parts3 (a := 18) (b := 224) (v := .agg #[.string ⟨#[]⟩, .int .i64 0, .bool false, .slice none 0 0, .int .i64 0, .int .i64 0, .int .i64 0, .int .i64 0, .slice none 0 0, .int .i64 0, .int .i64 0, .int .i64 0, .int .i64 0, .int .i64 0, .slice none 0 0, .slice none 0 0, .string ⟨#[]⟩, .int .i64 0]) (s := 18) (by kernel_rfl)
/-- append of one part that has just been laid. -/
theorem wpList_append_Pt (w : World) {ops : Array Oper} {rest : List Oper} {o : Oper} {a : Act} {Q : Exit → Act → World → Prop} (hgd : o.guard = none) (s x : Operand)
    (ho : o.op = .call { callee := .builtin .append, args := #[s, x], argTypes := #[23, 23] })
    (base : Nat) (v : Value) (n : Nat) (xs : List Value) (hs : a.eval s = v) (B : Nat) (A : Option Addr) (c : Nat) (news : List Value) (hx : a.eval x = .slice A 1 c)
    (hown : w.ownsRow base 52 18 v n xs) (hr : Reads w B 18 A 1 news) (h1 : ∀ u ∈ news, u.oneCell' = true) (hn : n ≤ 628292358709) (hbase : base ≤ w.heap.size)
    (h : ∀ A' c' w', w'.ownsRow base 52 18 (.slice A' (n + 1) c') (n + 1) (xs ++ news) → w.grownBy w' v.ownBlock → (Value.ownBlock (.slice A' (n + 1) c') = v.ownBlock ∨ Value.ownBlock (.slice A' (n + 1) c') = some w.heap.size) → wpList Try.prog ops Q rest (a.put o.dst (.slice A' (n + 1) c')) w') : wpList Try.prog ops Q (o :: rest) a w := by
  obtain ⟨i0, hi, hz, hs2, hb⟩ := info_Pt
  exact wpList_append_sl w hgd s x 23 ho base 52 i0 _ 18 224 Try.underlying23 hi hz hs2 hb rfl (by decide) v n xs hs hown B A 1 c news hx hr h1 (by unfold maxLen; omega) (by omega) hbase h
theorem reads_pt (w : World) (t : TypeId) (l : List Value) (hl : l.length = 18) (g : Nat) (hg : g = w.heap.size) : Reads (w.alloc (.cells l.toArray t)) (g + 1) 18 (some ⟨g, 0, none⟩) 1 l := by
  subst hg
  refine ⟨by rw [hl], fun _ => ⟨_, rfl, by simp, fun j u hu => ?_⟩⟩
  have e : (⟨w.heap.size, 0, none⟩ : Addr).add j = ⟨w.heap.size, j, none⟩ := by unfold Addr.add; split <;> simp_all
  rw [e, World.cell?_alloc_new]
  simpa using hu
theorem len18 {l : List Value} (h : l.length = 18) : ∃ x0 x1 x2 x3 x4 x5 x6 x7 x8 y0 y1 y2 y3 y4 y5 y6 y7 y8, l = [x0, x1, x2, x3, x4, x5, x6, x7, x8, y0, y1, y2, y3, y4, y5, y6, y7, y8] := by
  match l, h with
  | [x0, x1, x2, x3, x4, x5, x6, x7, x8, y0, y1, y2, y3, y4, y5, y6, y7, y8], _ => exact ⟨x0, x1, x2, x3, x4, x5, x6, x7, x8, y0, y1, y2, y3, y4, y5, y6, y7, y8, rfl⟩
theorem run_bs18 (l : List Value) (hl : l.length = 18) (w : World) : (Instr.buildSlice 23 1 #[(0, .agg l.toArray)]).run Try.prog w = .ok (.slice (some ⟨w.heap.size, 0, none⟩) 1 1) (w.alloc (.cells l.toArray 52)) := by
  obtain ⟨x0, x1, x2, x3, x4, x5, x6, x7, x8, y0, y1, y2, y3, y4, y5, y6, y7, y8, rfl⟩ := len18 hl
  kernel_rfl
theorem wpList_bs18 {ops : Array Oper} {rest : List Oper} {o : Oper} {a : Act} {w : World} {Q : Exit → Act → World → Prop} (hgd : o.guard = none) (x : Operand) (ho : o.op = .buildSlice 23 1 #[(0, x)]) (l : List Value) (hl : l.length = 18) (hx : a.eval x = .agg l.toArray)
    (h : wpList Try.prog ops Q rest (a.put o.dst (.slice (some ⟨w.heap.size, 0, none⟩) 1 1)) (w.alloc (.cells l.toArray 52))) : wpList Try.prog ops Q (o :: rest) a w :=
  wpList_plain hgd fun K hK => by
    unfold Oper.wp execOp
    simp only [ho, List.map_toArray, List.map_cons, List.map_nil, hx, Sem.run_bind, run_bs18 l hl w, Result.andThen_ok]
    exact hK _ _ h

theorem Blk.setCells {g : Nat} {t : TypeId} (zs : List Value) : ∀ (xs ys : List Value) (w : World), Blk w g t (xs ++ ys).toArray → ys.length = zs.length → Blk (w.setCells g xs.length zs) g t (xs ++ zs).toArray := by
  induction zs with
  | nil => intro xs ys w h hl; rw [List.eq_nil_of_length_eq_zero hl] at h; exact h
  | cons z r ih =>
    intro xs ys w h hl
    cases ys with
    | nil => cases hl
    | cons y s =>
      have h1 := h.set_ xs.length z
      have e : (xs ++ y :: s).toArray.setIfInBounds xs.length z = ((xs ++ [z]) ++ s).toArray := by simp
      have h2 : Blk (w.setCell ⟨g, xs.length, none⟩ z) g t ((xs ++ [z]) ++ s).toArray := by rw [← e]; simpa using h1
      have h3 := ih (xs ++ [z]) s _ h2 (by simpa using hl)
      rw [List.length_append] at h3
      have e2 : (xs ++ [z]) ++ r = xs ++ z :: r := by simp
      rw [e2] at h3
      exact h3
theorem blk_set9 {w : World} {g : Nat} {t : TypeId} {l vt : List Value} (h : Blk w g t (l ++ vt).toArray) {i : Nat} (hi : i < l.length) (v : Value) : Blk (w.setCell ⟨g, i, none⟩ v) g t (l.set i v ++ vt).toArray := by
  have h1 := h.set_ i v
  have e : (l ++ vt).toArray.setIfInBounds i v = (l.set i v ++ vt).toArray := by simp [List.set_append, hi]
  rw [← e]; simpa using h1
theorem flat_get {us : Nat → List Value} {c k : Nat} (hl : ∀ i, i < k → (us i).length = c) {i j : Nat} {v : Value} (hi : i < k) (hv : (us i)[j]? = some v) : ((List.range k).flatMap us)[i * c + j]? = some v := by
  induction k with
  | zero => exact absurd hi (Nat.not_lt_zero i)
  | succ k ih =>
    have hlen : ∀ m, m ≤ k → ((List.range m).flatMap us).length = m * c := by
      intro m
      induction m with
      | zero => intro _; simp
      | succ m ihm =>
        intro hm
        rw [List.range_succ, List.flatMap_append, List.length_append, ihm (by omega), List.flatMap_singleton, hl m (by omega), Nat.succ_mul]
    rw [List.range_succ, List.flatMap_append, List.flatMap_singleton]
    have hj : j < c := by have := (List.getElem?_eq_some_iff.1 hv).1; rw [hl i hi] at this; exact this
    rcases Nat.lt_or_ge i k with h1 | h1
    · have : i * c + j < k * c := by
        have : (i + 1) * c ≤ k * c := Nat.mul_le_mul_right _ h1
        rw [Nat.succ_mul] at this
        omega
      rw [List.getElem?_append_left (by rw [hlen k (Nat.le_refl _)]; exact this)]
      exact ih (fun q hq => hl q (by omega)) h1
    · have e : i = k := by omega
      subst e
      rw [List.getElem?_append_right (by rw [hlen i (Nat.le_refl _)]; omega), hlen i (Nat.le_refl _)]
      rw [show i * c + j - i * c = j by omega]
      exact hv
end Go.Proofs.Ytanpljalbijfkaa
