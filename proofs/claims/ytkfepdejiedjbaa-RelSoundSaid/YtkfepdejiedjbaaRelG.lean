/- The method Order of package rel. -/
import Derived.Test.YtkfepdejiedjbaaRelF
import Derived.ScopeJumps
namespace Go.Proofs.Ytkfepdejiedjbaa
open Go.RowKit

/-! ### Order -/

def free (rs : List Nat) (taken a : Nat) : Bool := !taken.testBit a && !waitsB rs a taken
def pick (rs : List Nat) (taken : Nat) : Option Nat := (List.range rs.length).find? (free rs taken)
def left (n taken : Nat) : Nat := (List.range n).countP (fun j => !taken.testBit j)
theorem left_set (n taken a : Nat) (ha : a < n) (hb : taken.testBit a = false) : left n (taken ||| 1 <<< a) + 1 = left n taken := by
  have e : ∀ j, (taken ||| 1 <<< a).testBit j = (taken.testBit j || decide (a = j)) := fun j => by
    rw [Nat.testBit_or, Nat.one_shiftLeft, Nat.testBit_two_pow]
  unfold left
  induction n with
  | zero => omega
  | succ n ih =>
    rw [List.range_succ, List.countP_append, List.countP_append]
    by_cases h : a = n
    · subst h
      have hrest : (List.range a).countP (fun j => !(taken ||| 1 <<< a).testBit j) = (List.range a).countP (fun j => !taken.testBit j) := by
        apply List.countP_congr
        intro j hj
        have : a ≠ j := by have := List.mem_range.1 hj; omega
        simp [e, this]
      rw [hrest]
      simp [e, hb]
    · have := ih (by omega)
      have hn : (taken ||| 1 <<< a).testBit n = taken.testBit n := by rw [e]; simp [h]
      simp only [List.countP_cons, List.countP_nil, hn]
      omega

theorem left_zero (n : Nat) : left n 0 = n := by
  unfold left
  rw [show (fun j => !Nat.testBit 0 j) = fun _ => true by funext j; simp, List.countP_true, List.length_range]

theorem left_pos (n taken a : Nat) (ha : a < n) (hb : taken.testBit a = false) : 0 < left n taken := by
  have := left_set n taken a ha hb; omega

theorem pick_some {rs : List Nat} {taken a : Nat} (ha : a < rs.length) (h0 : ∀ j, j < a → free rs taken j = false) (h : free rs taken a = true) : pick rs taken = some a := by
  unfold pick
  rw [List.find?_range_eq_some]
  exact ⟨h, List.mem_range.2 ha, fun j hj => by simp [h0 j hj]⟩
theorem pick_none {rs : List Nat} {taken : Nat} (h0 : ∀ j, j < rs.length → free rs taken j = false) : pick rs taken = none := by
  unfold pick
  rw [List.find?_eq_none]
  intro j hj
  simp [h0 j (List.mem_range.1 hj)]

def orderGo (rs : List Nat) : Nat → List Nat → Nat → List Nat
  | 0, out, _ => out
  | f + 1, out, taken => match pick rs taken with
    | none => out
    | some a => orderGo rs f (out ++ [a]) (taken ||| 1 <<< a)
def orderOf (rs : List Nat) : List Nat := orderGo rs rs.length [] 0

abbrev natv (x : Nat) : Value := .int .i64 (x : Int)
theorem info_int : (Try.prog.info? 3).map (fun i => (i.zero, i.size, i.bytes)) = some (some (.int .i64 0), 1, 8) := by kernel_rfl

def OrderPost (rs : List Nat) (w : World) (e : Ending) (w' : World) : Prop :=
  ((loopOf (RelM.close rs)).isSome = true ∧ e = .returned (.tuple #[.slice none 0 0, .bool false]) ∧ Ext w w') ∨
  ((loopOf (RelM.close rs)).isSome = false ∧ ∃ A c, e = .returned (.tuple #[.slice A (orderOf rs).length c, .bool true]) ∧ w'.ownsRow w.heap.size 3 1 (.slice A (orderOf rs).length c) (orderOf rs).length ((orderOf rs).map natv) ∧ Ext w w')

theorem orderGo_none {rs : List Nat} {taken : Nat} (h : pick rs taken = none) (f : Nat) (out : List Nat) : orderGo rs f out taken = out := by
  cases f with
  | zero => rfl
  | succ f => simp [orderGo, h]
theorem orderGo_some {rs : List Nat} {taken a : Nat} (h : pick rs taken = some a) (f : Nat) (out : List Nat) : orderGo rs (f + 1) out taken = orderGo rs f (out ++ [a]) (taken ||| 1 <<< a) := by
  simp [orderGo, h]

/-- What holds whenever the loop's label is met. -/
def OrderInv (rs : List Nat) (W : World) (out : List Nat) (taken a : Nat) (A : Option Addr) (c : Nat) (w : World) : Prop :=
  w.ownsRow W.heap.size 3 1 (.slice A out.length c) out.length (out.map natv) ∧ Ext W w ∧ taken < 18446744073709551616 ∧ a ≤ rs.length ∧ (∀ j, j < a → free rs taken j = false) ∧
  out.length + left rs.length taken = rs.length ∧ orderGo rs (left rs.length taken) out taken = orderOf rs

theorem OrderInv.next {rs : List Nat} {W : World} {out : List Nat} {taken a : Nat} {A : Option Addr} {c : Nat} {w : World} (h : OrderInv rs W out taken a A c w) (ha : a < rs.length) (hf : free rs taken a = false) :
    OrderInv rs W out taken (a + 1) A c w := by
  obtain ⟨h1, h2, h3, h4, h5, h6, h7⟩ := h
  refine ⟨h1, h2, h3, by omega, fun j hj => ?_, h6, h7⟩
  by_cases e : j = a
  · rw [e]; exact hf
  · exact h5 j (by omega)

theorem OrderInv.take {rs : List Nat} {W : World} {out : List Nat} {taken a : Nat} {A : Option Addr} {c : Nat} {w : World} (hl : rs.length ≤ 64) (h : OrderInv rs W out taken a A c w) (ha : a < rs.length) (hf : free rs taken a = true)
    {o : Obj} {A' : Option Addr} {c' : Nat} {w1 : World} (hown : w1.ownsRow W.heap.size 3 1 (.slice A' (out.length + 1) c') (out.length + 1) (out.map natv ++ [natv a]))
    (hg : (w.alloc o).grownBy w1 (Value.ownBlock (.slice A out.length c))) :
    OrderInv rs W (out ++ [a]) (taken ||| 1 <<< a) 0 A' c' w1 ∧ out.length + 1 ≤ rs.length := by
  obtain ⟨h1, h2, h3, h4, h5, h6, h7⟩ := h
  have hb : taken.testBit a = false := by
    unfold free at hf
    cases h : taken.testBit a
    · rfl
    · simp [h] at hf
  have hl1 := left_set rs.length taken a ha hb
  refine ⟨⟨by simpa using hown, ?_, or_lt h3 (by omega), Nat.zero_le _, fun j hj => absurd hj (by omega), by simp; omega, ?_⟩, by omega⟩
  · exact (h2.alloc h2.size o).grown hg (by have := h2.size; simp; omega) (fun g hg' => (h1.lt g hg').1)
  · rw [← h7, ← hl1, orderGo_some (pick_some ha h5 hf)]

def OrderJ (rs : List Nat) (b : Nat) (W : World) (x : Act) (w : World) : Prop :=
  loopOf (RelM.close rs) = none ∧ ∃ (out : List Nat) (taken a : Nat) (A : Option Addr) (c : Nat), OrderInv rs W out taken a A c w ∧ ∃ u1 u2 u3 u4 u5 u9 u10 u11 u12 u13 u14 u15 u16 u17 u18 u19 u20 u21 u22 u23 u24 u25 u26 u27 u28 u29 u30 u31 u32 u33 u34 u35 u36 u37 u38 u39 u40 : Value, x = ⟨#[.pointer (some ⟨b, 0, none⟩), u1, u2, u3, u4, u5, .slice A out.length c, .int .u64 (taken : Int), .int .i64 (a : Int), u9, u10, u11, u12, u13, u14, u15, u16, u17, u18, u19, u20, u21, u22, u23, u24, u25, u26, u27, u28, u29, u30, u31, u32, u33, u34, u35, u36, u37, u38, u39, u40], []⟩

def orderMu (rs : List Nat) (x : Act) (_ : World) : Nat := match x.tmps.getD 6 undef with
  | .slice _ n _ => (rs.length - n) * (rs.length + 1) + (rs.length - (intOf (x.tmps.getD 8 undef)).toNat)
  | _ => 0

set_option maxRecDepth 100000 in
set_option maxHeartbeats 1000000 in
theorem relOrder_any (b : Nat) (rs : List Nat) (w : World) (h : RelAt w b rs) :
    Calls Try.prog 24 #[.pointer (some ⟨b, 0, none⟩)] w (OrderPost rs w) := by
  have HR := hide h
  clear h
  go_enter Try.func24, Try.ntmps24
  go_wp2_with fail
  refine scope_jumps 0 (OrderJ rs b w) (orderMu rs) rfl ?_ ?_
  · rintro x wr ⟨hno, out, taken, a, A, c, hI, u1, u2, u3, u4, u5, u9, u10, u11, u12, u13, u14, u15, u16, u17, u18, u19, u20, u21, u22, u23, u24, u25, u26, u27, u28, u29, u30, u31, u32, u33, u34, u35, u36, u37, u38, u39, u40, rfl⟩
    have hl : rs.length ≤ 64 := by obtain ⟨_, _, _, _, h, _⟩ := HR.out; exact h
    have HN := hide hno
    clear hno
    have hE := hI.2.1
    have ht := hI.2.2.1
    have ha := hI.2.2.2.1
    have hR := hide (HR.out.ext hE)
    have HI := hide hI
    have hol : out.length ≤ rs.length := by have := hI.2.2.2.2.2.1; omega
    obtain ⟨i0, hi, hz0, hz1, hz2⟩ := info_parts info_int
    clear hI hE
    go_wp2_with fail
    refine (relLen_any b rs _ hR.out).mono ?_
    rintro e w' ⟨rfl, rfl⟩
    have hb1 := fun m => shr_bit taken m ht
    by_cases hlt : a < rs.length
    · cases hbit : taken.testBit a with
      | true =>
        go_wp2_with fail
        go_step3
        refine ⟨rfl, ⟨HN.out, out, taken, a + 1, A, c, HI.out.next hlt (by simp [free, hbit]), ?_⟩, ?_⟩
        · repeat apply Exists.intro
          rfl
        · simp [orderMu, intOf]; omega
      | false =>
        go_wp2_with fail
        refine (relWaits_any b rs _ hR.out a taken ht).mono ?_
        rintro e w' ⟨rfl, rfl⟩
        obtain ⟨wt, hwt⟩ : ∃ wt, wt = waitsB rs a taken := ⟨_, rfl⟩
        rw [← hwt]
        have HW := hide hwt
        have HB := hide hbit
        clear hwt
        cases wt with
        | true =>
          go_wp2_with fail
          go_step3
          refine ⟨rfl, ⟨HN.out, out, taken, a + 1, A, c, HI.out.next hlt (by simp [free, ← HW.out]), ?_⟩, ?_⟩
          · repeat apply Exists.intro
            rfl
          · simp [orderMu, intOf]; omega
        | false =>
          have hown := HI.out.1
          go_wp2_with (at_builtin; refine wpList_append_sl _ rfl _ _ 39 rfl w.heap.size 3 i0 (.int .i64 0) 1 8 Try.underlying39 hi hz0 hz1 hz2 rfl (by decide) _ out.length (out.map natv) rfl (hown.alloc _) (wr.heap.size + 1) (some ⟨wr.heap.size, 0, none⟩) 1 1 [natv a] rfl (reads_new _ _ _) ?c0 ?c1 ?c2 ?c3 ?_)
          case c0 => intro u hu; simp at hu; subst hu; rfl
          case c1 => unfold maxLen; omega
          case c2 => omega
          case c3 => have := HI.out.2.1.size; simp; omega
          intro A' c' w1 hown1 hgrow hat
          have HT := hide (HI.out.take hl hlt (show free rs taken a = true by simp [free, HB.out, ← HW.out]) hown1 hgrow)
          clear hown hown1 hgrow hat
          rw [or_shl taken a ht (by omega)]
          go_wp2_with fail
          go_step3
          refine ⟨rfl, ⟨HN.out, out ++ [a], taken ||| 1 <<< a, 0, A', c', HT.out.1, ?_⟩, ?_⟩
          · rw [List.length_append]
            repeat apply Exists.intro
            rfl
          · have := HT.out.2
            obtain ⟨t, ht'⟩ : ∃ t, rs.length - out.length = t + 1 := ⟨rs.length - out.length - 1, by omega⟩
            have e2 : rs.length - (out.length + 1) = t := by omega
            show (rs.length - (out.length + 1)) * (rs.length + 1) + (rs.length - (0 : Int).toNat) < (rs.length - out.length) * (rs.length + 1) + (rs.length - (a : Int).toNat)
            rw [e2, ht', Nat.succ_mul]
            omega
    · obtain rfl : a = rs.length := by omega
      go_wp2_with fail
      simp only [Exit.jump]
      go_ret2
      obtain ⟨h1, h2, _, _, h5, _, h7⟩ := HI.out
      rw [orderGo_none (pick_none h5)] at h7
      exact .inr ⟨by rw [HN.out]; rfl, A, c, by rw [← h7]; rfl, by rw [← h7]; exact h1, h2⟩
  · intro pass
    have HP := hide pass
    clear pass
    go_wp2_with fail
    refine (relLoop_any b rs _ HR.out).mono ?_
    rintro e w1 ⟨rfl, hE⟩
    obtain ⟨lo, hlo⟩ : ∃ lo, lo = loopOf (RelM.close rs) := ⟨_, rfl⟩
    rw [← hlo]
    have HL := hide hlo
    clear hlo
    rcases lo with _ | lo
    · go_wp2_with fail
      go_step3
      go_step
      go_step
      refine HP.out _ _ ⟨HL.out.symm, [], 0, 0, none, 0, ⟨World.ownsRow_nil _ _ _ _, hE, by omega, Nat.zero_le _, fun j hj => absurd hj (by omega), by rw [left_zero]; simp, by rw [left_zero]; rfl⟩, ?_⟩
      repeat apply Exists.intro
      rfl
    · go_wp2_with fail
      simp only [Exit.jump]
      go_ret2
      exact .inl ⟨by rw [← HL.out]; rfl, rfl, hE⟩

end Go.Proofs.Ytkfepdejiedjbaa
