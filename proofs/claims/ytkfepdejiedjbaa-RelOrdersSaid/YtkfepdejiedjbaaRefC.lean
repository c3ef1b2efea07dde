/- The document's functions of layer 10: Order. -/
import Derived.Test.YtkfepdejiedjbaaRefB
import Derived.Test.YtkfepdejiedjbaaRelG
namespace Go.Proofs.Ytkfepdejiedjbaa
open Go.RowKit

def blocks (M : List (List Bool)) (T : List Bool) (a b : Nat) : Bool := (b != a) && mat M b a && !T.getD b false
def rfree (M : List (List Bool)) (T : List Bool) (a : Nat) : Bool := !T.getD a false && (List.range M.length).all fun b => !blocks M T a b
def rpick (M : List (List Bool)) (T : List Bool) : Option Nat := (List.range M.length).find? (rfree M T)
def freeTo (M : List (List Bool)) (T : List Bool) (a : Nat) : Nat → Bool
  | 0 => !T.getD a false
  | b + 1 => freeTo M T a b && !blocks M T a b
theorem freeTo_all (M : List (List Bool)) (T : List Bool) (a k : Nat) : freeTo M T a k = (!T.getD a false && (List.range k).all fun b => !blocks M T a b) := by
  induction k with
  | zero => simp [freeTo]
  | succ k ih =>
    simp only [freeTo, ih, List.range_succ, List.all_append, List.all_cons, List.all_nil, Bool.and_true]
    rw [Bool.and_assoc]

/-- The least free thing from a on; -1: there is none. -/
def nextFrom (M : List (List Bool)) (T : List Bool) : Nat → Int
  | 0 => -1
  | d + 1 => if rfree M T (M.length - (d + 1)) then ((M.length - (d + 1) : Nat) : Int) else nextFrom M T d

theorem nextFrom_pick (M : List (List Bool)) (T : List Bool) (d : Nat) (hd : d ≤ M.length) :
    (∃ a : Nat, nextFrom M T d = a ∧ M.length - d ≤ a ∧ a < M.length ∧ rfree M T a = true ∧ ∀ j, M.length - d ≤ j → j < a → rfree M T j = false) ∨ (nextFrom M T d = -1 ∧ ∀ j, M.length - d ≤ j → j < M.length → rfree M T j = false) := by
  induction d with
  | zero => exact .inr ⟨rfl, fun j h1 h2 => by omega⟩
  | succ d ih =>
    by_cases h : rfree M T (M.length - (d + 1)) = true
    · left
      exact ⟨M.length - (d + 1), by simp [nextFrom, h], Nat.le_refl _, by omega, h, fun j h1 h2 => by omega⟩
    · have e : nextFrom M T (d + 1) = nextFrom M T d := by simp [nextFrom, h]
      rw [e]
      rcases ih (by omega) with ⟨a, h1, h2, h3, h4, h5⟩ | ⟨h1, h2⟩
      · refine .inl ⟨a, h1, by omega, h3, h4, fun j hj1 hj2 => ?_⟩
        by_cases ej : j = M.length - (d + 1)
        · rw [ej]; simpa using h
        · exact h5 j (by omega) hj2
      · refine .inr ⟨h1, fun j hj1 hj2 => ?_⟩
        by_cases ej : j = M.length - (d + 1)
        · rw [ej]; simpa using h
        · exact h2 j (by omega) hj2

theorem nextFrom_all (M : List (List Bool)) (T : List Bool) : nextFrom M T M.length = match rpick M T with | some a => (a : Int) | none => -1 := by
  rcases nextFrom_pick M T M.length (Nat.le_refl _) with ⟨a, h1, _, h3, h4, h5⟩ | ⟨h1, h2⟩
  · have : rpick M T = some a := by
      unfold rpick
      rw [List.find?_range_eq_some]
      exact ⟨h4, List.mem_range.2 h3, fun j hj => by simp [h5 j (by omega) hj]⟩
    rw [this, h1]
  · have : rpick M T = none := by
      unfold rpick
      rw [List.find?_eq_none]
      intro j hj
      simp [h2 j (by omega) (List.mem_range.1 hj)]
    rw [this, h1]

def refGo (M : List (List Bool)) : Nat → List Nat → List Bool → List Nat
  | 0, out, _ => out
  | f + 1, out, T => match rpick M T with
    | none => out
    | some a => refGo M f (out ++ [a]) (T.set a true)
def refOrder (M : List (List Bool)) : List Nat := refGo M M.length [] (List.replicate M.length false)
theorem next_step {M : List (List Bool)} {T : List Bool} {a n : Nat} (hn : n = M.length) (ha : a < n) : nextFrom M T (n - a) = if rfree M T a then (a : Int) else nextFrom M T (n - (a + 1)) := by
  obtain ⟨d, hd⟩ : ∃ d, n - a = d + 1 := ⟨n - a - 1, by omega⟩
  rw [hd, show n - (a + 1) = d by omega, nextFrom, show M.length - (d + 1) = a by omega]
theorem freeTo_end {M : List (List Bool)} {T : List Bool} {a n : Nat} (hn : n = M.length) : freeTo M T a n = rfree M T a := by
  rw [freeTo_all, rfree, hn]

theorem refGo_none {M : List (List Bool)} {T : List Bool} (h : rpick M T = none) (f : Nat) (out : List Nat) : refGo M f out T = out := by
  cases f with
  | zero => rfl
  | succ f => simp [refGo, h]
theorem refGo_some {M : List (List Bool)} {T : List Bool} {a : Nat} (h : rpick M T = some a) (f : Nat) (out : List Nat) : refGo M (f + 1) out T = refGo M f (out ++ [a]) (T.set a true) := by
  simp [refGo, h]
theorem rpick_lt {M : List (List Bool)} {T : List Bool} {a : Nat} (h : rpick M T = some a) : a < M.length := by
  unfold rpick at h
  rw [List.find?_range_eq_some] at h
  exact List.mem_range.1 h.2.1

def RefInv (M : List (List Bool)) (W : World) (g : Nat) (out : List Nat) (T : List Bool) (A : Option Addr) (c : Nat) (w : World) : Prop :=
  w.ownsRow W.heap.size 3 1 (.slice A out.length c) out.length (out.map natv) ∧ w.ownsRow W.heap.size 4 1 (.slice (some ⟨g, 0, none⟩) M.length M.length) M.length (T.map Value.bool) ∧
  T.length = M.length ∧ Ext W w ∧ out.length ≤ M.length ∧ refGo M (M.length - out.length) out T = refOrder M

theorem RefInv.cell {M : List (List Bool)} {W : World} {g : Nat} {out : List Nat} {T : List Bool} {A : Option Addr} {c : Nat} {w : World} (h : RefInv M W g out T A c w) (x : Nat) (hx : x < M.length) :
    w.cell? ⟨g, x, none⟩ = some (.bool (T.getD x false)) ∧ w.frozen? ⟨g, x, none⟩ = false := by
  obtain ⟨_, h1, h2, _⟩ := h
  refine ⟨?_, h1.frozenAt x⟩
  rw [h1.cellAt x (by omega)]
  simp [List.getD, h2, hx]

theorem RefInv.take {M : List (List Bool)} {W : World} {g : Nat} {out : List Nat} {T : List Bool} {A : Option Addr} {c : Nat} {w : World} (h : RefInv M W g out T A c w) (hlt : out.length < M.length) {a : Nat} (hp : rpick M T = some a)
    {o : Obj} {A' : Option Addr} {c' : Nat} {w1 : World} (hown : w1.ownsRow W.heap.size 3 1 (.slice A' (out.length + 1) c') (out.length + 1) (out.map natv ++ [natv a]))
    (hg : ((w.setCell ⟨g, a, none⟩ (.bool true)).alloc o).grownBy w1 (Value.ownBlock (.slice A out.length c))) : RefInv M W g (out ++ [a]) (T.set a true) A' c' w1 := by
  obtain ⟨h1, h2, h3, h4, h5, h6⟩ := h
  have hne := own_ne h2 h1 (by decide)
  have hne1 := own_ne h1 h2 (by decide)
  have hs := (h2.stored a (.bool true)).1
  rw [← List.map_set] at hs
  have ho1 : (w.setCell ⟨g, a, none⟩ (.bool true)).ownsRow W.heap.size 3 1 (.slice A out.length c) out.length (out.map natv) :=
    own_far h1 (by
      rcases hne1 with e | e
      · rw [e]; simp
      · exact e) _
  have hW : Ext W ((w.setCell ⟨g, a, none⟩ (.bool true)).alloc o) := (h4.setCell (by exact (h2.lt g rfl).1) _).alloc (by simpa using h4.size) o
  refine ⟨by simpa using hown, (hs.alloc o).kept hg hne, by simp [h3], hW.grown hg hW.size (fun g' hg' => (h1.lt g' hg').1), by simp; omega, ?_⟩
  obtain ⟨d, hd⟩ : ∃ d, M.length - out.length = d + 1 := ⟨M.length - out.length - 1, by omega⟩
  rw [hd, refGo_some hp] at h6
  rw [← h6]
  congr 1
  simp; omega

set_option maxRecDepth 100000 in
set_option maxHeartbeats 2000000 in
theorem refOrder_any (A : Option Addr) (c : Nat) (M : List (List Bool)) (w : World) (h : MatAt w w.heap.size A M) (hsq : ∀ r ∈ M, r.length = M.length) (hl : M.length ≤ 64) :
    Calls Try.prog 25 #[.slice A M.length c] w (fun e w' => ∃ A' c', e = .returned (.slice A' (refOrder M).length c') ∧ w'.ownsRow w.heap.size 3 1 (.slice A' (refOrder M).length c') (refOrder M).length ((refOrder M).map natv) ∧ Ext w w') := by
  obtain ⟨i0, hi, hz0, hz1, hz2⟩ := info_parts info_bool
  obtain ⟨j0, gi, gz0, gz1, gz2⟩ := info_parts info_int
  obtain ⟨n, hn⟩ : ∃ n, n = M.length := ⟨_, rfl⟩
  have HF := fun hp => h.form hsq (by rw [← hn]; exact hp)
  rw [← hn] at HF hl ⊢
  have HN := hide hn
  clear hn
  go_enter Try.func25, Try.ntmps25
  go_wp2_with (at_make; refine wpList_make_full _ rfl _ _ 34 rfl w.heap.size 4 i0 (.bool false) 1 Try.underlying34 hi hz0 hz1 _ _ _ _ n rfl rfl rfl rfl ?c1 ?c2 (Nat.le_refl _) ?_)
  case c1 => first | omega | (rw [hz2]; omega)
  case c2 => unfold maxLen; omega
  intro w1 hown hgrow
  have hI0 : RefInv M w w.heap.size [] (List.replicate M.length false) none 0 w1 := ⟨World.ownsRow_nil _ _ _ _, by rw [← HN.out]; simpa [toList_madeCells_one] using hown, by simp, ext_of_grown hgrow, Nat.zero_le _, rfl⟩
  have HI0 := hide hI0
  clear hI0 hown hgrow
  obtain ⟨g, hg⟩ : ∃ g, g = w.heap.size := ⟨_, rfl⟩
  have HG := hide hg
  have HI0' : Hid (RefInv M w g [] (List.replicate M.length false) none 0 w1) := by rw [hg]; exact HI0
  rw [← hg]
  clear hg HI0
  go_wp2
  go_loopw [3] (fun v wr => ∃ out T A c, v = .slice A (List.length out) c ∧ RefInv M w g out T A c wr) (fun v _ => match v with | .slice _ m _ => n - m | _ => 0)
  case atStart => exact ⟨[], _, none, 0, rfl, HI0'.out⟩
  case round =>
    obtain ⟨out, T, Ao, co, rfl, hI⟩ := hrel
    have hle : out.length ≤ n := by rw [HN.out]; exact hI.2.2.2.2.1
    have HI := hide hI
    clear hI
    by_cases hlt : out.length < n
    · have hpos : 0 < n := by omega
      obtain ⟨b0, o0, rfl, hb0, hrow⟩ := HF hpos
      clear HF
      have HROW := hide hrow
      clear hrow
      go_wp2
      go_loop [6, 5] (fun i nx => ∃ a1 : Nat, a1 ≤ n ∧ i = .int .i64 ((a1 : Int) - 1) ∧ nx = .int .i64 (nextFrom M T (n - a1))) (fun i _ => (intOf i + 1).toNat)
      case atStart => exact ⟨n, Nat.le_refl _, rfl, by rw [Nat.sub_self]; rfl⟩
      case round =>
        obtain ⟨a1, ha1, rfl, rfl⟩ := hrel
        cases a1 with
        | zero =>
          rw [show ((0 : Nat) : Int) - 1 = -1 by omega]
          obtain ⟨nx, hnx⟩ : ∃ nx, nx = nextFrom M T (n - 0) := ⟨_, rfl⟩
          rw [← hnx]
          have HX := hide (show nx = match rpick M T with | some a => (a : Int) | none => -1 by rw [hnx, Nat.sub_zero, HN.out, nextFrom_all])
          clear hnx
          rcases hpk : rpick M T with _ | a
          · have hnx : nx = -1 := by rw [HX.out, hpk]
            have HP := hide hpk
            subst hnx
            clear hpk
            go_wp2
            go_ret
            obtain ⟨h1, _, _, h4, _, h6⟩ := HI.out
            rw [refGo_none HP.out] at h6
            rw [← h6]
            exact ⟨Ao, co, rfl, h1, h4⟩
          · have hnx : nx = (a : Int) := by rw [HX.out, hpk]
            have HP := hide hpk
            have halt : a < n := by rw [HN.out]; exact rpick_lt hpk
            subst hnx
            clear hpk
            have hTa := HI.out.cell a (by rw [← HN.out]; exact halt)
            obtain ⟨tb, htb⟩ : ∃ tb, tb = T.getD a false := ⟨_, rfl⟩
            rw [← htb] at hTa
            obtain ⟨hTa1, hTa2⟩ := hTa
            have hown := HI.out.1
            have hown2 : (wr.setCell ⟨g, a, none⟩ (.bool true)).ownsRow w.heap.size 3 1 (.slice Ao out.length co) out.length (out.map natv) := own_far hown (by
              rcases own_ne hown HI.out.2.1 (by decide) with e | e
              · rw [e]; simp
              · exact e) _
            have HO2 := hide hown2
            have hbase := HI.out.2.2.2.1.size
            clear hown hown2 htb
            go_wp2_with (at_builtin; refine wpList_append_1 _ rfl _ _ 39 rfl w.heap.size 3 j0 (.int .i64 0) 8 Try.underlying39 gi gz0 gz1 gz2 rfl _ out.length (out.map natv) rfl wr.heap.size (natv a) 1 rfl rfl (by omega) (by omega) (HO2.out.alloc _) (reads_at _ _ _ _ (by simp)) (by simp; omega) ?_)
            intro A' c' w3 hown3 hgrow3 hat
            have HT := hide (HI.out.take (by rw [← HN.out]; exact hlt) HP.out hown3 hgrow3)
            clear hown3 hgrow3 hat
            go_wp2
            go_roundw
            case rel => exact ⟨out ++ [a], T.set a true, A', c', by rw [List.length_append]; rfl, HT.out⟩
            case measure => simp; omega
        | succ a =>
          rw [show ((a + 1 : Nat) : Int) - 1 = (a : Int) by omega]
          have halt : a < n := by omega
          have hTa := HI.out.cell a (by rw [← HN.out]; exact halt)
          obtain ⟨hTa1, _⟩ := hTa
          obtain ⟨ta, hta⟩ : ∃ ta, ta = T.getD a false := ⟨_, rfl⟩
          rw [← hta] at hTa1
          have HTA := hide hta
          clear hta
          obtain ⟨nx, hnx⟩ : ∃ nx, nx = nextFrom M T (n - (a + 1)) := ⟨_, rfl⟩
          rw [← hnx]
          have HNX := hide hnx
          clear hnx
          go_wp2
          go_loop [8, 7] (fun i fr => ∃ b : Nat, b ≤ n ∧ i = .int .i64 b ∧ fr = .bool (freeTo M T a b)) (fun i _ => n - (intOf i).toNat)
          case atStart => exact ⟨0, Nat.zero_le _, rfl, by rw [freeTo, ← HTA.out]⟩
          case round =>
            obtain ⟨b, hb, rfl, rfl⟩ := hrel
            obtain ⟨fr, hfr⟩ : ∃ fr, fr = freeTo M T a b := ⟨_, rfl⟩
            rw [← hfr]
            have HFR := hide hfr
            clear hfr
            by_cases hbn : b < n
            · by_cases hab : b = a
              · subst hab
                go_wp2
                go_round
                case rel => exact ⟨b + 1, by omega, by go_num, by rw [freeTo, ← HFR.out]; simp [blocks]⟩
                case measure => simp [intOf]; omega
              · have hne : ((b : Int) != (a : Int)) = true := by rw [bne_iff_ne]; omega
                obtain ⟨bb, ob, cb, fb0, hbb, gb⟩ := HROW.out b hbn
                have fb := (HI.out.2.2.2.1.cell (p := ⟨b0, o0 + b, none⟩) hb0).trans fb0
                have gb' := (HI.out.2.2.2.1.cell (p := ⟨bb, ob + a, none⟩) hbb).trans (gb a halt)
                clear fb0
                have hTb := (HI.out.cell b (by rw [← HN.out]; exact hbn)).1
                obtain ⟨x, hx⟩ : ∃ x, x = mat M b a := ⟨_, rfl⟩
                obtain ⟨y, hy⟩ : ∃ y, y = T.getD b false := ⟨_, rfl⟩
                rw [← hx] at gb'
                rw [← hy] at hTb
                have HX := hide hx
                have HY := hide hy
                clear gb hx hy
                have hbl : Hid (blocks M T a b = (x && !y)) := by unfold Hid; rw [blocks, ← HX.out, ← HY.out, show (b != a) = true by simpa using hab]; simp
                cases x with
                | false =>
                  go_wp2
                  go_round
                  case rel => exact ⟨b + 1, by omega, by go_num, by rw [freeTo, ← HFR.out, hbl.out]; simp⟩
                  case measure => simp [intOf]; omega
                | true =>
                  cases y with
                  | true =>
                    go_wp2
                    go_round
                    case rel => exact ⟨b + 1, by omega, by go_num, by rw [freeTo, ← HFR.out, hbl.out]; simp⟩
                    case measure => simp [intOf]; omega
                  | false =>
                    go_wp2
                    go_round
                    case rel => exact ⟨b + 1, by omega, by go_num, by rw [freeTo, hbl.out]; simp⟩
                    case measure => simp [intOf]; omega
            · obtain rfl : b = n := by omega
              have hrf : fr = rfree M T a := by rw [HFR.out, freeTo_end HN.out]
              have HRF := hide hrf
              clear hrf
              have hst := next_step (T := T) HN.out halt
              rw [← HRF.out, ← HNX.out] at hst
              have HST := hide hst
              clear hst
              cases fr with
              | true =>
                go_wp2
                go_round
                case rel => exact ⟨a, by omega, rfl, by rw [HST.out]; simp⟩
                case measure => simp [intOf]
              | false =>
                go_wp2
                go_round
                case rel => exact ⟨a, by omega, rfl, by rw [HST.out]; simp⟩
                case measure => simp [intOf]
    · have e : out.length = M.length := by rw [← HN.out]; omega
      have HE := hide e
      have hlt' : ¬ (out.length : Int) < n := by omega
      clear e
      go_wp2
      go_ret
      obtain ⟨h1, _, _, h4, _, h6⟩ := HI.out
      rw [HE.out, Nat.sub_self] at h6
      have h6' : out = refOrder M := h6
      rw [← h6']
      exact ⟨Ao, co, rfl, h1, h4⟩

end Go.Proofs.Ytkfepdejiedjbaa
