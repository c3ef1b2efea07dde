/- The document's functions of layer 11: Join, Turn. -/
import Derived.Test.YtpjlhpaenmfieaaGreatRelAll
import Derived.Test.YtpjlhpaenmfieaaGreatLatPl
import Derived.Test.YtpjlhpaenmfieaaGreatRelAll
namespace Go.Proofs.YtpjlhpaenmfieaaGreat
open Go.RowKit

/-- Is a level the best of those that are in, as far as these tell? -/
def bestTo (I : Nat → Bool) (M : Nat → Nat → Bool) (c : Nat) (k : Nat) : Bool := I c && (List.range k).all fun d => !I d || M c d
theorem bestTo_no {I : Nat → Bool} {M : Nat → Nat → Bool} {c k : Nat} (h1 : I k = true) (h2 : M c k = false) : bestTo I M c (k + 1) = false := by
  unfold bestTo
  rw [List.range_succ, List.all_append]
  simp [h1, h2]
theorem bestTo_yes {I : Nat → Bool} {M : Nat → Nat → Bool} {c k : Nat} (h : I k = false ∨ M c k = true) : bestTo I M c (k + 1) = bestTo I M c k := by
  unfold bestTo
  rw [List.range_succ, List.all_append]
  rcases h with h | h <;> simp [h]
theorem bestTo_zero (I : Nat → Bool) (M : Nat → Nat → Bool) (c : Nat) : bestTo I M c 0 = I c := by simp [bestTo]

set_option maxRecDepth 100000 in
set_option maxHeartbeats 2000000 in
theorem refJoin_any (A : Option Addr) (cp n : Nat) (M : List (List Bool)) (a b : Nat) (w : World) (h : MatAt w w.heap.size A M) (hsq : ∀ r ∈ M, r.length = M.length) (hn : n = M.length) (hl : n ≤ 64) (ha : a < n) (hb : b < n) :
    Calls Tryz.prog 71 #[.slice A n cp, .int .i64 (a : Int), .int .i64 (b : Int)] w (fun e w' => e = .returned (.int .i64 (LatM.joinL n (mat M) a b)) ∧ w = w') := by
  obtain ⟨b0, o0, rfl, _, hrow⟩ := h.form hsq (by omega)
  rw [← hn] at hrow
  have HROW := hide hrow
  obtain ⟨I, hI⟩ : ∃ I : Nat → Bool, I = fun c => mat M a c && mat M b c := ⟨_, rfl⟩
  have hJ : LatM.joinL n (mat M) a b = LatM.bestL n I (mat M) := by rw [hI]; rfl
  rw [hJ]
  have HI := hide hI
  have i0 : (0 : Int) ≤ (a : Int) := by omega
  have i1 : (a : Int) < (n : Int) := by omega
  have i2 : (0 : Int) ≤ (b : Int) := by omega
  have i3 : (b : Int) < (n : Int) := by omega
  obtain ⟨ba, oa, ca, fa, _, ga⟩ := HROW.out a ha
  obtain ⟨bb, ob, cb, fb, _, gb⟩ := HROW.out b hb
  have GA := hide ga
  have GB := hide gb
  clear hrow h hsq hn hI hJ ga gb
  go_enter Tryz.func71, Tryz.ntmps71
  go_wp2_with fail
  go_loop [7] (fun i => ∃ c : Nat, c ≤ n ∧ i = .int .i64 c ∧ Hid (∀ j, j < c → LatM.isBest n I (mat M) j = false)) (fun i => n - (intOf i).toNat)
  case atStart => exact ⟨0, Nat.zero_le _, rfl, fun j hj => absurd hj (by omega)⟩
  case round =>
    obtain ⟨c, hc, rfl, HA⟩ := hrel
    by_cases hcn : c < n
    · have i4 : (0 : Int) ≤ (c : Int) := by omega
      have i5 : (c : Int) < (n : Int) := by omega
      have xa := GA.out c hcn
      have xb := GB.out c hcn
      have hbz := bestTo_zero I (mat M) c
      rw [show I c = (mat M a c && mat M b c) by rw [HI.out]] at hbz
      obtain ⟨x, hx⟩ : ∃ x, x = mat M a c := ⟨_, rfl⟩
      obtain ⟨y, hy⟩ : ∃ x, x = mat M b c := ⟨_, rfl⟩
      rw [← hx] at xa hbz
      rw [← hy] at xb hbz
      have HBZ := hide hbz
      clear hx hy hbz
      obtain ⟨bc, oc, cc, fc, _, gc⟩ := HROW.out c hcn
      have GC := hide gc
      clear gc
      cases x
      all_goals
        go_wp2_with fail
        go_loop [9, 8] (fun i v => ∃ (d : Nat) (u : Bool), d ≤ n ∧ i = .int .i64 d ∧ v = .bool u ∧ Hid (u = bestTo I (mat M) c d)) (fun i _ => n - (intOf i).toNat)
        case atStart => exact ⟨0, _, Nat.zero_le _, rfl, rfl, hide (by have h := HBZ.out; simp only [Bool.false_and, Bool.true_and] at h; exact h.symm)⟩
        case round =>
          clear xa xb
          obtain ⟨d, u, hd, rfl, rfl, HU⟩ := hrel
          by_cases hdn : d < n
          · have i6 : (0 : Int) ≤ (d : Int) := by omega
            have i7 : (d : Int) < (n : Int) := by omega
            have za := GA.out d hdn
            have zb := GB.out d hdn
            have zc := GC.out d hdn
            have hid : I d = (mat M a d && mat M b d) := by rw [HI.out]
            obtain ⟨x1, hx1⟩ : ∃ x, x = mat M a d := ⟨_, rfl⟩
            obtain ⟨y1, hy1⟩ : ∃ x, x = mat M b d := ⟨_, rfl⟩
            obtain ⟨z1, hz1⟩ : ∃ x, x = mat M c d := ⟨_, rfl⟩
            rw [← hx1] at za
            rw [← hy1] at zb
            rw [← hz1] at zc
            rw [← hx1, ← hy1] at hid
            have HID := hide hid
            have HZ := hide hz1
            clear hx1 hy1 hz1 hid
            cases x1 with
            | false =>
              have HS := hide (bestTo_yes (M := mat M) (c := c) (.inl (by rw [HID.out]; rfl : I d = false)))
              go_wp2_with fail
              go_round
              case rel => exact ⟨d + 1, u, by omega, by go_num, rfl, by rw [HS.out]; exact HU.out⟩
              case measure => simp [intOf]; omega
            | true =>
              cases y1 with
              | false =>
                have HS := hide (bestTo_yes (M := mat M) (c := c) (.inl (by rw [HID.out]; rfl : I d = false)))
                go_wp2_with fail
                go_round
                case rel => exact ⟨d + 1, u, by omega, by go_num, rfl, by rw [HS.out]; exact HU.out⟩
                case measure => simp [intOf]; omega
              | true =>
                cases z1 with
                | true =>
                  have HS := hide (bestTo_yes (I := I) (M := mat M) (c := c) (.inr HZ.out.symm))
                  go_wp2_with fail
                  go_round
                  case rel => exact ⟨d + 1, u, by omega, by go_num, rfl, by rw [HS.out]; exact HU.out⟩
                  case measure => simp [intOf]; omega
                | false =>
                  have HS := hide (bestTo_no (M := mat M) (c := c) (by rw [HID.out]; rfl : I d = true) HZ.out.symm)
                  go_wp2_with fail
                  go_round
                  case rel => exact ⟨d + 1, false, by omega, by go_num, rfl, HS.out.symm⟩
                  case measure => simp [intOf]; omega
          · obtain rfl : d = n := by omega
            cases u with
            | true =>
              have HJ := hide (LatM.bestL_first hcn (show LatM.isBest d I (mat M) c = true from HU.out.symm) HA.out)
              go_wp2_with fail
              go_ret
              exact ⟨ret_int HJ.out.symm, rfl⟩
            | false =>
              have HB := hide (below_step HA.out (show LatM.isBest d I (mat M) c = false from HU.out.symm))
              clear HA
              go_wp2_with fail
              go_round
              case rel => exact ⟨c + 1, by omega, by go_num, HB⟩
              case measure => simp [intOf]; omega
    · obtain rfl : c = n := by omega
      have hm := LatM.bestL_miss HA.out
      have HM := hide hm
      clear hm
      go_wp2_with fail
      go_ret
      exact ⟨ret_int HM.out.symm, rfl⟩

/-- What is at most what, the other way round. -/
def turnM (M : List (List Bool)) : List (List Bool) := (List.range M.length).map fun a => (List.range M.length).map fun b => mat M b a
theorem turnM_length (M : List (List Bool)) : (turnM M).length = M.length := by simp [turnM]
theorem turnM_sq (M : List (List Bool)) : ∀ r ∈ turnM M, r.length = (turnM M).length := by
  intro r hr
  rw [turnM_length]
  unfold turnM at hr
  obtain ⟨a, _, rfl⟩ := List.mem_map.1 hr
  simp
theorem mat_turn {M : List (List Bool)} {a b : Nat} (ha : a < M.length) (hb : b < M.length) : mat (turnM M) a b = mat M b a := by
  unfold turnM
  have e : ∀ (F : Nat → Nat → Bool), mat ((List.range M.length).map fun a => (List.range M.length).map fun b => F a b) a b = F a b := fun F => by
    unfold mat
    simp [List.getD_eq_getElem?_getD, ha, hb]
  exact e fun a b => mat M b a
theorem bestL_congr {n : Nat} {I J : Nat → Bool} {M N : Nat → Nat → Bool} (hI : ∀ c, c < n → I c = J c) (hM : ∀ c d, c < n → d < n → M c d = N c d) : LatM.bestL n I M = LatM.bestL n J N := by
  unfold LatM.bestL
  have : (List.range n).find? (LatM.isBest n I M) = (List.range n).find? (LatM.isBest n J N) := by
    refine find_congr fun c hc => ?_
    have hc' := List.mem_range.1 hc
    unfold LatM.isBest
    rw [hI c hc']
    congr 1
    rw [Bool.eq_iff_iff, List.all_eq_true, List.all_eq_true]
    constructor
    · intro h d hd
      have hd' := List.mem_range.1 hd
      rw [← hI d hd', ← hM c d hc' hd']; exact h d hd
    · intro h d hd
      have hd' := List.mem_range.1 hd
      rw [hI d hd', hM c d hc' hd']; exact h d hd
  rw [this]
theorem joinL_congr {n : Nat} {M N : Nat → Nat → Bool} {a b : Nat} (ha : a < n) (hb : b < n) (h : ∀ c d, c < n → d < n → M c d = N c d) : LatM.joinL n M a b = LatM.joinL n N a b :=
  bestL_congr (fun c hc => by rw [h a c ha hc, h b c hb hc]) h
theorem join_turn {M : List (List Bool)} {a b : Nat} (ha : a < M.length) (hb : b < M.length) : LatM.joinL M.length (mat (turnM M)) a b = LatM.joinL M.length (fun x y => mat M y x) a b :=
  joinL_congr ha hb fun c d hc hd => mat_turn hc hd

/-- The rows of the turned matrix so far. -/
def turnRow (M : List (List Bool)) (a : Nat) : List Bool := (List.range M.length).map fun b => mat M b a
def TurnRel (W : World) (M : List (List Bool)) (n a : Nat) (A : Option Addr) (c : Nat) (w : World) : Prop :=
  ∃ vs : List Value, vs.length = a ∧ w.ownsRow W.heap.size 45 1 (.slice A a c) a vs ∧ (∀ (k : Nat) (v : Value), vs[k]? = some v → OwnBools W.heap.size n w v (turnRow M k)) ∧ Ext W w
theorem TurnRel.next {W : World} {M : List (List Bool)} {n a : Nat} {A : Option Addr} {c : Nat} {w w2 w3 : World} {A' : Option Addr} {c' : Nat} {o : Obj} {vs : List Value}
    (hv : vs.length = a) (ho : w.ownsRow W.heap.size 45 1 (.slice A a c) a vs) (hrow : ∀ (k : Nat) (v : Value), vs[k]? = some v → OwnBools W.heap.size n w v (turnRow M k)) (hE : Ext W w)
    (hr : RowRel w n w.heap.size (turnRow M a) w2)
    (hown : w3.ownsRow W.heap.size 45 1 (.slice A' (a + 1) c') (a + 1) (vs ++ [.slice (some ⟨w.heap.size, 0, none⟩) n n]))
    (hg : (w2.alloc o).grownBy w3 (Value.ownBlock (.slice A a c))) : TurnRel W M n (a + 1) A' c' w3 := by
  obtain ⟨r1, r2, r3⟩ := hr
  have hbw : ∀ g, Value.ownBlock (.slice A a c) = some g → W.heap.size ≤ g ∧ g < w.heap.size := fun g h => ho.lt g h
  have hE3 : Ext W w3 := ((Below.trans hE (r3.mono hE.size)).alloc (Nat.le_trans hE.size r3.size) o).grown hg (by have := hE.size; have := r3.size; simp; omega) (fun g h => (hbw g h).1)
  have ho2 : (w2.alloc o).ownsRow W.heap.size 45 1 (.slice A a c) a vs := (own_ext ho r3).alloc o
  refine ⟨_, by simp [hv], hown, fun k v hk => ?_, hE3⟩
  by_cases h : k < a
  · rw [List.getElem?_append_left (by omega)] at hk
    obtain ⟨hl, hs, h2⟩ := hrow k v hk
    have h2' := (own_ext h2 r3).alloc o
    exact ⟨hl, hs, h2'.kept hg (own_ne h2' ho2 (by decide))⟩
  · have hk' : k = a := by
      have := (List.getElem?_eq_some_iff.1 hk).1
      simp [hv] at this
      omega
    subst hk'
    rw [List.getElem?_append_right (by omega)] at hk
    simp [hv] at hk
    subst hk
    have r1' := (own_more r1 hE.size).alloc o
    exact ⟨r2, ⟨_, _, rfl⟩, r1'.kept hg (own_ne r1' ho2 (by decide))⟩
/-- A row as far as it is written. -/
def halfRow (M : List (List Bool)) (a k n : Nat) : List Bool := (List.range n).map fun b => if b < k then mat M b a else false
theorem halfRow_length (M : List (List Bool)) (a k n : Nat) : (halfRow M a k n).length = n := by simp [halfRow]
theorem halfRow_zero (M : List (List Bool)) (a n : Nat) : List.replicate n false = halfRow M a 0 n := by
  unfold halfRow
  apply List.ext_getElem
  · simp
  · intro i h1 h2; simp
theorem halfRow_step {M : List (List Bool)} {a k n : Nat} (hk : k < n) : (halfRow M a k n).set k (mat M k a) = halfRow M a (k + 1) n := by
  apply List.ext_getElem
  · simp [halfRow]
  · intro i h1 h2
    simp only [halfRow, List.getElem_set, List.getElem_map, List.getElem_range]
    by_cases e : k = i
    · subst e; rw [if_pos rfl, if_pos (by omega)]
    · rw [if_neg e]
      by_cases h : i < k
      · rw [if_pos h, if_pos (by omega)]
      · rw [if_neg h, if_neg (by omega)]
theorem halfRow_end {M : List (List Bool)} {a n : Nat} (hn : n = M.length) : halfRow M a n n = turnRow M a := by
  subst hn
  unfold halfRow turnRow
  apply List.map_congr_left
  intro b hb
  rw [if_pos (List.mem_range.1 hb)]

def TurnPost (M : List (List Bool)) (w : World) (e : Ending) (w' : World) : Prop := ∃ A c, e = .returned (.slice A M.length c) ∧ MatAt w' w'.heap.size A (turnM M) ∧ Ext w w'
set_option maxRecDepth 100000 in
set_option maxHeartbeats 2000000 in
theorem refTurn_any (A : Option Addr) (cp n : Nat) (M : List (List Bool)) (w : World) (h : MatAt w w.heap.size A M) (hsq : ∀ r ∈ M, r.length = M.length) (hn : n = M.length) (hl : n ≤ 64) :
    Calls Tryz.prog 70 #[.slice A n cp] w (TurnPost M w) := by
  obtain ⟨i0, hi, hz0, hz1, hz2⟩ := info_parts info_bool
  obtain ⟨j0, gi, gz0, gz1, gz2⟩ := info_parts info_bools
  have HN := hide hn
  have HF := hide (fun (hp : 0 < n) => h.form hsq (by rw [← hn]; exact hp))
  clear hn h hsq
  go_enter Tryz.func70, Tryz.ntmps70
  go_wp2_with fail
  go_loopw [4, 3] (fun i v wr => ∃ a A c, a ≤ n ∧ i = .int .i64 (a : Nat) ∧ v = .slice A a c ∧ Hid (TurnRel w M n a A c wr)) (fun i _ _ => n - (intOf i).toNat)
  case atStart => exact ⟨0, none, 0, Nat.zero_le _, rfl, rfl, hide ⟨[], rfl, World.ownsRow_nil _ _ _ _, fun k v hv => by simp at hv, Ext.rfl' _⟩⟩
  case round =>
    obtain ⟨a, Ao, co, ha, rfl, rfl, HL⟩ := hrel
    by_cases hlt : a < n
    · obtain ⟨wo, rfl⟩ : ∃ wo : World, wo = wr := ⟨_, rfl⟩
      obtain ⟨b0, o0, rfl, hb0, hrow⟩ := HF.out (by omega)
      have HROW := hide hrow
      clear hrow
      go_wp2_with (at_make; refine wpList_make_full _ rfl _ _ 45 rfl wo.heap.size 4 i0 (.bool false) 1 Tryz.underlying45 hi hz0 hz1 _ _ _ _ n rfl rfl rfl rfl ?c1 ?c2 (Nat.le_refl _) ?_)
      case c1 => first | omega | (rw [hz2]; omega)
      case c2 => unfold maxLen; omega
      intro w1 hown hgrow
      have hR0 : RowRel wo n wo.heap.size (halfRow M a 0 n) w1 := by
        rw [← halfRow_zero]
        exact ⟨by simpa [toList_madeCells_one] using hown, by simp, ext_of_grown hgrow⟩
      have HR0 := hide hR0
      clear hR0 hown hgrow
      obtain ⟨g, hg⟩ : ∃ g, g = wo.heap.size := ⟨_, rfl⟩
      rw [← hg] at HR0 ⊢
      have HG := hide hg
      clear hg
      go_wp2_with fail
      go_loopw [6] (fun i wk => ∃ k : Nat, k ≤ n ∧ i = .int .i64 k ∧ Hid (RowRel wo n g (halfRow M a k n) wk)) (fun i _ => n - (intOf i).toNat)
      case atStart => exact ⟨0, Nat.zero_le _, rfl, HR0⟩
      case round =>
        clear HR0
        obtain ⟨k, hk, rfl, HR⟩ := hrel
        by_cases hkn : k < n
        · obtain ⟨bk, ok, ck, fk, hbk, gk⟩ := HROW.out k (by rw [← HN.out]; exact hkn)
          have hgk := gk a (by rw [← HN.out]; exact hlt)
          rw [← HN.out] at fk
          have hext : Ext w wo := HL.out.choose_spec.2.2.2
          have hs1 := hext.size
          have hgw : g = wo.heap.size := HG.out
          have hE2 : Below w.heap.size w wr := hext.trans (HR.out.2.2.mono (by omega))
          have p1 := (hE2.cell (p := ⟨b0, o0 + k, none⟩) hb0).trans fk
          have p2 := (hE2.cell (p := ⟨bk, ok + a, none⟩) hbk).trans hgk
          have hcy := HR.out.cell k hkn
          have hfy := HR.out.free k
          obtain ⟨x, hx⟩ : ∃ x, x = mat M k a := ⟨_, rfl⟩
          rw [← hx] at p2
          have hst := halfRow_step (M := M) (a := a) hkn
          rw [← hx] at hst
          have HST := hide hst
          clear hx hst gk hgk fk hbk hext hE2 hs1 hgw
          have i1 : (0 : Int) ≤ (k : Int) := by omega
          have i2 : (0 : Int) ≤ (a : Int) := by omega
          have i3 : (k : Int) < (n : Int) := by omega
          have i4 : (a : Int) < (n : Int) := by omega
          go_wp2_with fail
          go_roundw
          case rel => exact ⟨k + 1, by omega, by go_num, by rw [← HST.out]; exact hide (HR.out.set k x)⟩
          case measure => simp [intOf]; omega
        · obtain rfl : k = n := by omega
          have hown := HL.out
          obtain ⟨vs, hvs, hown, hrow, hE⟩ := hown
          have HROW2 := hide hrow
          have HOWN := hide hown
          have HEE := hide hE
          have HVS := hide hvs
          clear hrow hvs
          have hgE : g = wo.heap.size := HG.out
          have hown2 := own_below (w' := wr) hown HR.out.2.2 (fun g' hg' => by rw [hgE]; exact (hown.lt g' hg').2)
          have HO2 := hide hown2
          have hbase : w.heap.size ≤ wr.heap.size := Nat.le_trans hE.size (by have := HR.out.2.2.size; omega)
          clear hown hown2 hgE hE
          go_wp2_with (at_builtin; refine wpList_append_sl _ rfl _ _ 38 rfl w.heap.size 45 j0 (.slice none 0 0) 1 24 Tryz.underlying38 gi gz0 gz1 gz2 rfl (by decide) _ a vs rfl (HO2.out.alloc _) (wr.heap.size + 1) (some ⟨wr.heap.size, 0, none⟩) 1 1 [.slice (some ⟨g, 0, none⟩) k k] rfl (reads_new _ _ _) ?d0 ?d1 ?d2 ?d3 ?_)
          case d0 => intro u hu; simp at hu; subst hu; rfl
          case d1 => unfold maxLen; omega
          case d2 => omega
          case d3 => simp; omega
          intro A' c' w3 hown3 hgrow3 hat
          rw [HG.out] at hown3
          have hRR := HR.out
          rw [HG.out, halfRow_end HN.out] at hRR
          have HLN := hide (TurnRel.next HVS.out HOWN.out HROW2.out HEE.out hRR hown3 hgrow3)
          clear hRR hown3 hgrow3 hat
          go_wp2_with fail
          go_roundw
          case rel => exact ⟨a + 1, A', c', by omega, by go_num, rfl, HLN⟩
          case measure => simp [intOf]; omega
    · obtain rfl : a = n := by omega
      go_wp2_with fail
      go_ret
      obtain ⟨vs, hvs, hown, hrow, hE⟩ := HL.out
      refine ⟨Ao, co, by rw [← HN.out]; rfl, ⟨vs, by rw [turnM_length, ← HN.out]; exact hvs, by rw [turnM_length, ← HN.out]; exact Reads.of_own hown, fun k v r hv hr => ?_⟩, hE⟩
      have := (hrow k v hv).at_
      simp only [turnM, List.getElem?_map, Option.map_eq_some_iff] at hr
      obtain ⟨q, hq, rfl⟩ := hr
      rw [List.getElem?_range] at hq
      · simp at hq; subst hq; exact this
      · have := (List.getElem?_eq_some_iff.1 hv).1; have := HN.out; omega
end Go.Proofs.YtpjlhpaenmfieaaGreat
