/- The document's function of layer 10: Leads. -/
import Derived.Test.YtpjlhpaenmfieaaRelE
namespace Go.Proofs.Ytpjlhpaenmfieaa
open Go.RowKit

def BoolPost (b : Bool) (w : World) (e : Ending) (w' : World) : Prop := e = .returned (.bool b) ∧ Ext w w'

/-- A value that is a slice of these Bools. -/
def BoolsAt (w : World) (B : Nat) (v : Value) (r : List Bool) : Prop := ∃ A c, v = .slice A r.length c ∧ Reads w B 1 A r.length (r.map Value.bool)
/-- A slice of slices of Bools. -/
def MatAt (w : World) (B : Nat) (A : Option Addr) (M : List (List Bool)) : Prop :=
  ∃ vs : List Value, vs.length = M.length ∧ Reads w B 1 A M.length vs ∧ ∀ (k : Nat) (v : Value) (r : List Bool), vs[k]? = some v → M[k]? = some r → BoolsAt w B v r

theorem BoolsAt.below {w w' : World} {B B' : Nat} {v : Value} {r : List Bool} (h : BoolsAt w B v r) (hb : Below B w w') (hB : B ≤ B') : BoolsAt w' B' v r := by
  obtain ⟨A, c, e, hr⟩ := h
  exact ⟨A, c, e, (hr.keep fun p hp => hb.cell hp).more hB⟩
theorem MatAt.below {w w' : World} {B B' : Nat} {A : Option Addr} {M : List (List Bool)} (h : MatAt w B A M) (hb : Below B w w') (hB : B ≤ B') : MatAt w' B' A M := by
  obtain ⟨vs, h1, h2, h3⟩ := h
  exact ⟨vs, h1, (h2.keep fun p hp => hb.cell hp).more hB, fun k v r hv hr => (h3 k v r hv hr).below hb hB⟩

def natP (ps : List (Int × Int)) : List (Nat × Nat) := ps.map fun p => (p.1.toNat, p.2.toNat)
def leadRow (n : Nat) (ps : List (Int × Int)) (a : Nat) : List Bool := RelM.relaxN (natP ps) (RelM.start n a) n
def leads (n : Nat) (ps : List (Int × Int)) : List (List Bool) := (List.range n).map (leadRow n ps)

theorem info_bool : (Try.prog.info? 4).map (fun i => (i.zero, i.size, i.bytes)) = some (some (.bool false), 1, 1) := by kernel_rfl
theorem info_bools : (Try.prog.info? 46).map (fun i => (i.zero, i.size, i.bytes)) = some (some (.slice none 0 0), 1, 24) := by kernel_rfl

def OwnBools (base n : Nat) (w : World) (v : Value) (r : List Bool) : Prop := r.length = n ∧ (∃ A c, v = .slice A n c) ∧ w.ownsRow base 4 1 v n (r.map Value.bool)
theorem OwnBools.at_ {base n : Nat} {w : World} {v : Value} {r : List Bool} (h : OwnBools base n w v r) : BoolsAt w w.heap.size v r := by
  obtain ⟨hl, ⟨A, c, rfl⟩, h2⟩ := h
  exact ⟨A, c, by rw [hl], by rw [hl]; exact Reads.of_own h2⟩

/-- What the rows so far are: the outer loop of Leads. -/
def LeadsRel (W : World) (n : Nat) (ps : List (Int × Int)) (a : Nat) (A : Option Addr) (c : Nat) (w : World) : Prop :=
  ∃ vs : List Value, vs.length = a ∧ w.ownsRow W.heap.size 46 1 (.slice A a c) a vs ∧ (∀ (k : Nat) (v : Value), vs[k]? = some v → OwnBools W.heap.size n w v (leadRow n ps k)) ∧ Ext W w

/-- What the row under work is. -/
def RowRel (W0 : World) (n g : Nat) (r : List Bool) (w : World) : Prop :=
  w.ownsRow g 4 1 (.slice (some ⟨g, 0, none⟩) n n) n (r.map Value.bool) ∧ r.length = n ∧ Below g W0 w

theorem RowRel.cell {W0 : World} {n g : Nat} {r : List Bool} {w : World} (h : RowRel W0 n g r w) (x : Nat) (hx : x < n) : w.cell? ⟨g, x, none⟩ = some (.bool (r.getD x false)) := by
  obtain ⟨h1, h2, _⟩ := h
  rw [h1.cellAt x (by omega)]
  simp [List.getD, h2, hx]
theorem RowRel.free {W0 : World} {n g : Nat} {r : List Bool} {w : World} (h : RowRel W0 n g r w) (x : Nat) : w.frozen? ⟨g, x, none⟩ = false := h.1.frozenAt x
theorem RowRel.set {W0 : World} {n g : Nat} {r : List Bool} {w : World} (h : RowRel W0 n g r w) (x : Nat) (t : Bool) : RowRel W0 n g (r.set x t) (w.setCell ⟨g, x, none⟩ (.bool t)) := by
  obtain ⟨h1, h2, h3⟩ := h
  refine ⟨?_, by simp [h2], h3.setCell (Nat.le_refl _) _⟩
  have := (h1.stored x (.bool t)).1
  rwa [← List.map_set] at this

def relaxTo (ps : List (Nat × Nat)) (r : List Bool) (i : Nat) : List Bool := RelM.relax (ps.take i) r
theorem relaxTo_all (ps : List (Nat × Nat)) (r : List Bool) (i : Nat) (h : ps.length ≤ i) : relaxTo ps r i = RelM.relax ps r := by
  unfold relaxTo
  rw [List.take_of_length_le h]
theorem relaxTo_step (ps : List (Nat × Nat)) (r : List Bool) (i x y : Nat) (h : ps[i]? = some (x, y)) :
    relaxTo ps r (i + 1) = if (relaxTo ps r i).getD x false then (relaxTo ps r i).set y true else relaxTo ps r i := by
  unfold relaxTo RelM.relax
  rw [List.take_add_one, h, List.foldl_append]
  rfl
theorem natP_at {ps : List (Int × Int)} {i x y : Nat} (hi : i < ps.length) (h : ps[i] = ((x : Int), (y : Int))) : (natP ps)[i]? = some (x, y) := by
  simp [natP, hi, h]
theorem okPs_at {n : Nat} {ps : List (Int × Int)} (h : okPs n ps = true) (i : Nat) (hi : i < ps.length) : ∃ x y : Nat, ps[i] = ((x : Int), (y : Int)) ∧ x < n ∧ y < n := by
  unfold okPs at h
  rw [List.all_eq_true] at h
  have := h _ (List.getElem_mem hi)
  obtain ⟨x, y, hxy⟩ : ∃ x y, ps[i] = (x, y) := ⟨_, _, rfl⟩
  rw [hxy] at this ⊢
  simp [okP] at this
  obtain ⟨x, rfl⟩ := Int.eq_ofNat_of_zero_le this.1
  obtain ⟨y, rfl⟩ := Int.eq_ofNat_of_zero_le this.2.2.1
  exact ⟨x, y, rfl, by omega, by omega⟩

theorem LeadsRel.next {W : World} {n : Nat} {ps : List (Int × Int)} {a : Nat} {A : Option Addr} {c : Nat} {w w2 w3 : World} {A' : Option Addr} {c' : Nat} {o : Obj} {vs : List Value}
    (hv : vs.length = a) (ho : w.ownsRow W.heap.size 46 1 (.slice A a c) a vs) (hrow : ∀ (k : Nat) (v : Value), vs[k]? = some v → OwnBools W.heap.size n w v (leadRow n ps k)) (hE : Ext W w)
    (hr : RowRel w n w.heap.size (leadRow n ps a) w2)
    (hown : w3.ownsRow W.heap.size 46 1 (.slice A' (a + 1) c') (a + 1) (vs ++ [.slice (some ⟨w.heap.size, 0, none⟩) n n]))
    (hg : (w2.alloc o).grownBy w3 (Value.ownBlock (.slice A a c))) : LeadsRel W n ps (a + 1) A' c' w3 := by
  obtain ⟨r1, r2, r3⟩ := hr
  have hbw : ∀ g, Value.ownBlock (.slice A a c) = some g → W.heap.size ≤ g ∧ g < w.heap.size := fun g h => ho.lt g h
  have hE3 : Ext W w3 := ((Below.trans hE (r3.mono hE.size)).alloc (Nat.le_trans hE.size r3.size) o).grown hg (by have := hE.size; have := r3.size; simp; omega) (fun g h => (hbw g h).1)
  have ho2 : (w2.alloc o).ownsRow W.heap.size 46 1 (.slice A a c) a vs := (own_ext ho r3).alloc o
  refine ⟨_, by simp [hv], hown, fun k v hk => ?_, hE3⟩
  by_cases h : k < a
  · rw [List.getElem?_append_left (by omega)] at hk
    obtain ⟨hl, hs, h2⟩ := hrow k v hk
    have h2' := (own_ext h2 r3).alloc o
    exact ⟨hl, hs, h2'.kept hg (own_ne h2' ho2 (by decide))⟩
  · have hk' : k = a := by
      have := (List.getElem?_eq_some_iff.1 hk).1
      simp [hv] at this
      omega
    subst hk'
    rw [List.getElem?_append_right (by omega)] at hk
    simp [hv] at hk
    subst hk
    have r1' := (own_more r1 hE.size).alloc o
    exact ⟨r2, ⟨_, _, rfl⟩, r1'.kept hg (own_ne r1' ho2 (by decide))⟩

set_option maxRecDepth 100000 in
set_option maxHeartbeats 1000000 in
theorem refLeads_any (n : Nat) (hn : n ≤ 64) (A : Option Addr) (c : Nat) (ps : List (Int × Int)) (w : World) (h : PairsAt w w.heap.size A ps) (hl : ps.length ≤ 9223372036854775807) (hok : okPs n ps = true) :
    Calls Try.prog 56 #[.int .i64 n, .slice A ps.length c] w (fun e w' => ∃ A' c', e = .returned (.slice A' (leads n ps).length c') ∧ MatAt w' w'.heap.size A' (leads n ps) ∧ Ext w w') := by
  obtain ⟨i0, hi, hz0, hz1, hz2⟩ := info_parts info_bool
  obtain ⟨j0, gi, gz0, gz1, gz2⟩ := info_parts info_bools
  have HOK := hide hok
  clear hok
  go_enter Try.func56, Try.ntmps56
  go_wp2
  go_loopw [6, 5] (fun i v wr => ∃ a A c, a ≤ n ∧ i = .int .i64 (a : Nat) ∧ v = .slice A a c ∧ LeadsRel w n ps a A c wr) (fun i _ _ => n - (intOf i).toNat)
  case atStart => exact ⟨0, none, 0, Nat.zero_le _, rfl, rfl, [], rfl, World.ownsRow_nil _ _ _ _, fun k v hv => by simp at hv, Ext.rfl' _⟩
  case round =>
    obtain ⟨a, Ao, co, ha, rfl, rfl, hL⟩ := hrel
    have HL := hide hL
    clear hL
    by_cases hlt : a < n
    · obtain ⟨wo, rfl⟩ : ∃ wo : World, wo = wr := ⟨_, rfl⟩
      go_wp2_with (at_make; refine wpList_make_full _ rfl _ _ 46 rfl wo.heap.size 4 i0 (.bool false) 1 Try.underlying46 hi hz0 hz1 _ _ _ _ n rfl rfl rfl rfl ?c1 ?c2 (Nat.le_refl _) ?_)
      case c1 => first | omega | (rw [hz2]; omega)
      case c2 => unfold maxLen; omega
      intro w1 hown hgrow
      have hR0 : RowRel wo n wo.heap.size (List.replicate n false) w1 := ⟨by simpa [toList_madeCells_one] using hown, by simp, ext_of_grown hgrow⟩
      have hc1 := hR0.cell a (by omega)
      have hf1 := hR0.free a
      have HR0 := hide hR0
      clear hR0 hown hgrow
      obtain ⟨g, hg⟩ : ∃ g, g = wo.heap.size := ⟨_, rfl⟩
      rw [← hg] at hc1 hf1 HR0 ⊢
      have HG := hide hg
      clear hg
      go_wp2
      have hR1 : RowRel wo n g (RelM.start n a) (w1.setCell ⟨g, a, none⟩ (.bool true)) := HR0.out.set a true
      obtain ⟨w2, hw2⟩ : ∃ w2, w2 = w1.setCell ⟨g, a, none⟩ (.bool true) := ⟨_, rfl⟩
      rw [← hw2] at hR1 ⊢
      clear hw2 hc1 hf1
      go_loopw [8] (fun i wk => ∃ k : Nat, k ≤ n ∧ i = .int .i64 k ∧ RowRel wo n g (RelM.relaxN (natP ps) (RelM.start n a) k) wk) (fun i _ => n - (intOf i).toNat)
      case atStart => exact ⟨0, Nat.zero_le _, rfl, hR1⟩
      case round =>
        clear hR1
        obtain ⟨k, hk, rfl, hR⟩ := hrel
        have HR := hide hR
        clear hR
        by_cases hkn : k < n
        · go_wp2
          go_loopw [9] (fun i wi => ∃ i' : Nat, i' ≤ ps.length ∧ i = .int .i64 i' ∧ RowRel wo n g (relaxTo (natP ps) (RelM.relaxN (natP ps) (RelM.start n a) k) i') wi) (fun i _ => ps.length - (intOf i).toNat)
          case atStart => exact ⟨0, Nat.zero_le _, rfl, HR.out⟩
          case round =>
            obtain ⟨i, hi', rfl, hR⟩ := hrel
            have HRi := hide hR
            clear hR
            by_cases hin : i < ps.length
            · obtain ⟨b, o, rfl, hb, hcell⟩ := h.cell (by omega)
              have hp := hcell i hin
              have hbg : b < g := by rw [HG.out]; obtain ⟨_, _, _, _, hE⟩ := HL.out; have := hE.size; omega
              have hpw : ∀ q, wr.cell? ⟨b, q, none⟩ = w.cell? ⟨b, q, none⟩ := fun q => by
                obtain ⟨_, _, _, _, hE⟩ := HL.out
                exact (HRi.out.2.2.cell (p := ⟨b, q, none⟩) hbg).trans (hE.cell (p := ⟨b, q, none⟩) hb)
              have hp1 := (hpw _).trans hp.1
              have hp2 := (hpw _).trans hp.2
              obtain ⟨x, y, hxy, hx, hy⟩ := okPs_at HOK.out i hin
              rw [hxy] at hp1 hp2
              have hst := relaxTo_step (natP ps) (RelM.relaxN (natP ps) (RelM.start n a) k) i x y (natP_at hin hxy)
              have hcx := HRi.out.cell x hx
              have hcy := HRi.out.cell y hy
              have hfy := HRi.out.free y
              obtain ⟨r, hr⟩ : ∃ r, r = relaxTo (natP ps) (RelM.relaxN (natP ps) (RelM.start n a) k) i := ⟨_, rfl⟩
              rw [← hr] at HRi hst hcx hcy
              obtain ⟨bx, hbx⟩ : ∃ bx, bx = r.getD x false := ⟨_, rfl⟩
              obtain ⟨by', hby⟩ : ∃ by', by' = r.getD y false := ⟨_, rfl⟩
              rw [← hbx] at hst hcx
              rw [← hby] at hcy
              have HST := hide hst
              clear hpw hp hcell hxy hr hbx hby hst
              cases bx with
              | true =>
                go_wp2
                go_roundw
                case rel => exact ⟨i + 1, by omega, by go_num, by rw [HST.out]; exact HRi.out.set y true⟩
                case measure => simp [intOf]; omega
              | false =>
                go_wp2
                go_roundw
                case rel => exact ⟨i + 1, by omega, by go_num, by rw [HST.out]; exact HRi.out⟩
                case measure => simp [intOf]; omega
            · obtain rfl : i = ps.length := by omega
              go_wp2
              go_roundw
              case rel =>
                refine ⟨k + 1, by omega, by go_num, ?_⟩
                have := HRi.out
                rw [relaxTo_all _ _ _ (by simp [natP])] at this
                exact this
              case measure => simp [intOf]; omega
        · obtain rfl : k = n := by omega
          have hown := HL.out
          obtain ⟨vs, hvs, hown, hrow, hE⟩ := hown
          have HROW := hide hrow
          have HOWN := hide hown
          have HEE := hide hE
          clear hrow
          have hgE : g = wo.heap.size := HG.out
          have hown2 := own_below (w' := wr) hown HR.out.2.2 (fun g' hg' => by rw [hgE]; exact (hown.lt g' hg').2)
          have HO2 := hide hown2
          have hbase : w.heap.size ≤ wr.heap.size := Nat.le_trans hE.size HR.out.2.2.size
          clear hown hown2 hgE hE
          go_wp2_with (at_builtin; refine wpList_append_sl _ rfl _ _ 38 rfl w.heap.size 46 j0 (.slice none 0 0) 1 24 Try.underlying38 gi gz0 gz1 gz2 rfl (by decide) _ a vs rfl (HO2.out.alloc _) (wr.heap.size + 1) (some ⟨wr.heap.size, 0, none⟩) 1 1 [.slice (some ⟨g, 0, none⟩) k k] rfl (reads_new _ _ _) ?d0 ?d1 ?d2 ?d3 ?_)
          case d0 => intro u hu; simp at hu; subst hu; rfl
          case d1 => unfold maxLen; omega
          case d2 => omega
          case d3 => simp; omega
          intro A' c' w3 hown3 hgrow3 hat
          rw [HG.out] at hown3
          have hRR := HR.out
          rw [HG.out] at hRR
          have HLN := hide (LeadsRel.next hvs HOWN.out HROW.out HEE.out hRR hown3 hgrow3)
          clear hRR
          clear hown3 hgrow3 hat
          go_wp2
          go_roundw
          case rel => exact ⟨a + 1, A', c', by omega, by go_num, rfl, HLN.out⟩
          case measure => simp [intOf]; omega
    · obtain rfl : a = n := by omega
      go_wp2
      go_ret
      obtain ⟨vs, hvs, hown, hrow, hE⟩ := HL.out
      have el : (leads a ps).length = a := by simp [leads]
      rw [el]
      refine ⟨Ao, co, rfl, ⟨vs, by rw [el]; exact hvs, by rw [el]; exact Reads.of_own hown, fun k v r hv hr => ?_⟩, hE⟩
      have := (hrow k v hv).at_
      simp only [leads, List.getElem?_map, Option.map_eq_some_iff] at hr
      obtain ⟨q, hq, rfl⟩ := hr
      rw [List.getElem?_range] at hq
      · simp at hq; subst hq; exact this
      · have := (List.getElem?_eq_some_iff.1 hv).1; omega
end Go.Proofs.Ytpjlhpaenmfieaa
