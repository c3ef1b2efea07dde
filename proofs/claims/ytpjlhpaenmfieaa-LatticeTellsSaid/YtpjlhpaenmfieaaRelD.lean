/- The method Close of package rel. -/
import Derived.Test.YtpjlhpaenmfieaaRelC
namespace Go.Proofs.Ytpjlhpaenmfieaa
open Go.RowKit

theorem info_u64 : (Try.prog.info? 123).map (fun i => (i.zero, i.size, i.bytes)) = some (some (.int .u64 0), 1, 8) := by kernel_rfl

theorem u64v_one (rs : List Nat) : ∀ u ∈ rs.map u64v, u.oneCell' = true := by
  intro u hu
  obtain ⟨r, _, rfl⟩ := List.mem_map.1 hu
  rfl

/-- What the closure's loops keep: the new relation's block, its rows' own block, and all that was there. -/
def CloseRel (W : World) (bo g c n : Nat) (rs : List Nat) (w : World) : Prop :=
  Blk w bo 122 #[.slice (some ⟨g, 0, none⟩) n c] ∧ w.ownsRow W.heap.size 123 1 (.slice (some ⟨g, 0, none⟩) n c) n (rs.map u64v) ∧ Below W.heap.size W w ∧ W.heap.size ≤ bo ∧ bo ≠ g ∧ rs.length = n ∧ ∀ r ∈ rs, r < 18446744073709551616

theorem CloseRel.facts {W : World} {bo g c n : Nat} {rs : List Nat} {w : World} (h : CloseRel W bo g c n rs w) :
    w.cell? ⟨bo, 0, none⟩ = some (.slice (some ⟨g, 0, none⟩) n c) ∧ (∀ j, j < n → w.cell? ⟨g, j, none⟩ = some (u64v (rs.getD j 0))) ∧ (∀ j, w.frozen? ⟨g, j, none⟩ = false) := by
  obtain ⟨h1, h2, _, _, _, hl, _⟩ := h
  refine ⟨by simpa using h1.cell 0, fun j hj => ?_, fun j => h2.frozenAt j⟩
  rw [h2.cellAt j (by omega)]
  simp [List.getD, hl, hj]

theorem CloseRel.store {W : World} {bo g c n : Nat} {rs : List Nat} {w : World} (h : CloseRel W bo g c n rs w) (j r : Nat) (hr : r < 18446744073709551616) :
    CloseRel W bo g c n (rs.set j r) (w.setCell ⟨g, j, none⟩ (u64v r)).drew := by
  obtain ⟨h1, h2, h3, h4, h5, h6, h7⟩ := h
  have hs := h2.stored j (u64v r)
  have hg : W.heap.size ≤ g := (h2.lt g rfl).1
  refine ⟨(h1.far (p := ⟨g, j, none⟩) h5 _), ?_, (h3.setCell (by exact hg) _).drew, h4, h5, by simp [h6], fun x hx => ?_⟩
  · have := hs.1
    rw [← List.map_set] at this
    exact this
  · rcases List.mem_or_eq_of_mem_set hx with hx | hx
    · exact h7 x hx
    · rw [hx]; exact hr

theorem or_lt {x y : Nat} (hx : x < 18446744073709551616) (hy : y < 64) : x ||| 1 <<< y < 18446744073709551616 := by
  have h2 : 1 <<< y < 2 ^ 64 := by rw [Nat.one_shiftLeft]; exact Nat.pow_lt_pow_right (by omega) hy
  exact Nat.or_lt_two_pow (n := 64) hx h2
theorem or_u64 (p q : Nat) (hp : p < 18446744073709551616) (hq : q < 18446744073709551616) : bits .or .u64 (p : Int) (q : Int) = ((p ||| q : Nat) : Int) := u64_or_nat p q hp hq

theorem close_step {W : World} {bo g c n : Nat} {rs : List Nat} {w : World} (k j : Nat) (h : CloseRel W bo g c n (RelM.innerTo k rs j) w) :
    (((RelM.innerTo k rs j).getD j 0).testBit k = true → CloseRel W bo g c n (RelM.innerTo k rs (j + 1)) (w.setCell ⟨g, j, none⟩ (.int .u64 (((RelM.innerTo k rs j).getD j 0 ||| (RelM.innerTo k rs j).getD k 0 : Nat) : Int))).drew) ∧
    (((RelM.innerTo k rs j).getD j 0).testBit k = false → CloseRel W bo g c n (RelM.innerTo k rs (j + 1)) w) := by
  have hh := fun j => getD_lt (B := 18446744073709551616) h.2.2.2.2.2.2 (by omega) (n := j)
  constructor
  · intro hb
    have := h.store j ((RelM.innerTo k rs j).getD j 0 ||| (RelM.innerTo k rs j).getD k 0) (Nat.or_lt_two_pow (n := 64) (hh j) (hh k))
    simp only [RelM.innerTo, RelM.bit, hb, if_true]
    exact this
  · intro hb
    simp only [RelM.innerTo, RelM.bit, hb]
    exact h

theorem lt_getD {rs : List Nat} (h : ∀ r ∈ rs, r < 18446744073709551616) (j : Nat) : rs.getD j 0 < 18446744073709551616 := getD_lt h (by omega)

set_option maxRecDepth 100000 in
set_option maxHeartbeats 1000000 in
theorem relClose_any (b : Nat) (rs : List Nat) (w : World) (h : RelAt w b rs) :
    Calls Try.prog 50 #[.pointer (some ⟨b, 0, none⟩)] w fun e w' => ∃ bo, e = .returned (.pointer (some ⟨bo, 0, none⟩)) ∧ RelAt w' bo (RelM.close rs) ∧ Ext w w' := by
  obtain ⟨A, c, hb, ho, hl, hr⟩ := h
  have hc := hb.cell 0
  simp at hc
  obtain ⟨i0, hi, hz0, hz1, hz2⟩ := info_parts info_u64
  have HR := hide hr
  have hrd := Reads.of_own ho
  clear hr hb
  by_cases hn : rs.length = 0
  · obtain rfl : rs = [] := List.eq_nil_of_length_eq_zero hn
    go_enter Try.func50, Try.ntmps50
    go_wp2_with (at_builtin; refine wpList_append_sl _ rfl _ _ 120 rfl w.heap.size 123 i0 (.int .u64 0) 1 8 Try.underlying120 hi hz0 hz1 hz2 rfl (by decide) _ 0 [] rfl (World.ownsRow_nil _ _ _ _) w.heap.size A 0 c [] rfl hrd ?c0 ?c1 ?c2 ?c3 ?_)
    case c0 => intro u hu; cases hu
    case c1 => unfold maxLen; omega
    case c2 => omega
    case c3 => exact Nat.le_refl _
    intro A' c' w1 hown hgrow hat
    try simp only [Nat.zero_add, List.nil_append] at hown
    have HO := hide hown
    clear hown hat hrd ho hc
    go_wp2
    go_loop [20] (fun i => i = .int .i64 0) (fun _ => 0)
    case atStart => rfl
    case round =>
      subst hrel
      go_wp2
      go_ret
      exact ⟨w1.heap.size, rfl, ⟨A', c', Blk.new _ _ _, (own_more HO.out (Nat.zero_le _)).alloc _, by simp [RelM.close, RelM.closeTo], fun r hr => by cases hr⟩, (ext_of_grown hgrow).alloc hgrow.size _⟩
  · go_enter Try.func50, Try.ntmps50
    go_wp2_with (at_builtin; refine wpList_append_sl _ rfl _ _ 120 rfl w.heap.size 123 i0 (.int .u64 0) 1 8 Try.underlying120 hi hz0 hz1 hz2 rfl (by decide) _ 0 [] rfl (World.ownsRow_nil _ _ _ _) w.heap.size A rs.length c (rs.map u64v) rfl hrd (u64v_one rs) ?c1 ?c2 ?c3 ?_)
    case c1 => unfold maxLen; omega
    case c2 => omega
    case c3 => exact Nat.le_refl _
    intro A' c' w1 hown hgrow hat
    try simp only [Nat.zero_add, List.nil_append] at hown
    obtain ⟨g, rfl, hg, _, _⟩ := own_cell hown (by omega)
    have hglt : g < w1.heap.size := (hown.lt g rfl).2
    have hC0 : CloseRel w w1.heap.size g c' rs.length rs (w1.alloc (.cells #[.slice (some ⟨g, 0, none⟩) rs.length c'] 122)) :=
      ⟨Blk.new _ _ _, hown.alloc _, (ext_of_grown hgrow).alloc hgrow.size _, hgrow.size, by omega, rfl, HR.out⟩
    go_wp2
    clear hown hgrow hat hrd ho hc
    go_loopw [20] (fun i wr => ∃ k : Nat, k ≤ rs.length ∧ i = .int .i64 k ∧ CloseRel w w1.heap.size g c' rs.length (RelM.closeTo rs k) wr) (fun i _ => rs.length - (intOf i).toNat)
    case atStart => exact ⟨0, Nat.zero_le _, rfl, hC0⟩
    case round =>
      obtain ⟨k, hk, rfl, hC⟩ := hrel
      by_cases hlt : k < rs.length
      · have hF := hC.facts
        obtain ⟨f0, f1, f2⟩ := hF
        have f1k := f1 k hlt
        have f2k := f2 k
        have hrlt := lt_getD hC.2.2.2.2.2.2 k
        obtain ⟨r, hr⟩ : ∃ r, r = (RelM.closeTo rs k).getD k 0 := ⟨_, rfl⟩
        rw [← hr] at f1k hrlt
        have HS := hide hC
        have Hr := hide hr
        clear f1 f2 hC hr
        go_wp2
        go_region
        rw [or_shl r k hrlt (by omega)]
        have hC1 : CloseRel w w1.heap.size g c' rs.length ((RelM.closeTo rs k).set k (r ||| 1 <<< k)) ((wr.setCell ⟨g, k, none⟩ (.int .u64 ((r ||| 1 <<< k : Nat) : Int))).drew) :=
          HS.out.store k _ (or_lt hrlt (by omega))
        rw [Hr.out] at hC1
        obtain ⟨wo, hwo⟩ : ∃ wo, wo = (wr.setCell ⟨g, k, none⟩ (.int .u64 ((r ||| 1 <<< k : Nat) : Int))).drew := ⟨_, rfl⟩
        rw [← Hr.out, ← hwo] at hC1
        rw [← hwo]
        clear hwo f0 f1k f2k HS
        have f0 := hC1.facts.1
        go_wp2
        go_loopw [39] (fun i wi => ∃ j : Nat, j ≤ rs.length ∧ i = .int .i64 j ∧ CloseRel w w1.heap.size g c' rs.length (RelM.innerTo k ((RelM.closeTo rs k).set k (r ||| 1 <<< k)) j) wi) (fun i _ => rs.length - (intOf i).toNat)
        case atStart => exact ⟨0, Nat.zero_le _, rfl, hC1⟩
        case round =>
          clear hC1 f0
          obtain ⟨j, hj, rfl, hC⟩ := hrel
          by_cases hjlt : j < rs.length
          · have hF := hC.facts
            obtain ⟨f0, f1, f2⟩ := hF
            have f1k := f1 k hlt
            have f1j := f1 j hjlt
            have f2j := f2 j
            have hklt := lt_getD hC.2.2.2.2.2.2 k
            have hjl := lt_getD hC.2.2.2.2.2.2 j
            have hS := close_step k j hC
            obtain ⟨q, hq⟩ : ∃ q, q = (RelM.innerTo k ((RelM.closeTo rs k).set k (r ||| 1 <<< k)) j).getD k 0 := ⟨_, rfl⟩
            obtain ⟨p, hp⟩ : ∃ p, p = (RelM.innerTo k ((RelM.closeTo rs k).set k (r ||| 1 <<< k)) j).getD j 0 := ⟨_, rfl⟩
            rw [← hq] at f1k hklt hS
            rw [← hp] at f1j hjl hS
            have HS := hide hS
            have hb0 := fun m => shr_bit p m hjl
            have hor := or_u64 p q hjl hklt
            clear f1 f2 hC hq hp hS
            go_wp2
            · go_region
              go_wp2
              go_roundw
              case rel => exact ⟨j + 1, by omega, by go_num, HS.out.1 (by assumption)⟩
              case measure => simp [intOf]; omega
            · go_roundw
              case rel => exact ⟨j + 1, by omega, by go_num, HS.out.2 (by assumption)⟩
              case measure => simp [intOf]; omega
          · obtain rfl : j = rs.length := by omega
            have HS := hide hC
            clear hC
            go_wp2
            go_roundw
            case rel =>
              refine ⟨k + 1, by omega, by go_num, ?_⟩
              have := HS.out
              rw [Hr.out] at this
              exact this
            case measure => simp [intOf]; omega
      · obtain rfl : k = rs.length := by omega
        have HS := hide hC
        clear hC
        go_wp2
        go_ret
        have hC := HS.out
        obtain ⟨h1, h2, h3, _, _, h6, h7⟩ := hC
        refine ⟨w1.heap.size, rfl, ⟨some ⟨g, 0, none⟩, c', ?_, ?_, ?_, h7⟩, h3⟩
        · rw [RelM.close_length]; exact h1
        · rw [RelM.close_length]; exact own_more h2 (Nat.zero_le _)
        · rw [RelM.close_length]; exact hl

end Go.Proofs.Ytpjlhpaenmfieaa
