/- names.New of no texts; of any. -/
import Derived.Test.YtanpljalbijfkaaNamN
namespace Go.Proofs.Ytanpljalbijfkaa
open Go.RowKit Go.Shelf Go.Lib Go.Sort

set_option maxRecDepth 100000 in
set_option maxHeartbeats 2000000 in
theorem tabNew_zero (A : Option Addr) (c : Nat) (w : World) :
    Calls Try.prog 51 #[.slice A 0 c] w (NewTPost [] w) := by
  obtain ⟨i0, hi, hz0, hz1, hz2⟩ := info_int
  go_enter Try.func51, Try.ntmps51
  go_wp2_with (at_builtin; refine wpList_append_Ss _ rfl _ _ rfl w.heap.size _ 0 [] rfl w.heap.size A 0 c [] rfl (World.ownsRow_nil _ _ _ _) ⟨rfl, fun h => absurd h (by omega)⟩ (by omega) (Nat.le_refl _) ?_)
  intro A1 c1 w1 hown hgrow _
  have HE1 := hide (ext_of_grown hgrow)
  clear hown hgrow
  go_wp2_with (at_make; refine wpList_make_full _ rfl _ _ 75 rfl w1.heap.size 3 i0 (.int .i64 0) 1 Try.underlying75 hi hz0 hz1 _ _ _ _ 0 rfl rfl rfl rfl ?c1 ?c2 (by simp; omega) ?_)
  case c1 => rw [hz2]; omega
  case c2 => unfold maxLen; omega
  intro w2 hown2 hgrow2
  have hE2 := ext_of_grown hgrow2
  have hX1 : Ext w1 w2 := Ext.trans' (((Ext.rfl' w1).alloc (Nat.le_refl _) _).alloc (by simp) _) hE2
  have HT := hide (((Blk.new w1 77 #[.slice A1 0 c1, .slice none 0 0]).alloc (.cells #[.pointer (some ⟨w1.heap.size, 0, none⟩)] 71)).ext hE2)
  have HV := hide ((Blk.new_at' (g := w1.heap.size + 1) (w1.alloc (.cells #[.slice A1 0 c1, .slice none 0 0] 77)) 71 #[.pointer (some ⟨w1.heap.size, 0, none⟩)] (by simp)).ext hE2)
  have HX := hide hX1
  have hown2g := (hown2.lt (w1.heap.size + 1 + 1) rfl).2
  clear hown2 hgrow2 hE2 hX1
  have HG := hide (hown2g)
  have HA := hide (Blk.new w2 75 #[.slice (some ⟨w1.heap.size + 1 + 1, 0, none⟩) 0 0])
  have HXA := hide ((Ext.rfl' w2).alloc (Nat.le_refl _) (.cells #[.slice (some ⟨w1.heap.size + 1 + 1, 0, none⟩) 0 0] 75))
  go_wp2_with fail
  obtain ⟨w3, hw3⟩ : ∃ w3, w3 = w2.alloc (.cells #[.slice (some ⟨w1.heap.size + 1 + 1, 0, none⟩) 0 0] 75) := ⟨_, rfl⟩
  rw [← hw3] at HA HXA ⊢
  clear hw3
  go_loopw [17] (fun i wr => i = .int .i64 0 ∧ w3 = wr) (fun _ _ => 0)
  case atStart => exact ⟨rfl, rfl⟩
  case round =>
    obtain ⟨rfl, rfl⟩ := hrel
    have a0 := HA.out.cell 0
    simp only [List.getElem?_toArray, List.getElem?_cons_zero] at a0
    have HS := hide (Any.sort_Slice_tiny Try.sl6 75 3 snT snE (by kernel_rfl) (by kernel_rfl) (by kernel_rfl) (by kernel_rfl) 2 (fun _ => by kernel_rfl)
      (some ⟨w1.heap.size + 1 + 1, 0, none⟩) 0 0 (by omega) 62 (by kernel_rfl) (.func 54) #[] #[.pointer (some ⟨w2.heap.size, 0, none⟩), .pointer (some ⟨w1.heap.size + 1, 0, none⟩)] w3)
    go_wp2_with fail
    refine HS.out.mono ?_
    rintro e w4 ⟨rfl, os, rfl⟩
    have hE4 : Ext w3 (grow w3 os) := ⟨rfl, rfl, rfl, by simp [grow], fun k hk => by simp only [grow]; rw [Array.getElem?_append_left hk]⟩
    obtain ⟨w4, hw4⟩ : ∃ w4, w4 = grow w3 os := ⟨_, rfl⟩
    rw [← hw4] at hE4 ⊢
    have a1 := (HA.out.ext hE4).cell 0
    have v1 := ((HV.out.ext HXA.out).ext hE4).cell 0
    simp only [List.getElem?_toArray, List.getElem?_cons_zero] at a1 v1
    have HT4 := hide ((HT.out.ext HXA.out).ext hE4)
    have HE4 := hide (((HE1.out.trans' HX.out).trans' HXA.out).trans' hE4)
    clear hw4 hE4 a0 HS
    go_wp2_with fail
    go_loopw [31] (fun i wr => i = .int .i64 0 ∧ w4 = wr) (fun _ _ => 0)
    case atStart => exact ⟨rfl, rfl⟩
    case round =>
      obtain ⟨rfl, rfl⟩ := hrel
      go_wp2_with fail
      go_ret
      exact ⟨w1.heap.size, rfl, ⟨A1, c1, none, 0, [], HT4.out, ⟨rfl, fun h => absurd h (by simp)⟩, ⟨rfl, fun h => absurd h (by simp)⟩, ⟨by simp, List.Pairwise.nil, fun q hq => by simp at hq, Nat.le_refl _⟩, by simp⟩, HE4.out⟩

theorem tabNew_any (A : Option Addr) (c n : Nat) (l : List ByteArray) (w : World) (h : StrAt w w.heap.size A l) (hln : n = l.length) (hn : n ≤ 1000000) :
    Calls Try.prog 51 #[.slice A n c] w (NewTPost l w) := by
  rcases Nat.eq_zero_or_pos n with h0 | h0
  · subst h0
    obtain rfl : l = [] := List.length_eq_zero_iff.1 hln.symm
    exact tabNew_zero A c w
  · exact tabNew_pos A c n l w h hln.symm h0 hn
end Go.Proofs.Ytanpljalbijfkaa
