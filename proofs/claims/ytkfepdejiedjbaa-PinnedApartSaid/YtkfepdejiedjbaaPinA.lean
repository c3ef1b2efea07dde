/- Ranges of runes in memory; the two searches of layers 2 and 3: in, Has. -/
import Derived.Test.YtkfepdejiedjbaaRows
import Derived.Test.YtkfepdejiedjbaaBase
namespace Go.Proofs.Ytkfepdejiedjbaa
open Go.RowKit

abbrev i32v (n : Int) : Value := .int .i32 n
def rngCells (l : List (Int × Int)) : List Value := l.flatMap fun p => [i32v p.1, i32v p.2]

theorem rngCells_length (l : List (Int × Int)) : (rngCells l).length = l.length * 2 := by
  induction l with
  | nil => rfl
  | cons p l ih => simp only [rngCells, List.flatMap_cons, List.length_append] at ih ⊢; rw [ih]; simp; omega

theorem rngCells_get (l : List (Int × Int)) (k : Nat) (hk : k < l.length) : (rngCells l)[k * 2]? = some (i32v l[k].1) ∧ (rngCells l)[k * 2 + 1]? = some (i32v l[k].2) := by
  induction l generalizing k with
  | nil => simp at hk
  | cons p l ih =>
    cases k with
    | zero => exact ⟨rfl, rfl⟩
    | succ k =>
      have := ih k (by simpa using hk)
      simp only [rngCells, List.flatMap_cons] at this ⊢
      rw [show (k + 1) * 2 = k * 2 + 1 + 1 by omega]
      simpa using this

/-- The ranges that a slice holds. -/
def RngAt (w : World) (B : Nat) (A : Option Addr) (l : List (Int × Int)) : Prop := Reads w B 2 A l.length (rngCells l)

theorem RngAt.cell {w : World} {B : Nat} {A : Option Addr} {l : List (Int × Int)} (h : RngAt w B A l) (hn : 0 < l.length) :
    ∃ b o, A = some ⟨b, o, none⟩ ∧ b < B ∧ ∀ k (hk : k < l.length), w.cell? ⟨b, o + k * 2, none⟩ = some (i32v l[k].1) ∧ w.cell? ⟨b, o + k * 2 + 1, none⟩ = some (i32v l[k].2) := by
  obtain ⟨b, o, e, hb, hc⟩ := h.form hn (by omega)
  exact ⟨b, o, e, hb, fun k hk => ⟨hc _ _ (rngCells_get l k hk).1, hc _ _ (rngCells_get l k hk).2⟩⟩

theorem RngAt.ext {w w' : World} {A : Option Addr} {l : List (Int × Int)} (h : RngAt w w.heap.size A l) (hE : Ext w w') : RngAt w' w'.heap.size A l :=
  (Reads.keep h fun _p hp => hE.cell hp).more hE.size

theorem reads_lit (w : World) (t : TypeId) (cs : Array Value) (l : List (Int × Int)) {n : Nat} (h : cs.toList = rngCells l) (_hn : l.length = n) : RngAt (w.alloc (.cells cs t)) (w.alloc (.cells cs t)).heap.size (some ⟨w.heap.size, 0, none⟩) l := by
  refine ⟨rngCells_length l, fun _ => ⟨_, rfl, by simp, fun j u hu => ?_⟩⟩
  have e : (⟨w.heap.size, 0, none⟩ : Addr).add j = ⟨w.heap.size, j, none⟩ := by unfold Addr.add; split <;> simp_all
  rw [e, World.cell?_alloc_new]
  rw [← h] at hu
  simpa using hu

def TabPost (l : List (Int × Int)) (w : World) (e : Ending) (w' : World) : Prop :=
  ∃ g, e = .returned (.slice (some ⟨g, 0, none⟩) l.length l.length) ∧ RngAt w' w'.heap.size (some ⟨g, 0, none⟩) l ∧ Ext w w'

/-- Does one of some ranges hold a rune? -/
def inT (l : List (Int × Int)) (r : Int) : Bool := l.any fun p => decide (p.1 ≤ r ∧ r ≤ p.2)
def hasT (l : List (Int × Int)) (r : Int) : Bool := decide (0 ≤ r ∧ r ≤ 1114111) && inT l r

theorem inT_yes {l : List (Int × Int)} {r : Int} (k : Nat) (hk : k < l.length) (h1 : l[k].1 ≤ r) (h2 : r ≤ l[k].2) : inT l r = true := by
  unfold inT
  rw [List.any_eq_true]
  exact ⟨_, List.getElem_mem hk, by simp [h1, h2]⟩
theorem inT_no {l : List (Int × Int)} {r : Int} (h : ∀ k (hk : k < l.length), r < l[k].1 ∨ l[k].2 < r) : inT l r = false := by
  unfold inT
  rw [List.any_eq_false]
  intro p hp
  obtain ⟨k, hk, rfl⟩ := List.getElem_of_mem hp
  have := h k hk
  simp
  omega

set_option maxRecDepth 100000 in
set_option maxHeartbeats 1000000 in
theorem refHas_any (A : Option Addr) (c : Nat) (l : List (Int × Int)) (r : Int) (w : World) (h : RngAt w w.heap.size A l) (hl : l.length ≤ 9223372036854775807) :
    Calls Try.prog 42 #[.slice A l.length c, .int .i32 r] w (fun e w' => e = .returned (.bool (hasT l r)) ∧ w = w') := by
  go_enter Try.func42, Try.ntmps42
  go_wp2
  go_loop [5] (fun i => ∃ k : Nat, k ≤ l.length ∧ i = .int .i64 k ∧ ∀ j (hj : j < l.length), j < k → (0 ≤ r ∧ r ≤ 1114111 → r < l[j].1 ∨ l[j].2 < r)) (fun i => l.length - (intOf i).toNat)
  case atStart => exact ⟨0, Nat.zero_le _, rfl, fun j _ hj => absurd hj (by omega)⟩
  case round =>
    obtain ⟨k, hk, rfl, hall⟩ := hrel
    have HA := hide hall
    clear hall
    by_cases hlt : k < l.length
    · obtain ⟨b, o, rfl, _, hcell⟩ := h.cell (by omega)
      obtain ⟨hp1, hp2⟩ := hcell k hlt
      obtain ⟨lo, hlo⟩ : ∃ lo, lo = l[k].1 := ⟨_, rfl⟩
      obtain ⟨hi, hhi⟩ : ∃ hi, hi = l[k].2 := ⟨_, rfl⟩
      rw [← hlo] at hp1
      rw [← hhi] at hp2
      have HLO := hide hlo
      have HHI := hide hhi
      have HNX := hide (fun (hx : 0 ≤ r ∧ r ≤ 1114111 → r < lo ∨ hi < r) j (hj : j < l.length) (hjk : j < k + 1) => (by
        by_cases e : j = k
        · subst e; rw [← HLO.out, ← HHI.out]; exact hx
        · exact HA.out j hj (by omega) : (0 ≤ r ∧ r ≤ 1114111 → r < l[j].1 ∨ l[j].2 < r)))
      clear hcell hlo hhi
      by_cases h0 : 0 ≤ r
      · by_cases h1 : r ≤ 1114111
        · by_cases h2 : lo ≤ r
          · by_cases h3 : r ≤ hi
            · go_wp2
              go_ret
              refine ⟨ret_bool ?_, rfl⟩
              unfold hasT
              rw [inT_yes k hlt (by rw [← HLO.out]; exact h2) (by rw [← HHI.out]; exact h3)]
              simp [h0, h1]
            · go_wp2
              go_round
              case rel => exact ⟨k + 1, by omega, by go_num, HNX.out (by omega)⟩
              case measure => simp [intOf]; omega
          · go_wp2
            go_round
            case rel => exact ⟨k + 1, by omega, by go_num, HNX.out (by omega)⟩
            case measure => simp [intOf]; omega
        · go_wp2
          go_round
          case rel => exact ⟨k + 1, by omega, by go_num, HNX.out (by omega)⟩
          case measure => simp [intOf]; omega
      · go_wp2
        go_round
        case rel => exact ⟨k + 1, by omega, by go_num, HNX.out (by omega)⟩
        case measure => simp [intOf]; omega
    · obtain rfl : k = l.length := by omega
      go_wp2
      go_ret
      refine ⟨ret_bool ?_, rfl⟩
      unfold hasT
      by_cases h0 : 0 ≤ r ∧ r ≤ 1114111
      · rw [inT_no (fun j hj => HA.out j hj hj h0), Bool.and_false]
      · simp; omega

/-- Ranges that rise: each ends ahead of the next one. -/
def rises : List (Int × Int) → Bool
  | [] => true
  | [p] => decide (p.1 ≤ p.2)
  | p :: q :: l => decide (p.1 ≤ p.2 ∧ p.2 < q.1) && rises (q :: l)

theorem rises_one {l : List (Int × Int)} (h : rises l = true) : ∀ k (hk : k < l.length), l[k].1 ≤ l[k].2 := by
  induction l with
  | nil => intro k hk; simp at hk
  | cons p l ih =>
    intro k hk
    cases l with
    | nil =>
      have : k = 0 := by simp at hk; omega
      subst this
      simpa [rises] using h
    | cons q l =>
      simp only [rises, Bool.and_eq_true, decide_eq_true_eq] at h
      cases k with
      | zero => exact h.1.1
      | succ k => exact ih h.2 k (by simpa using hk)

theorem rises_next {l : List (Int × Int)} (h : rises l = true) : ∀ k (hk : k + 1 < l.length), l[k].2 < l[k + 1].1 := by
  induction l with
  | nil => intro k hk; simp at hk
  | cons p l ih =>
    intro k hk
    cases l with
    | nil => simp at hk
    | cons q l =>
      simp only [rises, Bool.and_eq_true, decide_eq_true_eq] at h
      cases k with
      | zero => exact h.1.2
      | succ k => exact ih h.2 k (by simpa using hk)

theorem rises_lt {l : List (Int × Int)} (h : rises l = true) (j : Nat) : ∀ (i : Nat) (hij : i < j) (hj : j < l.length), l[i].2 < l[j].1 := by
  induction j with
  | zero => intro i hij; omega
  | succ j ih =>
    intro i hij hj
    have hn := rises_next h j hj
    by_cases e : i = j
    · subst e; exact hn
    · have := ih i (by omega) (by omega)
      have := rises_one h j (by omega)
      omega

set_option maxRecDepth 100000 in
set_option maxHeartbeats 1000000 in
theorem pinIn_any (A : Option Addr) (c : Nat) (l : List (Int × Int)) (r : Int) (w : World) (h : RngAt w w.heap.size A l) (hl : l.length ≤ 1000000) (hr : rises l = true) :
    Calls Try.prog 70 #[.slice A l.length c, .int .i32 r] w (fun e w' => e = .returned (.bool (inT l r)) ∧ w = w') := by
  have HR := hide hr
  clear hr
  go_enter Try.func70, Try.ntmps70
  go_wp2
  go_loop [5, 6] (fun lo hi => ∃ a b : Nat, lo = .int .i64 a ∧ hi = .int .i64 b ∧ a ≤ b ∧ b ≤ l.length ∧ (∀ j (hj : j < l.length), j < a → l[j].2 < r) ∧ (∀ j (hj : j < l.length), b ≤ j → r < l[j].1)) (fun lo hi => (intOf hi - intOf lo).toNat)
  case atStart => exact ⟨0, l.length, rfl, rfl, Nat.zero_le _, Nat.le_refl _, fun j _ hj => absurd hj (by omega), fun j hj h => absurd hj (by omega)⟩
  case round =>
    obtain ⟨a, b, rfl, rfl, hab, hbl, hlo, hhi⟩ := hrel
    have HLO := hide hlo
    have HHI := hide hhi
    clear hlo hhi
    by_cases hlt : a < b
    · obtain ⟨bb, o, rfl, _, hcell⟩ := h.cell (by omega)
      have hm : a + (b - a) / 2 < l.length := by omega
      obtain ⟨m, hmm⟩ : ∃ m, m = a + (b - a) / 2 := ⟨_, rfl⟩
      have hm1 : m < b := by omega
      have hm2 : a ≤ m := by omega
      have hml : m < l.length := by omega
      obtain ⟨hp1, hp2⟩ := hcell m hml
      have he : (a : Int) + ((b : Int) - a) / 2 = (m : Int) := by omega
      have he2 : a + (b - a) / 2 = m := hmm.symm
      have HM := hide hmm
      clear hmm hcell hm
      obtain ⟨p1, hp1'⟩ : ∃ p1, p1 = l[m].1 := ⟨_, rfl⟩
      obtain ⟨p2, hp2'⟩ : ∃ p2, p2 = l[m].2 := ⟨_, rfl⟩
      rw [← hp1'] at hp1
      rw [← hp2'] at hp2
      have HP1 := hide hp1'
      have HP2 := hide hp2'
      clear hp1' hp2'
      by_cases c1 : r < p1
      · go_wp2
        go_round
        case rel =>
          refine ⟨a, m, rfl, rfl, hm2, by omega, HLO.out, fun j hj hmj => ?_⟩
          by_cases e : j = m
          · subst e; rw [← HP1.out]; exact c1
          · have := rises_lt HR.out j m (by omega) hj
            have := rises_one HR.out m hml
            rw [← HP1.out] at this
            omega
        case measure => simp [intOf]; omega
      · by_cases c2 : p2 < r
        · go_wp2
          go_round
          case rel =>
            refine ⟨m + 1, b, by go_num, rfl, by omega, hbl, fun j hj hmj => ?_, HHI.out⟩
            by_cases e : j = m
            · subst e; rw [← HP2.out]; exact c2
            · have h1 := rises_lt HR.out m j (by omega) hml
              have h2 := rises_one HR.out m hml
              rw [← HP1.out] at h1 h2
              omega
          case measure => simp [intOf]; omega
        · go_wp2
          go_ret
          exact ⟨ret_bool (Eq.symm (inT_yes m hml (by rw [← HP1.out]; omega) (by rw [← HP2.out]; omega))), rfl⟩
    · obtain rfl : a = b := by omega
      go_wp2
      go_ret
      refine ⟨ret_bool (Eq.symm (inT_no fun k hk => ?_)), rfl⟩
      by_cases e : k < a
      · exact .inr (HLO.out k hk e)
      · exact .inl (HHI.out k hk (by omega))

end Go.Proofs.Ytkfepdejiedjbaa
