/- sort.Slice at ranges, by where they begin. -/
import Derived.Test.YtkfepdejiedjbaaRngP
import Derived.Test.YtkfepdejiedjbaaSrtL
import Derived.Shelf.GgSortFunc.Tiny
namespace Go.Proofs.Ytkfepdejiedjbaa
open Go.RowKit Go.Shelf Go.Lib Go.Sort

noncomputable def srT : TypeInfo := (Try.prog.info? 47).get (by kernel_rfl)
noncomputable def srE : TypeInfo := (Try.prog.info? 85).get (by kernel_rfl)
theorem srK (n : Nat) (h2 : 2 ≤ n) : Lib.swapperK n srE 25 = 5 := by
  have a : srE.hasPointers = false := by kernel_rfl
  have b : srE.bytes = 8 := by kernel_rfl
  have c : (n == 0) = false := by simp; omega
  have d : (n == 1) = false := by simp; omega
  simp [Lib.swapperK, a, b, c, d]

/-- A range's two cells. -/
def encR (p : Int × Int) : List Value := [i32v p.1, i32v p.2]
def ltR (a b : Int × Int) : Bool := decide (a.1 < b.1)
theorem swo_ltR : SWO ltR where
  irrefl := fun x => by simp [ltR]
  trans := fun x y z h1 h2 => by simp [ltR] at *; omega
  ntrans := fun x y z h1 h2 => by simp [ltR] at *; omega

set_option maxHeartbeats 2000000 in
theorem lessR_any (blk off c Bs size : Nat) (W : World) (G : Nat → Int) (hs : W.cell? ⟨Bs, 0, none⟩ = some (.slice (some ⟨blk, off, none⟩) size c))
    (hc : ∀ t, t < size → W.cell? ⟨blk, off + t * 2, none⟩ = some (.int .i32 (G t))) (i j : Nat) (hi : i < size) (hj : j < size) (_hsz : size < 4611686018427387904) :
    Calls Try.prog 78 #[.int .i64 i, .int .i64 j, .pointer (some ⟨Bs, 0, none⟩)] W fun e w' => e = .returned (.bool (decide (G i < G j))) ∧ ∃ q, w' = W.drewN q := by
  have ci := hc i hi
  have cj := hc j hj
  go_enter Try.func78, Try.ntmps78
  go_wp2
  go_quiet (fail)
  go_wp2
  go_ret
  exact ⟨rfl, nq, rfl⟩

theorem grownBy_sortedR {w : World} {g n : Nat} {os : Array Obj} (d : Array (Int × Int)) : w.grownBy (grow (putRowK encR 2 (Sort.ahead w n) g 0 d) os) (some g) := by
  refine ⟨rfl, rfl, rfl, ?_, fun k hk hne => ?_⟩
  · simp [grow, putRowK]
  · have hne' : g ≠ k := fun e => hne (by rw [e])
    have h1 : (grow (putRowK encR 2 (Sort.ahead w n) g 0 d) os).heap[k]? = (putRowK encR 2 (Sort.ahead w n) g 0 d).heap[k]? := by
      simp only [grow]
      rw [Array.getElem?_append_left]
      simpa [putRowK] using hk
    rw [h1]
    simp [putRowK, putRow, mapBlock, Sort.ahead, Array.getElem?_modify, hne']

/-- What sort.Slice leaves: the same ranges, sorted by where they begin, in the same cells; nothing else turned. -/
def SortPost (g _c : Nat) (l : List (Int × Int)) (w : World) (e : Ending) (w' : World) : Prop :=
  e = .returned (.tuple #[]) ∧ ∃ l', l'.Perm l ∧ sortedLo l' ∧ RngAt w' w'.heap.size (some ⟨g, 0, none⟩) l' ∧ w.grownBy w' (some g)

theorem sortedLo_of {l : List (Int × Int)} (h : ∀ i j (hi : i < j) (hj : j < l.length), l[i].1 ≤ l[j].1) : sortedLo l := by
  induction l with
  | nil => trivial
  | cons p l ih =>
    refine ⟨fun q hq => ?_, ih fun i j hij hj => ?_⟩
    · obtain ⟨k, hk, rfl⟩ := List.getElem_of_mem hq
      exact h 0 (k + 1) (by omega) (by simpa using hk)
    · exact h (i + 1) (j + 1) (by omega) (by simpa using hj)

theorem rngCells_at (l : List (Int × Int)) (k : Nat) (hk : k < l.length) (c : Nat) (hc : c < 2) : (rngCells l)[k * 2 + c]? = some (encR l[k])[c]! := by
  have := rngCells_get l k hk
  match c, hc with
  | 0, _ => simpa [encR] using this.1
  | 1, _ => simpa [encR] using this.2

theorem holdsR {w : World} {g : Nat} {l : List (Int × Int)} (h : ∀ j u, (rngCells l)[j]? = some u → w.cell? ⟨g, j, none⟩ = some u) (hf : ∀ j, w.frozen? ⟨g, j, none⟩ = false) : HoldsK encR 2 w g 0 l.toArray := by
  intro j hj
  rw [size_flatK] at hj
  refine ⟨?_, by rw [Nat.zero_add]; exact hf j⟩
  rw [get_flatK _ _ _ _ hj, Nat.zero_add]
  have hk : j / 2 < l.length := by simp at hj; omega
  have := rngCells_at l (j / 2) hk (j % 2) (by omega)
  rw [show j / 2 * 2 + j % 2 = j by omega] at this
  rw [h j _ this]
  congr 2
  simp [hk]

theorem reads_holdsR {w : World} {g : Nat} {d : Array (Int × Int)} (h : HoldsK encR 2 w g 0 d) (hg : g < w.heap.size) : RngAt w w.heap.size (some ⟨g, 0, none⟩) d.toList := by
  refine ⟨rngCells_length _, fun _ => ⟨_, rfl, hg, fun j u hu => ?_⟩⟩
  have e : (⟨g, 0, none⟩ : Addr).add j = ⟨g, j, none⟩ := by unfold Addr.add; split <;> simp_all
  rw [e]
  have hj : j < d.size * 2 := by
    have := (List.getElem?_eq_some_iff.1 hu).1
    rw [rngCells_length] at this
    simpa using this
  have hk : j / 2 < d.toList.length := by simp; omega
  have h1 := rngCells_at d.toList (j / 2) hk (j % 2) (by omega)
  rw [show j / 2 * 2 + j % 2 = j by omega, hu] at h1
  have h2 := (HoldsK.cell h (i := j / 2) (c := j % 2) (by simpa using hk) (by omega)).1
  rw [show 0 + j / 2 * 2 + j % 2 = j by omega] at h2
  rw [h2, h1]
  congr 2
  have : j / 2 < d.size := by simpa using hk
  simp [this]

theorem sortR_any (g c Bs : Nat) (l : List (Int × Int)) (w : World) (hc : ∀ j u, (rngCells l)[j]? = some u → w.cell? ⟨g, j, none⟩ = some u) (hf : ∀ j, w.frozen? ⟨g, j, none⟩ = false) (hg : g < w.heap.size) (hsz : l.length < 4611686018427387904)
    (hBs : w.cell? ⟨Bs, 0, none⟩ = some (.slice (some ⟨g, 0, none⟩) l.length c)) (hB1 : Bs < w.heap.size) (hB2 : Bs ≠ g) :
    Calls Try.prog 77 #[.iface 47 (.slice (some ⟨g, 0, none⟩) l.length c), .func (.func 78) #[] #[.pointer (some ⟨Bs, 0, none⟩)]] w (SortPost g c l w) := by
  have hH := holdsR hc hf
  by_cases h2 : 2 ≤ l.length
  · have hless : LessReadsK Try.prog 78 #[.pointer (some ⟨Bs, 0, none⟩)] encR 2 ltR g 0 l.toArray.size w := by
      intro m os dk hs i j hi hj
      have e : sortWorldK encR 2 w g 0 m dk os = putRowK encR 2 (grow (Sort.ahead w m) os) g 0 dk := by
        unfold sortWorldK; rw [putRowK_grow _ _ (Sort.ahead w m) _ g 0 _ hg]
      have hHg : HoldsK encR 2 (grow (Sort.ahead w m) os) g 0 l.toArray := holdsK_grow _ _ _ _ g 0 _ hg (holdsK_ahead _ _ _ _ _ _ _ hH)
      refine lessR_any g 0 c Bs l.length _ (fun t => dk[t]!.1) ?_ (fun t ht => ?_) i j (by simpa using hi) (by simpa using hj) hsz
      · rw [e, cell?_putRowK_other _ _ _ g 0 dk _ (by exact hB2), cell?_grow _ _ _ (by exact hB1)]; exact hBs
      · rw [e]; exact ((holdsK_putRowK _ _ _ g 0 _ dk hHg hs).cell (i := t) (c := 0) (by rw [hs]; simpa using ht) (by omega)).1
    have h := Any.sort_Slice_cells_sorted Try.sl6 47 85 srT srE (by kernel_rfl) (by kernel_rfl) (by kernel_rfl) (by kernel_rfl) 25 (fun _ => by kernel_rfl) encR 2 (fun _ => rfl) (by kernel_rfl) (fun _ => by kernel_rfl)
      (fun x v hv => by simp [encR] at hv; rcases hv with rfl | rfl <;> rfl) ltR swo_ltR 78 _
      (enters_of Try.func78 (by kernel_rfl) rfl) g 0 c l.toArray (by simpa using h2) (by simpa using hsz) 98 (by rw [srK _ (by simpa using h2)]; kernel_rfl) true
      (fun args W => run_callFunc_extern Try.func98 (by kernel_rfl) (by kernel_rfl) (by kernel_rfl) (e := Extern.ReflectliteSwapper.swap true) (by kernel_rfl) args W) w hless hH hg
    rw [List.size_toArray] at h
    refine h.mono ?_
    rintro e w' ⟨rfl, d', n, os, hp, hs, rfl⟩
    obtain ⟨hp1, _, hp3⟩ := hp
    have hd : d'.size = l.length := by simpa using hp1
    rw [show d'.extract 0 l.length = d' by rw [← hd]; exact Array.extract_size ..] at hp3
    refine ⟨rfl, d'.toList, by simpa using hp3, sortedLo_of fun i j hij hj => ?_, ?_, grownBy_sortedR d'⟩
    · have := hs i j (Nat.zero_le _) hij (by simp at hj; omega)
      simp [ltR] at this hj
      have hi' : i < d'.size := by omega
      simpa [hi', hj] using this
    · refine reads_holdsR ?_ ?_
      · exact holdsK_grow _ _ _ _ g 0 _ (by simpa [putRowK] using hg) (holdsK_putRowK _ _ _ g 0 _ d' (holdsK_ahead _ _ _ _ _ _ _ hH) hp1)
      · simp [grow, putRowK]; omega
  · have hk : ∃ f, Try.prog.funcs.findIdx? (·.name == "internal/reflectlite" ++ ".Swapper$" ++ toString (Lib.swapperK l.length srE 25)) = some f := by
      have : l.length = 0 ∨ l.length = 1 := by omega
      rcases this with h | h <;> rw [h]
      · exact ⟨94, by kernel_rfl⟩
      · exact ⟨95, by kernel_rfl⟩
    obtain ⟨f, hf'⟩ := hk
    have h := Any.sort_Slice_tiny Try.sl6 47 85 srT srE (by kernel_rfl) (by kernel_rfl) (by kernel_rfl) (by kernel_rfl) 25 (fun _ => by kernel_rfl)
      (some ⟨g, 0, none⟩) l.length c (by omega) f hf' (.func 78) #[] #[.pointer (some ⟨Bs, 0, none⟩)] w
    refine h.mono ?_
    rintro e w' ⟨rfl, os, rfl⟩
    have hsl : sortedLo l := sortedLo_of fun i j hij hj => absurd hj (by omega)
    refine ⟨rfl, l, List.Perm.refl _, hsl, ?_, ⟨rfl, rfl, rfl, by simp [grow], fun k hk _ => ?_⟩⟩
    · have := reads_holdsR (holdsK_grow encR 2 w os g 0 _ hg hH) (by simp [grow]; omega)
      simpa using this
    · simp only [grow]
      rw [Array.getElem?_append_left hk]

end Go.Proofs.Ytkfepdejiedjbaa
