/- sort.Slice at places of texts, as names.New calls it. -/
import Derived.Test.YtanpljalbijfkaaNamF
import Derived.Test.YtanpljalbijfkaaSrtL
import Derived.Shelf.GgSortFunc.Tiny
import Derived.Shelf.GgSortFunc.Whole
namespace Go.Proofs.Ytanpljalbijfkaa
open Go.RowKit Go.Shelf Go.Lib Go.Sort

set_option maxRecDepth 100000 in
set_option maxHeartbeats 2000000 in
theorem lessN_any (g gl ol c cl Ba Bt gt n : Nat) (l : List ByteArray) (W : World) (G : Nat → Nat) (hln : l.length = n) (hn : n < 4611686018427387904)
    (ha : W.cell? ⟨Ba, 0, none⟩ = some (.slice (some ⟨g, 0, none⟩) n c)) (ht : W.cell? ⟨Bt, 0, none⟩ = some (.pointer (some ⟨gt, 0, none⟩))) (htl : W.cell? ⟨gt, 0, none⟩ = some (.slice (some ⟨gl, ol, none⟩) n cl))
    (hG : ∀ t, t < n → W.cell? ⟨g, t, none⟩ = some (.int .i64 (G t))) (hGl : ∀ t, t < n → G t < n) (hl : ∀ p, p < n → W.cell? ⟨gl, ol + p, none⟩ = some (.string (sAt l p))) (i j : Nat) (hi : i < n) (hj : j < n) :
    Calls Try.prog 54 #[.int .i64 i, .int .i64 j, .pointer (some ⟨Ba, 0, none⟩), .pointer (some ⟨Bt, 0, none⟩)] W fun e w' =>
      e = .returned (.bool (if sAt l (G i) = sAt l (G j) then decide (G i < G j) else bl (sAt l (G i)) (sAt l (G j)))) ∧ ∃ q, w' = W.drewN q := by
  have ci := hG i hi
  have cj := hG j hj
  have si := hl _ (hGl i hi)
  have sj := hl _ (hGl j hj)
  have bi := hGl i hi
  have bj := hGl j hj
  clear hG hGl hl
  generalize G i = a at ci si bi ⊢
  generalize G j = b at cj sj bj ⊢
  generalize sAt l a = x at si ⊢
  generalize sAt l b = y at sj ⊢
  have hxy := str_eq x y
  by_cases e : x = y
  · rw [if_pos e]
    have h1 : (x.toList == y.toList) = true := by rw [hxy]; simpa using e
    have h2 : (!(x.toList == y.toList)) = false := by rw [h1]; rfl
    subst e
    clear hxy h1 h2
    go_enter Try.func54, Try.ntmps54
    go_wp2_with fail
    go_quiet (fail)
    go_wp2_with fail
    go_quiet (fail)
    go_wp2_with fail
    go_ret
    exact ⟨ret_bool (by simp), _, rfl⟩
  · rw [if_neg e]
    have h1 : (x.toList == y.toList) = false := by rw [hxy]; simpa using e
    clear hxy e
    obtain ⟨z, hz⟩ : ∃ z, z = bl x y := ⟨_, rfl⟩
    rw [← hz]
    have hz' : Op.bytesLess x.toList y.toList = z := hz.symm
    clear hz
    go_enter Try.func54, Try.ntmps54
    go_wp2_with fail
    go_quiet (fail)
    go_wp2_with fail
    go_quiet (fail)
    go_wp2_with fail
    go_quiet (fail)
    go_wp2_with fail
    go_ret
    exact ⟨rfl, _, by rw [World.drewN_drewN, World.drewN_drewN]⟩

noncomputable def snT : TypeInfo := (Try.prog.info? 75).get (by kernel_rfl)
noncomputable def snE : TypeInfo := (Try.prog.info? 3).get (by kernel_rfl)
theorem snK (n : Nat) (h2 : 2 ≤ n) : Lib.swapperK n snE 2 = 5 := by
  have a : snE.hasPointers = false := by kernel_rfl
  have b : snE.bytes = 8 := by kernel_rfl
  have c : (n == 0) = false := by simp; omega
  have d : (n == 1) = false := by simp; omega
  simp [Lib.swapperK, a, b, c, d]

def encN {n : Nat} (x : Fin n) : Value := .int .i64 (x.val : Int)

/-- What the sort of places leaves. -/
def SortNPost (l : List ByteArray) (A : Option Addr) (w : World) (e : Ending) (w' : World) : Prop :=
  e = .returned (.tuple #[]) ∧ ∃ ps, SortedAt l ps ∧ NatAt w' w'.heap.size A ps ∧ w.grownBy w' (A.map (·.block))

theorem grownBy_sortedN {n : Nat} [Inhabited (Fin n)] {w : World} {g m : Nat} {os : Array Obj} (d : Array (Fin n)) : w.grownBy (grow (putRow encN (Sort.ahead w m) g 0 d) os) (some g) := by
  refine ⟨rfl, rfl, rfl, ?_, fun k hk hne => ?_⟩
  · simp [grow, putRow, mapBlock, Sort.ahead]
  · have hne' : g ≠ k := fun e => hne (by rw [e])
    have h1 : (grow (putRow encN (Sort.ahead w m) g 0 d) os).heap[k]? = (putRow encN (Sort.ahead w m) g 0 d).heap[k]? := by
      simp only [grow]
      rw [Array.getElem?_append_left]
      simpa [putRow, mapBlock, Sort.ahead] using hk
    rw [h1]
    simp [putRow, mapBlock, Sort.ahead, Array.getElem?_modify, hne']

theorem extract_all {α : Type} (d : Array α) (n : Nat) (h : d.size = n) : d.extract 0 n = d := by subst h; exact Array.extract_size ..

theorem sortN_any (g gl ol c cl Ba Bt gt n : Nat) (l : List ByteArray) (w : World) (hln : l.length = n) (h2 : 2 ≤ n) (hn : n < 4611686018427387904)
    (ha : w.cell? ⟨Ba, 0, none⟩ = some (.slice (some ⟨g, 0, none⟩) n c)) (ht : w.cell? ⟨Bt, 0, none⟩ = some (.pointer (some ⟨gt, 0, none⟩))) (htl : w.cell? ⟨gt, 0, none⟩ = some (.slice (some ⟨gl, ol, none⟩) n cl))
    (hl : ∀ p, p < n → w.cell? ⟨gl, ol + p, none⟩ = some (.string (sAt l p)))
    (lBa : Ba < w.heap.size) (lBt : Bt < w.heap.size) (lgt : gt < w.heap.size) (lgl : gl < w.heap.size) (lg : g < w.heap.size) (n1 : Ba ≠ g) (n2 : Bt ≠ g) (n3 : gt ≠ g) (n4 : gl ≠ g)
    (hall : ∀ t, t < n → w.cell? ⟨g, t, none⟩ = some (.int .i64 (t : Int)) ∧ w.frozen? ⟨g, t, none⟩ = false) :
    Calls Try.prog 53 #[.iface 75 (.slice (some ⟨g, 0, none⟩) n c), .func (.func 54) #[] #[.pointer (some ⟨Ba, 0, none⟩), .pointer (some ⟨Bt, 0, none⟩)]] w (SortNPost l (some ⟨g, 0, none⟩) w) := by
  subst hln
  haveI : Inhabited (Fin l.length) := ⟨⟨0, by omega⟩⟩
  let d : Array (Fin l.length) := Array.ofFn id
  have hds : d.size = l.length := by simp [d]
  have hdat : ∀ t (h : t < l.length), d[t]! = ⟨t, h⟩ := fun t h => by
    rw [getElem!_pos d t (by rw [hds]; exact h)]
    simp [d]
  have hH : Holds encN w g 0 d := fun j hj => by
    rw [hds] at hj
    rw [hdat j hj, Nat.zero_add]
    exact hall j hj
  have hless : LessReads Try.prog 54 #[.pointer (some ⟨Ba, 0, none⟩), .pointer (some ⟨Bt, 0, none⟩)] encN (ltN l) g 0 d.size w := by
    intro m os dk hs i j hi hj
    rw [hds] at hs hi hj
    have e : sortWorld encN w g 0 m dk os = putRow encN (grow (Sort.ahead w m) os) g 0 dk := by
      unfold sortWorld; rw [putRow_grow _ (Sort.ahead w m) _ g 0 _ lg]
    have hHg : Holds encN (grow (Sort.ahead w m) os) g 0 d := holds_grow _ _ _ _ _ _ lg (holds_ahead _ _ _ _ _ _ hH)
    have other : ∀ p : Addr, p.block ≠ g → p.block < w.heap.size → (sortWorld encN w g 0 m dk os).cell? p = w.cell? p := fun p h1 h2 => by
      rw [e, cell?_putRow_other _ _ _ 0 dk _ (.inl h1), cell?_grow _ _ _ (by exact h2)]; rfl
    have h := lessN_any g gl ol c cl Ba Bt gt l.length l (sortWorld encN w g 0 m dk os) (fun t => (dk[t]!).val) rfl hn ((other ⟨Ba, 0, none⟩ n1 lBa).trans ha) ((other ⟨Bt, 0, none⟩ n2 lBt).trans ht) ((other ⟨gt, 0, none⟩ n3 lgt).trans htl)
      (fun t htn => by rw [e]; have := (holds_putRow encN (grow (Sort.ahead w m) os) g 0 d dk hHg (by rw [hs, hds]) t (by rw [hs]; exact htn)).1; rw [Nat.zero_add] at this; exact this)
      (fun t _ => (dk[t]!).isLt) (fun p hp => (other ⟨gl, ol + p, none⟩ n4 lgl).trans (hl p hp)) i j hi hj
    refine h.mono fun _ _ ⟨he, q, hq⟩ => ⟨?_, q, hq⟩
    rw [he]
    congr 2
    unfold ltN
    rw [sAt_eq (dk[i]!).isLt, sAt_eq (dk[j]!).isLt]
    rfl
  have h := Any.sort_Slice_sorted Try.sl6 75 3 snT snE (by kernel_rfl) (by kernel_rfl) (by kernel_rfl) (by kernel_rfl) 2 (fun _ => by kernel_rfl) (by kernel_rfl) (fun _ => by kernel_rfl) encN (fun _ => rfl) (ltN l) (swo_ltN l) 54 _
    (enters_of Try.func54 (by kernel_rfl) rfl) g 0 c d (by rw [hds]; exact h2) (by rw [hds]; exact hn) 66 (by rw [snK _ (by rw [hds]; exact h2)]; kernel_rfl) true
    (fun args W => run_callFunc_extern Try.func66 (by kernel_rfl) (by kernel_rfl) (by kernel_rfl) (e := Extern.ReflectliteSwapper.swap true) (by kernel_rfl) args W) w hless hH lg
  rw [hds] at h
  refine h.mono ?_
  rintro e w' ⟨rfl, d', m, os, hp, hs, rfl⟩
  obtain ⟨hp1, _, hp3⟩ := hp
  have hd' : d'.size = l.length := by rw [hp1, hds]
  rw [extract_all d' _ hd', extract_all d _ hds] at hp3
  refine ⟨rfl, d'.toList.map Fin.val, ⟨by simp [hd'], ?_, ?_, ?_⟩, ?_, grownBy_sortedN d'⟩
  · intro p hp
    obtain ⟨x, _, rfl⟩ := List.mem_map.1 hp
    exact x.isLt
  · intro p hp
    have : (⟨p, hp⟩ : Fin l.length) ∈ d'.toList := by
      rw [hp3.mem_iff]
      have hpd : d[p]'(by rw [hds]; exact hp) = ⟨p, hp⟩ := by simp [d]
      rw [← hpd]
      simp
    exact List.mem_map.2 ⟨_, this, rfl⟩
  · intro i j hij hj
    have hj' : j < d'.size := by simpa using hj
    have hi' : i < d'.size := by omega
    have hso := hs i j (Nat.zero_le _) hij (by omega)
    rw [getElem!_pos d' i hi', getElem!_pos d' j hj'] at hso
    have hlt : ltN l d'[j] d'[i] = false := by simpa using hso
    simp only [List.getElem_map, Array.getElem_toList]
    rw [sAt_eq d'[i].isLt, sAt_eq d'[j].isLt]
    rcases ltN_total hlt with h3 | h3
    · unfold ltN at h3
      by_cases e : l[d'[i]] = l[d'[j]]
      · rw [if_pos e] at h3
        simp at h3
        exact .inr ⟨e, by omega⟩
      · rw [if_neg e] at h3
        exact .inl h3
    · right
      rw [h3]
      exact ⟨rfl, Nat.le_refl _⟩
  · have hHn := holds_grow encN _ os g 0 d' (by simpa [putRow, mapBlock, Sort.ahead] using lg) (holds_putRow encN _ g 0 d d' (holds_ahead _ _ m _ _ _ hH) hp1)
    refine ⟨by simp [natCells], fun _ => ⟨_, rfl, by simp [grow, putRow, mapBlock, Sort.ahead]; omega, fun j u hu => ?_⟩⟩
    have hj : j < d'.size := by
      have := (List.getElem?_eq_some_iff.1 hu).1
      simpa [natCells] using this
    have e : (⟨g, 0, none⟩ : Addr).add j = ⟨g, j, none⟩ := by unfold Addr.add; split <;> simp_all
    rw [e]
    have := (hHn j hj).1
    rw [Nat.zero_add] at this
    rw [this, ← hu, getElem!_pos d' j hj]
    simp [natCells, encN, hj]
end Go.Proofs.Ytanpljalbijfkaa
