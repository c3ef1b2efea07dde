/- The function New of package rel. -/
import Derived.Test.YtpjlhpaenmfieaaRelD
namespace Go.Proofs.Ytpjlhpaenmfieaa
open Go.RowKit

abbrev i64v (n : Int) : Value := .int .i64 n

def pairCells (ps : List (Int × Int)) : List Value := ps.flatMap fun p => [i64v p.1, i64v p.2]

theorem pairCells_length (ps : List (Int × Int)) : (pairCells ps).length = ps.length * 2 := by
  induction ps with
  | nil => rfl
  | cons p ps ih => simp only [pairCells, List.flatMap_cons, List.length_append] at ih ⊢; rw [ih]; simp; omega

theorem pairCells_get (ps : List (Int × Int)) (k : Nat) (hk : k < ps.length) : (pairCells ps)[k * 2]? = some (i64v ps[k].1) ∧ (pairCells ps)[k * 2 + 1]? = some (i64v ps[k].2) := by
  induction ps generalizing k with
  | nil => simp at hk
  | cons p ps ih =>
    cases k with
    | zero => exact ⟨rfl, rfl⟩
    | succ k =>
      have := ih k (by simpa using hk)
      simp only [pairCells, List.flatMap_cons] at this ⊢
      rw [show (k + 1) * 2 = k * 2 + 1 + 1 by omega]
      simpa using this

/-- The pairs that a slice holds. -/
def PairsAt (w : World) (B : Nat) (A : Option Addr) (ps : List (Int × Int)) : Prop := Reads w B 2 A ps.length (pairCells ps)

theorem PairsAt.cell {w : World} {B : Nat} {A : Option Addr} {ps : List (Int × Int)} (h : PairsAt w B A ps) (hn : 0 < ps.length) :
    ∃ b o, A = some ⟨b, o, none⟩ ∧ b < B ∧ ∀ k (hk : k < ps.length), w.cell? ⟨b, o + k * 2, none⟩ = some (i64v ps[k].1) ∧ w.cell? ⟨b, o + k * 2 + 1, none⟩ = some (i64v ps[k].2) := by
  obtain ⟨b, o, e, hb, hc⟩ := h.form hn (by omega)
  exact ⟨b, o, e, hb, fun k hk => ⟨hc _ _ (pairCells_get ps k hk).1, hc _ _ (pairCells_get ps k hk).2⟩⟩

def okP (n : Nat) (p : Int × Int) : Bool := decide (0 ≤ p.1 ∧ p.1 < n ∧ 0 ≤ p.2 ∧ p.2 < n)
def okPs (n : Nat) (ps : List (Int × Int)) : Bool := ps.all (okP n)
def addP (rs : List Nat) (p : Int × Int) : List Nat := rs.set p.1.toNat (rs.getD p.1.toNat 0 ||| 1 <<< p.2.toNat)
def newRows (n : Nat) (ps : List (Int × Int)) : List Nat := ps.foldl addP (List.replicate n 0)

theorem newRows_length (n : Nat) (ps : List (Int × Int)) : (newRows n ps).length = n := by
  unfold newRows
  suffices ∀ rs : List Nat, (ps.foldl addP rs).length = rs.length by rw [this]; simp
  induction ps with
  | nil => intro rs; rfl
  | cons p ps ih => intro rs; rw [List.foldl_cons, ih]; simp [addP]

theorem newRows_snoc (n : Nat) (ps : List (Int × Int)) (k : Nat) (hk : k < ps.length) : newRows n (ps.take (k + 1)) = addP (newRows n (ps.take k)) ps[k] := by
  unfold newRows
  rw [List.take_succ_eq_append_getElem hk, List.foldl_append]
  rfl

set_option maxHeartbeats 400000 in
theorem relNew_bad (n : Int) (hn : n < 0 ∨ 64 < n) (v : Value) (w : World) :
    Calls Try.prog 48 #[.int .i64 n, v] w fun e w' => e = .returned (.tuple #[.pointer none, .bool false]) ∧ w = w' := by
  rcases hn with hn | hn
  · go_enter Try.func48, Try.ntmps48
    go_wp2
    go_ret2
    exact ⟨rfl, rfl⟩
  · have : ¬ n < 0 := by omega
    go_enter Try.func48, Try.ntmps48
    go_wp2
    go_ret2
    exact ⟨rfl, rfl⟩

theorem CloseRel.alloc {W : World} {bo g c n : Nat} {rs : List Nat} {w : World} (h : CloseRel W bo g c n rs w) (o : Obj) : CloseRel W bo g c n rs (w.alloc o) := by
  obtain ⟨h1, h2, h3, h4, h5, h6, h7⟩ := h
  exact ⟨h1.alloc o, h2.alloc o, h3.alloc h3.size o, h4, h5, h6, h7⟩

theorem okPs_bad {n : Nat} {ps : List (Int × Int)} {k : Nat} (hk : k < ps.length) {x y : Int} (hxy : ps[k] = (x, y)) (h : x < 0 ∨ (n : Int) ≤ x ∨ y < 0 ∨ (n : Int) ≤ y) : okPs n ps = false := by
  unfold okPs
  rw [List.all_eq_false]
  refine ⟨ps[k], List.getElem_mem hk, ?_⟩
  rw [hxy]
  simp [okP]
  omega
theorem okPs_step {n : Nat} {ps : List (Int × Int)} {k : Nat} (hk : k < ps.length) {x y : Int} (hxy : ps[k] = (x, y)) (h0 : okPs n (ps.take k) = true) (h : 0 ≤ x ∧ x < n ∧ 0 ≤ y ∧ y < n) : okPs n (ps.take (k + 1)) = true := by
  unfold okPs at h0 ⊢
  rw [List.take_succ_eq_append_getElem hk, List.all_append, h0, hxy]
  simp [okP]
  omega

def NewPost (n : Nat) (ps : List (Int × Int)) (w : World) (e : Ending) (w' : World) : Prop :=
  (okPs n ps = true ∧ ∃ bo, e = .returned (.tuple #[.pointer (some ⟨bo, 0, none⟩), .bool true]) ∧ RelAt w' bo (newRows n ps) ∧ Ext w w') ∨ (okPs n ps = false ∧ e = .returned (.tuple #[.pointer none, .bool false]) ∧ Ext w w')

set_option maxRecDepth 100000 in
set_option maxHeartbeats 1000000 in
theorem relNew_any (n : Nat) (hn : n ≤ 64) (A : Option Addr) (c : Nat) (ps : List (Int × Int)) (w : World) (h : PairsAt w w.heap.size A ps) (hl : ps.length ≤ 9223372036854775807) :
    Calls Try.prog 48 #[.int .i64 n, .slice A ps.length c] w (NewPost n ps w) := by
  obtain ⟨i0, hi, hz0, hz1, hz2⟩ := info_parts info_u64
  have hn0 : ¬ (n : Int) < 0 := by omega
  have hn1 : ¬ (64 : Int) < n := by omega
  go_enter Try.func48, Try.ntmps48
  go_wp2_with (at_make; refine wpList_make_full _ rfl _ _ 120 rfl w.heap.size 123 i0 (.int .u64 0) 1 Try.underlying120 hi hz0 hz1 _ _ _ _ n rfl rfl rfl rfl ?c1 ?c2 (Nat.le_refl _) ?_)
  case c1 => omega
  case c2 => unfold maxLen; omega
  intro w1 hown hgrow
  have hC0 : CloseRel w w1.heap.size w.heap.size n n (newRows n []) (w1.alloc (.cells #[.slice (some ⟨w.heap.size, 0, none⟩) n n] 122)) := by
    have hlt := (hown.lt w.heap.size rfl).2
    refine ⟨Blk.new _ _ _, ?_, (ext_of_grown hgrow).alloc hgrow.size _, hgrow.size, by omega, by simp [newRows], fun r hr => ?_⟩
    · have := hown.alloc (.cells #[.slice (some ⟨w.heap.size, 0, none⟩) n n] 122)
      simpa [newRows, toList_madeCells_one, u64v] using this
    · simp [newRows] at hr; omega
  have hlen : ps.length < 9223372036854775808 := by omega
  clear hown
  go_wp2
  go_loopw [21] (fun i wr => ∃ k : Nat, k ≤ ps.length ∧ i = .int .i64 k ∧ okPs n (ps.take k) = true ∧ CloseRel w w1.heap.size w.heap.size n n (newRows n (ps.take k)) wr) (fun i _ => ps.length - (intOf i).toNat)
  case atStart => exact ⟨0, Nat.zero_le _, rfl, rfl, hC0⟩
  case round =>
    obtain ⟨k, hk, rfl, hok, hC⟩ := hrel
    by_cases hlt : k < ps.length
    · obtain ⟨b, o, rfl, hb, hcell⟩ := h.cell (by omega)
      have hF := hC.facts
      obtain ⟨f0, f1, f2⟩ := hF
      have hbw : w.heap.size ≤ wr.heap.size := hC.2.2.1.size
      have hbo := hC.1.lt
      have hgl := (hC.2.1.lt w.heap.size rfl).2
      have hp := hcell k hlt
      have hp1 := (hC.2.2.1.cell (p := ⟨b, o + k * 2, none⟩) hb).trans hp.1
      have hp2 := (hC.2.2.1.cell (p := ⟨b, o + k * 2 + 1, none⟩) hb).trans hp.2
      obtain ⟨x, y, hxy⟩ : ∃ x y, ps[k] = (x, y) := ⟨_, _, rfl⟩
      rw [hxy] at hp1 hp2
      have HX := hide hxy
      have HS := hide hC
      have HO := hide hok
      have F1 := hide f1
      have F2 := hide f2
      clear f1 f2 hp hcell hxy hC hok hC0
      have hbad : ∀ o' : Obj, (x < 0 ∨ (n : Int) ≤ x ∨ y < 0 ∨ (n : Int) ≤ y) → NewPost n ps w (.returned (.tuple #[.pointer none, .bool false])) (wr.alloc o') :=
        fun o' h' => .inr ⟨okPs_bad hlt HX.out h', rfl, HS.out.2.2.1.alloc HS.out.2.2.1.size _⟩
      have HB := hide hbad
      clear hbad
      by_cases hx0 : x < 0
      · go_wp2
        go_ret2
        exact HB.out _ (.inl hx0)
      · by_cases hx1 : (n : Int) ≤ x
        · go_wp2
          go_ret2
          exact HB.out _ (.inr (.inl hx1))
        · by_cases hy0 : y < 0
          · go_wp2
            go_ret2
            exact HB.out _ (.inr (.inr (.inl hy0)))
          · by_cases hy1 : (n : Int) ≤ y
            · go_wp2
              go_ret2
              exact HB.out _ (.inr (.inr (.inr hy1)))
            · obtain ⟨x, rfl⟩ := Int.eq_ofNat_of_zero_le (Int.not_lt.1 hx0)
              obtain ⟨y, rfl⟩ := Int.eq_ofNat_of_zero_le (Int.not_lt.1 hy0)
              have f1x := F1.out x (by omega)
              have f2x := F2.out x
              have hrl := lt_getD HS.out.2.2.2.2.2.2 x
              obtain ⟨r, hr⟩ : ∃ r, r = (newRows n (ps.take k)).getD x 0 := ⟨_, rfl⟩
              rw [← hr] at f1x hrl
              have HR := hide hr
              clear hr
              go_wp2
              go_region
              rw [or_shl r y hrl (by omega)]
              go_wp2
              go_roundw
              case rel =>
                refine ⟨k + 1, by omega, by go_num, okPs_step hlt HX.out HO.out ⟨by omega, by omega, by omega, by omega⟩, ?_⟩
                have e : newRows n (ps.take (k + 1)) = (newRows n (ps.take k)).set x (r ||| 1 <<< y) := by
                  rw [newRows_snoc n ps k hlt, HX.out, HR.out]
                  simp [addP]
                rw [e]
                exact (HS.out.store x (r ||| 1 <<< y) (or_lt hrl (by omega))).alloc _
              case measure => simp [intOf]; omega
    · obtain rfl : k = ps.length := by omega
      have HS := hide hC
      have HO := hide hok
      clear hC hok
      go_wp2
      go_ret2
      rw [List.take_length] at HO HS
      obtain ⟨h1, h2, h3, _, _, h6, h7⟩ := HS.out
      refine .inl ⟨HO.out, w1.heap.size, rfl, ⟨some ⟨w.heap.size, 0, none⟩, n, ?_, ?_, ?_, h7⟩, h3⟩
      · rw [newRows_length]; exact h1
      · rw [newRows_length]; exact own_more h2 (Nat.zero_le _)
      · rw [newRows_length]; exact hn

end Go.Proofs.Ytpjlhpaenmfieaa
