/- lattice: the methods that read. -/
import Derived.Test.YtpjlhpaenmfieaaGreatLatJ
namespace Go.Proofs.YtpjlhpaenmfieaaGreat
open Go.RowKit

/-- A lattice in memory, laid open. -/
theorem LatAt.view {w : World} {g : Nat} {ws : List Wd} {os : List (Wd × Wd)} (h : LatAt w g ws os) :
    ∃ (n : Nat) (A : Option Addr) (c gt gr : Nat), n = ws.length ∧ w.cell? ⟨g, 0, none⟩ = some (.slice A n c) ∧ w.cell? ⟨g, 1, none⟩ = some (.pointer (some ⟨gt, 0, none⟩)) ∧ w.cell? ⟨g, 2, none⟩ = some (.pointer (some ⟨gr, 0, none⟩)) ∧
      StrAt w w.heap.size A (nms ws) ∧ TabAt w gt (nms ws) ∧ RelAt w gr (RelM.close (newRows ws.length (prs ws os))) ∧ g < w.heap.size ∧
      (∀ a b, n ≤ 32 → a < n → b < n → w.cell? ⟨g, 3 + a * 32 + b, none⟩ = some (.int .i64 (LatM.joinL n (leqL ws os) a b)) ∧ w.cell? ⟨g, 1027 + a * 32 + b, none⟩ = some (.int .i64 (LatM.joinL n (fun a b => leqL ws os b a) a b))) := by
  obtain ⟨A, c, gt, gr, J, M, h1, h2, h3, h4, h5⟩ := h
  exact ⟨ws.length, A, c, gt, gr, rfl, h1.cell0, h1.cell1, h1.cell2, h2, h3, h4, h1.lt, fun a b hn ha hb => ⟨by rw [h1.cellJ (by omega) (by omega), (h5 a b ha hb).1], by rw [h1.cellM (by omega) (by omega), (h5 a b ha hb).2]⟩⟩

theorem latLen_any (g : Nat) (ws : List Wd) (os : List (Wd × Wd)) (w : World) (h : LatAt w g ws os) : Calls Tryz.prog 52 #[.pointer (some ⟨g, 0, none⟩)] w (fun e w' => e = .returned (.int .i64 (ws.length : Int)) ∧ w = w') := by
  obtain ⟨n, A, c, gt, gr, hn, c0, _⟩ := h.view
  rw [← hn]
  clear hn
  go_enter Tryz.func52, Tryz.ntmps52
  go_wp2_with fail
  go_ret
  exact ⟨rfl, rfl⟩
theorem latLen_nil (w : World) : Calls Tryz.prog 52 #[.pointer none] w (fun e w' => e = .returned (.int .i64 0) ∧ w = w') := by
  go_enter Tryz.func52, Tryz.ntmps52
  go_wp2_with fail
  go_ret
  exact ⟨rfl, rfl⟩

/-- Is there such a level? -/
def hasI (n : Nat) (i : Int) : Bool := decide (0 ≤ i ∧ i < (n : Int))
theorem hasI_nat {n k : Nat} (h : k < n) : hasI n (k : Int) = true := by unfold hasI; simp; omega
theorem hasI_out {n : Nat} {i : Int} (h : i < 0 ∨ (n : Int) ≤ i) : hasI n i = false := by unfold hasI; simp; omega
theorem hasI_cases (n : Nat) (i : Int) : (∃ k : Nat, i = k ∧ k < n) ∨ i < 0 ∨ (n : Int) ≤ i := by
  by_cases h : 0 ≤ i ∧ i < (n : Int)
  · obtain ⟨k, rfl⟩ := Int.eq_ofNat_of_zero_le h.1
    exact .inl ⟨k, rfl, by omega⟩
  · right; omega
theorem latHas_any (g : Nat) (ws : List Wd) (os : List (Wd × Wd)) (w : World) (h : LatAt w g ws os) (i : Int) : Calls Tryz.prog 88 #[.pointer (some ⟨g, 0, none⟩), .int .i64 i] w (fun e w' => e = .returned (.bool (hasI ws.length i)) ∧ w = w') := by
  have HL := hide (latLen_any g ws os w h)
  obtain ⟨n, hn⟩ : ∃ n, n = ws.length := ⟨_, rfl⟩
  rw [← hn] at HL ⊢
  clear hn h
  by_cases h0 : 0 ≤ i
  · by_cases h1 : i < (n : Int)
    · obtain ⟨k, rfl⟩ := Int.eq_ofNat_of_zero_le h0
      rw [hasI_nat (by omega)]
      go_enter Tryz.func88, Tryz.ntmps88
      go_wp2_with fail
      refine HL.out.mono ?_
      rintro e w' ⟨rfl, rfl⟩
      go_wp2_with fail
      go_ret
      exact ⟨rfl, rfl⟩
    · rw [hasI_out (by omega)]
      go_enter Tryz.func88, Tryz.ntmps88
      go_wp2_with fail
      refine HL.out.mono ?_
      rintro e w' ⟨rfl, rfl⟩
      go_wp2_with fail
      go_ret
      exact ⟨ret_bool (by simpa using h1), rfl⟩
  · rw [hasI_out (by omega)]
    go_enter Tryz.func88, Tryz.ntmps88
    go_wp2_with fail
    go_ret
    exact ⟨rfl, rfl⟩
theorem latHas_nil (w : World) (i : Int) : Calls Tryz.prog 88 #[.pointer none, .int .i64 i] w (fun e w' => e = .returned (.bool false) ∧ w = w') := by
  by_cases h0 : 0 ≤ i
  · have hh : ¬ i < 0 := by omega
    go_enter Tryz.func88, Tryz.ntmps88
    go_wp2_with fail
    refine (latLen_nil w).mono ?_
    rintro e w' ⟨rfl, rfl⟩
    go_wp2_with fail
    go_ret
    exact ⟨ret_bool (by simpa using hh), rfl⟩
  · go_enter Tryz.func88, Tryz.ntmps88
    go_wp2_with fail
    go_ret
    exact ⟨rfl, rfl⟩

/-- A level's name. -/
def nmI (ws : List Wd) (i : Int) : ByteArray := if hasI ws.length i then wNm ws i.toNat else ⟨#[]⟩
theorem latName_any (g : Nat) (ws : List Wd) (os : List (Wd × Wd)) (w : World) (h : LatAt w g ws os) (i : Int) : Calls Tryz.prog 54 #[.pointer (some ⟨g, 0, none⟩), .int .i64 i] w (fun e w' => e = .returned (.string (nmI ws i)) ∧ w = w') := by
  have HH := hide (latHas_any g ws os w h i)
  obtain ⟨n, A, c, gt, gr, hn, c0, _, _, hS, _⟩ := h.view
  unfold nmI
  rw [← hn] at HH ⊢
  rcases hasI_cases n i with ⟨k, rfl, hk⟩ | ho
  · rw [hasI_nat hk] at HH ⊢
    obtain ⟨b, o, rfl, hb, hc⟩ := hS.cell (by rw [nms_length, ← hn]; omega)
    have q1 := hc k (by rw [nms_length, ← hn]; exact hk)
    rw [nms_at] at q1
    have i0 : (0 : Int) ≤ (k : Int) := by omega
    have i1 : (k : Int) < (n : Int) := by omega
    rw [if_pos rfl, Int.toNat_natCast]
    obtain ⟨x, hx⟩ : ∃ x, x = wNm ws k := ⟨_, rfl⟩
    rw [← hx] at q1 ⊢
    clear hn hS hc hx h
    go_enter Tryz.func54, Tryz.ntmps54
    go_wp2_with fail
    refine HH.out.mono ?_
    rintro e w' ⟨rfl, rfl⟩
    go_wp2_with fail
    go_ret
    exact ⟨rfl, rfl⟩
  · rw [hasI_out ho] at HH ⊢
    rw [if_neg (by decide)]
    clear hn hS h ho
    go_enter Tryz.func54, Tryz.ntmps54
    go_wp2_with fail
    refine HH.out.mono ?_
    rintro e w' ⟨rfl, rfl⟩
    go_wp2_with fail
    go_ret
    exact ⟨rfl, rfl⟩
theorem latName_nil (w : World) (i : Int) : Calls Tryz.prog 54 #[.pointer none, .int .i64 i] w (fun e w' => e = .returned (.string ⟨#[]⟩) ∧ w = w') := by
  go_enter Tryz.func54, Tryz.ntmps54
  go_wp2_with fail
  refine (latHas_nil w i).mono ?_
  rintro e w' ⟨rfl, rfl⟩
  go_wp2_with fail
  go_ret
  exact ⟨rfl, rfl⟩

theorem latFind_any (g : Nat) (ws : List Wd) (os : List (Wd × Wd)) (w : World) (h : LatAt w g ws os) (hn : ws.length ≤ 1000) (s : ByteArray) : Calls Tryz.prog 42 #[.pointer (some ⟨g, 0, none⟩), .string s] w (fun e w' => e = .returned (findR (nms ws) s) ∧ Ext w w') := by
  obtain ⟨n, A, c, gt, gr, _, _, c1, _, _, hT, _⟩ := h.view
  have HF := hide (tabFind_any gt (nms ws) s w hT (by rw [nms_length]; omega))
  obtain ⟨x, b, hx⟩ : ∃ x b, findR (nms ws) s = .tuple #[.int .i64 x, .bool b] := ⟨_, _, rfl⟩
  rw [hx] at HF ⊢
  clear h hT hx
  go_enter Tryz.func42, Tryz.ntmps42
  go_wp2_with fail
  refine HF.out.mono ?_
  rintro e w' ⟨rfl, hE⟩
  have HE := hide hE
  clear hE
  go_wp2_with fail
  go_ret2
  exact ⟨rfl, HE.out⟩
theorem latFind_nil (w : World) (s : ByteArray) : Calls Tryz.prog 42 #[.pointer none, .string s] w (fun e w' => e = .returned (.tuple #[.int .i64 0, .bool false]) ∧ w = w') := by
  go_enter Tryz.func42, Tryz.ntmps42
  go_wp2_with fail
  go_ret2
  exact ⟨rfl, rfl⟩

/-- Is a level at most another one? Of any numbers. -/
def leqI (ws : List Wd) (os : List (Wd × Wd)) (a b : Int) : Bool := hasI ws.length a && hasI ws.length b && leqL ws os a.toNat b.toNat
theorem hasB_leqI {ws : List Wd} {os : List (Wd × Wd)} (hok : okPs ws.length (prs ws os) = true) (a b : Int) : hasB (RelM.close (newRows ws.length (prs ws os))) a b = leqI ws os a b := by
  unfold leqI
  rcases hasI_cases ws.length a with ⟨i, rfl, hi⟩ | ha
  · rcases hasI_cases ws.length b with ⟨j, rfl, hj⟩ | hb
    · rw [close_has_mat hok i j hi hj, hasI_nat hi, hasI_nat hj]
      rfl
    · rw [hasI_nat hi, hasI_out hb]
      unfold hasB
      rw [RelM.close_length, newRows_length]
      simp
      omega
  · rw [hasI_out ha]
    unfold hasB
    rw [RelM.close_length, newRows_length]
    simp
    omega
theorem latLeq_any (g : Nat) (ws : List Wd) (os : List (Wd × Wd)) (w : World) (h : LatAt w g ws os) (hok : okPs ws.length (prs ws os) = true) (a b : Int) : Calls Tryz.prog 51 #[.pointer (some ⟨g, 0, none⟩), .int .i64 a, .int .i64 b] w (fun e w' => e = .returned (.bool (leqI ws os a b)) ∧ w = w') := by
  have HA := hide (latHas_any g ws os w h a)
  have HB := hide (latHas_any g ws os w h b)
  obtain ⟨n, A, c, gt, gr, hn, _, _, c2, _, _, hR, _⟩ := h.view
  have hR' := relHas_any gr _ w hR a b
  rw [hasB_leqI hok] at hR'
  have HR := hide hR'
  obtain ⟨r, hr⟩ : ∃ r, r = leqI ws os a b := ⟨_, rfl⟩
  obtain ⟨x, hx⟩ : ∃ r, r = hasI ws.length a := ⟨_, rfl⟩
  obtain ⟨y, hy⟩ : ∃ r, r = hasI ws.length b := ⟨_, rfl⟩
  have hxr : x = false → r = false := fun e => by rw [hr]; unfold leqI; rw [← hx, e]; rfl
  have hyr : y = false → r = false := fun e => by rw [hr]; unfold leqI; rw [← hy, e, Bool.and_false]; rfl
  rw [← hr] at HR ⊢
  rw [← hx] at HA
  rw [← hy] at HB
  have HXR := hide hxr
  have HYR := hide hyr
  clear hn hR hR' hr hx hy hxr hyr h hok
  cases x with
  | false =>
    obtain rfl := HXR.out rfl
    go_enter Tryz.func51, Tryz.ntmps51
    go_wp2_with fail
    refine HA.out.mono ?_
    rintro e w' ⟨rfl, rfl⟩
    go_wp2_with fail
    go_ret
    exact ⟨rfl, rfl⟩
  | true =>
    cases y with
    | false =>
      obtain rfl := HYR.out rfl
      go_enter Tryz.func51, Tryz.ntmps51
      go_wp2_with fail
      refine HA.out.mono ?_
      rintro e w' ⟨rfl, rfl⟩
      go_wp2_with fail
      refine HB.out.mono ?_
      rintro e w' ⟨rfl, rfl⟩
      go_wp2_with fail
      go_ret
      exact ⟨rfl, rfl⟩
    | true =>
      go_enter Tryz.func51, Tryz.ntmps51
      go_wp2_with fail
      refine HA.out.mono ?_
      rintro e w' ⟨rfl, rfl⟩
      go_wp2_with fail
      refine HB.out.mono ?_
      rintro e w' ⟨rfl, rfl⟩
      go_wp2_with fail
      refine HR.out.mono ?_
      rintro e w' ⟨rfl, rfl⟩
      go_wp2_with fail
      go_ret
      exact ⟨rfl, rfl⟩
theorem latLeq_nil (w : World) (a b : Int) : Calls Tryz.prog 51 #[.pointer none, .int .i64 a, .int .i64 b] w (fun e w' => e = .returned (.bool false) ∧ w = w') := by
  go_enter Tryz.func51, Tryz.ntmps51
  go_wp2_with fail
  refine (latHas_nil w a).mono ?_
  rintro e w' ⟨rfl, rfl⟩
  go_wp2_with fail
  go_ret
  exact ⟨rfl, rfl⟩
end Go.Proofs.YtpjlhpaenmfieaaGreat
