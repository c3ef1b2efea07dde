/- lattice: the four closures of bounds. -/
import Derived.Test.YtpjlhpaenmfieaaGreatRelAll
namespace Go.Proofs.YtpjlhpaenmfieaaGreat
open Go.RowKit

theorem down_any (Bt gl gr : Nat) (rs : List Nat) (w : World) (x y : Int) (ht : w.cell? ⟨Bt, 0, none⟩ = some (.pointer (some ⟨gl, 0, none⟩))) (hl : w.cell? ⟨gl, 2, none⟩ = some (.pointer (some ⟨gr, 0, none⟩))) (hr : RelAt w gr rs) :
    Calls Tryz.prog 79 #[.int .i64 x, .int .i64 y, .pointer (some ⟨Bt, 0, none⟩)] w (fun e w' => e = .returned (.bool (hasB rs x y)) ∧ w = w') := by
  have HH := hide (relHas_any gr rs w hr x y)
  obtain ⟨r, hr2⟩ : ∃ r, r = hasB rs x y := ⟨_, rfl⟩
  rw [← hr2] at HH ⊢
  clear hr hr2
  go_enter Tryz.func79, Tryz.ntmps79
  go_wp2_with fail
  refine HH.out.mono ?_
  rintro e w' ⟨rfl, rfl⟩
  go_wp2_with fail
  go_ret
  exact ⟨rfl, rfl⟩
theorem up_any (Bt gl gr : Nat) (rs : List Nat) (w : World) (x y : Int) (ht : w.cell? ⟨Bt, 0, none⟩ = some (.pointer (some ⟨gl, 0, none⟩))) (hl : w.cell? ⟨gl, 2, none⟩ = some (.pointer (some ⟨gr, 0, none⟩))) (hr : RelAt w gr rs) :
    Calls Tryz.prog 81 #[.int .i64 x, .int .i64 y, .pointer (some ⟨Bt, 0, none⟩)] w (fun e w' => e = .returned (.bool (hasB rs y x)) ∧ w = w') := by
  have HH := hide (relHas_any gr rs w hr y x)
  obtain ⟨r, hr2⟩ : ∃ r, r = hasB rs y x := ⟨_, rfl⟩
  rw [← hr2] at HH ⊢
  clear hr hr2
  go_enter Tryz.func81, Tryz.ntmps81
  go_wp2_with fail
  refine HH.out.mono ?_
  rintro e w' ⟨rfl, rfl⟩
  go_wp2_with fail
  go_ret
  exact ⟨rfl, rfl⟩

theorem inDown_any (Bd Ba Bb Bt gl gr : Nat) (rs : List Nat) (w : World) (a b c : Int) (hd : w.cell? ⟨Bd, 0, none⟩ = some (.func (.func 79) #[] #[.pointer (some ⟨Bt, 0, none⟩)])) (ha : w.cell? ⟨Ba, 0, none⟩ = some (.int .i64 a)) (hb : w.cell? ⟨Bb, 0, none⟩ = some (.int .i64 b))
    (ht : w.cell? ⟨Bt, 0, none⟩ = some (.pointer (some ⟨gl, 0, none⟩))) (hl : w.cell? ⟨gl, 2, none⟩ = some (.pointer (some ⟨gr, 0, none⟩))) (hr : RelAt w gr rs) :
    Calls Tryz.prog 83 #[.int .i64 c, .pointer (some ⟨Bd, 0, none⟩), .pointer (some ⟨Ba, 0, none⟩), .pointer (some ⟨Bb, 0, none⟩)] w (fun e w' => e = .returned (.bool (hasB rs a c && hasB rs b c)) ∧ w = w') := by
  have H1 := hide (down_any Bt gl gr rs w a c ht hl hr)
  have H2 := hide (down_any Bt gl gr rs w b c ht hl hr)
  obtain ⟨r1, hr1⟩ : ∃ r, r = hasB rs a c := ⟨_, rfl⟩
  obtain ⟨r2, hr2⟩ : ∃ r, r = hasB rs b c := ⟨_, rfl⟩
  rw [← hr1] at H1 ⊢
  rw [← hr2] at H2 ⊢
  clear hr hr1 hr2 ht hl
  cases r1 with
  | false =>
    go_enter Tryz.func83, Tryz.ntmps83
    go_wp2_with fail
    refine H1.out.mono ?_
    rintro e w' ⟨rfl, rfl⟩
    go_wp2_with fail
    go_ret
    exact ⟨rfl, rfl⟩
  | true =>
    go_enter Tryz.func83, Tryz.ntmps83
    go_wp2_with fail
    refine H1.out.mono ?_
    rintro e w' ⟨rfl, rfl⟩
    go_wp2_with fail
    refine H2.out.mono ?_
    rintro e w' ⟨rfl, rfl⟩
    go_wp2_with fail
    go_ret
    exact ⟨rfl, rfl⟩
theorem inUp_any (Bd Ba Bb Bt gl gr : Nat) (rs : List Nat) (w : World) (a b c : Int) (hd : w.cell? ⟨Bd, 0, none⟩ = some (.func (.func 81) #[] #[.pointer (some ⟨Bt, 0, none⟩)])) (ha : w.cell? ⟨Ba, 0, none⟩ = some (.int .i64 a)) (hb : w.cell? ⟨Bb, 0, none⟩ = some (.int .i64 b))
    (ht : w.cell? ⟨Bt, 0, none⟩ = some (.pointer (some ⟨gl, 0, none⟩))) (hl : w.cell? ⟨gl, 2, none⟩ = some (.pointer (some ⟨gr, 0, none⟩))) (hr : RelAt w gr rs) :
    Calls Tryz.prog 84 #[.int .i64 c, .pointer (some ⟨Bd, 0, none⟩), .pointer (some ⟨Ba, 0, none⟩), .pointer (some ⟨Bb, 0, none⟩)] w (fun e w' => e = .returned (.bool (hasB rs c a && hasB rs c b)) ∧ w = w') := by
  have H1 := hide (up_any Bt gl gr rs w a c ht hl hr)
  have H2 := hide (up_any Bt gl gr rs w b c ht hl hr)
  obtain ⟨r1, hr1⟩ : ∃ r, r = hasB rs c a := ⟨_, rfl⟩
  obtain ⟨r2, hr2⟩ : ∃ r, r = hasB rs c b := ⟨_, rfl⟩
  rw [← hr1] at H1 ⊢
  rw [← hr2] at H2 ⊢
  clear hr hr1 hr2 ht hl
  cases r1 with
  | false =>
    go_enter Tryz.func84, Tryz.ntmps84
    go_wp2_with fail
    refine H1.out.mono ?_
    rintro e w' ⟨rfl, rfl⟩
    go_wp2_with fail
    go_ret
    exact ⟨rfl, rfl⟩
  | true =>
    go_enter Tryz.func84, Tryz.ntmps84
    go_wp2_with fail
    refine H1.out.mono ?_
    rintro e w' ⟨rfl, rfl⟩
    go_wp2_with fail
    refine H2.out.mono ?_
    rintro e w' ⟨rfl, rfl⟩
    go_wp2_with fail
    go_ret
    exact ⟨rfl, rfl⟩
end Go.Proofs.YtpjlhpaenmfieaaGreat
