/- bits.OnesCount64; the method Loop of package rel. -/
import Derived.Test.YtpjlhpaenmfieaaRelB
import Derived.Test.YtpjlhpaenmfieaaOnesM
namespace Go.Proofs.Ytpjlhpaenmfieaa
open Go.RowKit

theorem and_c (x c : Nat) (hx : x ≤ 18446744073709551615) (hc : c ≤ 18446744073709551615) : bits .and .u64 (x : Int) (c : Int) = ((x &&& c : Nat) : Int) := u64_and_nat x c (by omega) (by omega)

theorem ones1 (x : Nat) (hx : x ≤ 18446744073709551615) : IntKind.u64.wrap (bits .and .u64 ((x : Int) / 2) 6148914691236517205 + bits .and .u64 (x : Int) 6148914691236517205) = ((OnesM.s1 x : Nat) : Int) := by
  have h := OnesM.s1_lt x
  have a := and_c (x / 2) 6148914691236517205 (by omega) (by omega)
  have b := and_c x 6148914691236517205 (by omega) (by omega)
  rw [Int.natCast_ediv] at a
  have a' : bits .and .u64 ((x : Int) / 2) 6148914691236517205 = _ := a
  have b' : bits .and .u64 (x : Int) 6148914691236517205 = _ := b
  rw [a', b', ← Int.natCast_add]
  exact IntWalk.u64_in _ ⟨Int.natCast_nonneg _, by have := h; unfold OnesM.s1 at this; omega⟩

theorem ones2 (x : Nat) (hx : x ≤ 18446744073709551615) : IntKind.u64.wrap (bits .and .u64 ((x : Int) / 4) 3689348814741910323 + bits .and .u64 (x : Int) 3689348814741910323) = ((OnesM.s2 x : Nat) : Int) := by
  have h := OnesM.s2_lt x
  have a := and_c (x / 4) 3689348814741910323 (by omega) (by omega)
  have b := and_c x 3689348814741910323 (by omega) (by omega)
  rw [Int.natCast_ediv] at a
  have a' : bits .and .u64 ((x : Int) / 4) 3689348814741910323 = _ := a
  have b' : bits .and .u64 (x : Int) 3689348814741910323 = _ := b
  rw [a', b', ← Int.natCast_add]
  exact IntWalk.u64_in _ ⟨Int.natCast_nonneg _, by have := h; unfold OnesM.s2 at this; omega⟩

theorem ones3 (x : Nat) (hx : x ≤ 7378697629483820646) : bits .and .u64 (IntKind.u64.wrap ((x : Int) / 16 + x)) 1085102592571150095 = ((OnesM.s3 x : Nat) : Int) := by
  have e : IntKind.u64.wrap ((x : Int) / 16 + x) = ((x / 16 + x : Nat) : Int) := by
    rw [Int.natCast_add, Int.natCast_ediv]
    exact IntWalk.u64_in _ (by omega)
  rw [e]
  exact and_c (x / 16 + x) 1085102592571150095 (by omega) (by omega)

theorem ones4 (x k : Nat) (hx : x ≤ 9223372036854775807) (_hk : 2 ≤ k) : IntKind.u64.wrap ((x : Int) + x / (k : Int)) = ((x + x / k : Nat) : Int) := by
  rw [Int.natCast_add, Int.natCast_ediv]
  have h : x / k ≤ x := Nat.div_le_self _ _
  rw [← Int.natCast_ediv, ← Int.natCast_add]
  generalize x / k = q at h ⊢
  exact IntWalk.u64_in _ (by omega)

set_option maxHeartbeats 400000 in
theorem ones_any (x : Nat) (hx : x < 18446744073709551616) (w : World) :
    Calls Try.prog 76 #[.int .u64 x] w fun e w' => e = .returned (.int .i64 (OnesM.popc x)) ∧ w = w' := by
  go_enter Try.func76, Try.ntmps76
  go_wp2
  go_ret
  refine ⟨ret_int ?_, rfl⟩
  have e1 := ones1 x (by omega)
  have e2 := ones2 (OnesM.s1 x) (by have := OnesM.s1_lt x; omega)
  have e3 := ones3 (OnesM.s2 (OnesM.s1 x)) (OnesM.s2_lt _)
  have e := OnesM.ones x (by omega)
  show bits BinOp.and IntKind.i64 _ 127 = _
  simp only [e1, e2, e3]
  dsimp only at e
  generalize OnesM.s3 (OnesM.s2 (OnesM.s1 x)) = a at e ⊢
  obtain ⟨h1, h2, h3⟩ := e
  have f1 := ones4 a 256 (by omega) (by omega)
  have f1' : IntKind.u64.wrap ((a : Int) + a / 256) = _ := f1
  rw [f1']
  clear f1 f1' e1 e2 e3
  obtain ⟨y, hy⟩ : ∃ y, y = a + a / 256 := ⟨_, rfl⟩
  rw [← hy] at h1 ⊢
  have hy' : y < 2 ^ 61 := by omega
  clear hy h2
  have f2 := ones4 y 65536 (by omega) (by omega)
  have f2' : IntKind.u64.wrap ((y : Int) + y / 65536) = _ := f2
  rw [f2']
  clear f2 f2'
  obtain ⟨z, hz⟩ : ∃ z, z = y + y / 65536 := ⟨_, rfl⟩
  rw [← hz] at h1 ⊢
  have hz' : z < 2 ^ 62 := by omega
  clear hz hy'
  have f3 := ones4 z 4294967296 (by omega) (by omega)
  have f3' : IntKind.u64.wrap ((z : Int) + z / 4294967296) = _ := f3
  rw [f3']
  clear f3 f3'
  obtain ⟨t, ht⟩ : ∃ t, t = z + z / 4294967296 := ⟨_, rfl⟩
  rw [← ht] at h1 ⊢
  have ht' : t < 2 ^ 63 := by omega
  rw [IntWalk.wrap64_in _ (by omega), i64_and127, ← h1]
  simp

/-- What 'Loop' looks for: the least thing that is in a loop. -/
def inLoop (rs : List Nat) (a : Nat) : Bool := decide (1 < OnesM.popc (backTo rs a rs.length))
def loopOf (rs : List Nat) : Option Nat := (List.range rs.length).find? (inLoop rs)

end Go.Proofs.Ytpjlhpaenmfieaa
