/- Faults, compared. -/
import Derived.Test.YtpjlhpaenmfieaaGreatRelAll
import Derived.Laws.StructEq
namespace Go.Proofs.YtpjlhpaenmfieaaGreat
open Go.RowKit

theorem pair_of_len {α : Type} {l : List α} (h : l.length = 2) : ∃ a b, l = [a, b] := by
  match l, h with
  | [a, b], _ => exact ⟨a, b, rfl⟩

theorem run_eqIn_flt (a b c d : Int) (w : World) : (Op.equalIn 10000 31 (.agg #[.int .i64 a, .int .i64 b]) (.agg #[.int .i64 c, .int .i64 d])).run Tryz.prog w = .ok (a == c && b == d) w := by
  rw [run_equalIn_struct w 9999 31 _ _ (by kernel_rfl) (by kernel_rfl)]
  obtain ⟨f1, f2, hf, h1, h2, h3, h4, h5, h6⟩ : ∃ f1 f2 : Field, (Tryz.prog.fieldsOf 31).toList = [f1, f2] ∧ f1.name ≠ "_" ∧ f2.name ≠ "_" ∧ f1.type = 29 ∧ f2.type = 3 ∧ f1.offset = 0 ∧ f2.offset = 1 := by
    have hm : (Tryz.prog.fieldsOf 31).toList.map (fun f => (f.name, f.type, f.offset)) = [("E", 29, 0), ("At", 3, 1)] := by kernel_rfl
    obtain ⟨f1, f2, hl⟩ := pair_of_len (show (Tryz.prog.fieldsOf 31).toList.length = 2 by have := congrArg List.length hm; simpa only [List.length_map, List.length_cons, List.length_nil] using this)
    rw [hl] at hm
    simp only [List.map_cons, List.map_nil, List.cons.injEq, Prod.mk.injEq, and_true] at hm
    obtain ⟨⟨a1, a2, a3⟩, b1, b2, b3⟩ := hm
    exact ⟨f1, f2, hl, by rw [a1]; decide, by rw [b1]; decide, a2, b2, a3, b3⟩
  have hp0 : ∀ x y : Int, (part 29 #[.int .i64 x, .int .i64 y] 0).run Tryz.prog w = .ok (.int .i64 x) w := fun x y => by kernel_rfl
  have hp1 : ∀ x y : Int, (part 3 #[.int .i64 x, .int .i64 y] 1).run Tryz.prog w = .ok (.int .i64 y) w := fun x y => by kernel_rfl
  have he : ∀ x y : Int, (Op.equalIn 9999 29 (.int .i64 x) (.int .i64 y)).run Tryz.prog w = .ok (x == y) w := fun x y => run_equalIn_int w 9998 _ _ .i64 x y (by kernel_rfl)
  have he2 : ∀ x y : Int, (Op.equalIn 9999 3 (.int .i64 x) (.int .i64 y)).run Tryz.prog w = .ok (x == y) w := fun x y => run_equalIn_int w 9998 _ _ .i64 x y (by kernel_rfl)
  rw [hf]
  unfold Op.eqFields
  rw [if_pos h1, h3, h5]
  simp only [Sem.run_bind, hp0, Result.andThen_ok, he]
  cases hx : (a == c)
  · simp
  · simp only [Bool.not_true, Bool.false_eq_true, if_false]
    unfold Op.eqFields
    rw [if_pos h2, h4, h6]
    simp only [Sem.run_bind, hp1, Result.andThen_ok, he2]
    cases hy : (b == d)
    · simp
    · simp [Op.eqFields]
end Go.Proofs.YtpjlhpaenmfieaaGreat
