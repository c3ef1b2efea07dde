/- strings.Join, of the shelf's contract. -/
import Derived.Test.YtpjlhpaenmfieaaGreatStrL
import Derived.Test.YtpjlhpaenmfieaaGreatNamAll
namespace Go.Proofs.YtpjlhpaenmfieaaGreat
open Go.RowKit Go.Shelf

theorem Tryz.extra156 : Builder.Extra Tryz.prog Tryz.lays156_ren := {
  sizeBuilder := by kernel_rfl
  liesBuilder := by kernel_rfl
  t5 := Tryz.underlying5
  a5 := Tryz.isAgg5
  z5 := Tryz.sizeOf5
  v5 := Tryz.zeroValue5
  infoByte := by kernel_rfl
  cellsByte := by kernel_rfl
  sizeByte := by kernel_rfl
  neB5 := by decide }

def joinS (xs : List ByteArray) (sep : ByteArray) : ByteArray := ⟨(Lib.join (xs.map (·.data.toList)) sep.data.toList).toArray⟩
theorem join_any (A : Option Addr) (c m : Nat) (xs : List ByteArray) (sep : ByteArray) (w : World) (h : StrAt w w.heap.size A xs) (hm : m = xs.length) (hc : m ≤ c) (hN : m ≤ 140737488355328) (hlen : (Lib.join (xs.map (·.data.toList)) sep.data.toList).length ≤ 140737488355328) :
    Calls Tryz.prog 55 #[.slice A m c, .string sep] w (fun e w' => e = .returned (.string (joinS xs sep)) ∧ Ext w w') := by
  subst hm
  by_cases h0 : xs.length = 0
  · obtain rfl : xs = [] := List.length_eq_zero_iff.1 h0
    refine (show Calls Tryz.prog 55 _ _ _ from Any.strings_Join_none Tryz.lays156 Tryz.extra156 A c sep w).mono ?_
    rintro e w' ⟨rfl, rfl⟩
    exact ⟨rfl, Ext.rfl' _⟩
  · obtain ⟨b, o, rfl, hb, hcell⟩ := h.cell (by omega)
    exact Any.strings_Join Tryz.lays156 Tryz.extra156 b o c xs sep w (fun j x hj => by
      obtain ⟨hlt, rfl⟩ := List.getElem?_eq_some_iff.1 hj
      exact hcell j hlt) hb hN hc hlen
end Go.Proofs.YtpjlhpaenmfieaaGreat
