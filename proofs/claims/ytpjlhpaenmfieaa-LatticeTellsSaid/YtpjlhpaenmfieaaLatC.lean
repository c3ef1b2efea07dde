/- lattice: many. -/
import Derived.Test.YtpjlhpaenmfieaaLatA
namespace Go.Proofs.Ytpjlhpaenmfieaa
open Go.RowKit

/-- A function that hands back a fault from its cell. -/
theorem flt_ret {g : Nat} {w2 : World} {fn : Func} {p : Tmp} {a : Act} {R : Ending → World → Prop} {f : Int × Int} (hB : Blk w2 g 29 #[.int .i64 f.1, .int .i64 f.2]) (hfn : fn.results = #[.cell p 29]) (hp : a.tmps.getD p undef = .pointer (some ⟨g, 0, none⟩)) (hd : a.defers = [])
    (hR : R (.returned (fltV f)) w2) : bodyPost Try.prog fn R .ret a w2 :=
  bodyPost_ret (results_cell_row hfn _ _ g 29 _ (0, 0) _ hp hB Try.underlying29 rfl (by kernel_rfl)) hd hR
theorem results_tmp_flt {fn : Func} {u p : Tmp} (h : fn.results = #[.tmp u, .cell p 29]) (tmps : Array Value) (w : World) (g : Nat) (f : Int × Int)
    (hp : tmps.getD p undef = .pointer (some ⟨g, 0, none⟩)) (hB : Blk w g 29 #[.int .i64 f.1, .int .i64 f.2]) :
    (results fn tmps).run Try.prog w = .ok (.tuple #[tmps.getD u undef, fltV f]) w := by
  have hp' : tmps[p]?.getD undef = .pointer (some ⟨g, 0, none⟩) := by simpa using hp
  have hl := run_loadVar_row (P := Try.prog) (ty := 29) w g 29 #[.int .i64 f.1, .int .i64 f.2] (0, 0) _ hB Try.underlying29 rfl (by kernel_rfl)
  simp [results, h, hp', asAddr, hl, fltV]
/-- A function that hands back a value and, from its cell, a fault. -/
theorem val_flt_ret {g : Nat} {w2 : World} {fn : Func} {u p : Tmp} {a : Act} {R : Ending → World → Prop} {f : Int × Int} {v : Value} (hB : Blk w2 g 29 #[.int .i64 f.1, .int .i64 f.2]) (hfn : fn.results = #[.tmp u, .cell p 29]) (hu : a.tmps.getD u undef = v) (hp : a.tmps.getD p undef = .pointer (some ⟨g, 0, none⟩)) (hd : a.defers = [])
    (hR : R (.returned (.tuple #[v, fltV f])) w2) : bodyPost Try.prog fn R .ret a w2 := by
  subst hu
  exact bodyPost_ret (results_tmp_flt hfn _ _ g f hp hB) hd hR

def manyL (ws : List Wd) (os : List (Wd × Wd)) : Int × Int :=
  if ws.length = 0 then (15, 0) else if 32 < ws.length then (8, wPl ws 32) else if 256 < os.length then (8, (lo os 256).2) else (0, 0)

set_option maxRecDepth 100000 in
theorem many_any (A : Option Addr) (c n : Nat) (ws : List Wd) (A2 : Option Addr) (c2 m : Nat) (os : List (Wd × Wd)) (w : World) (h : WdsAt w w.heap.size A ws) (hn : n = ws.length) (h2 : OdsAt w w.heap.size A2 os) (hm : m = os.length) :
    Calls Try.prog 44 #[.slice A n c, .slice A2 m c2] w (fun e w' => e = .returned (fltV (manyL ws os)) ∧ Ext w w') := by
  by_cases c0 : n = 0
  · have e : manyL ws os = (15, 0) := by unfold manyL; rw [if_pos (by omega)]
    rw [e]
    subst c0
    clear h h2 hn hm e
    go_enter Try.func44, Try.ntmps44
    go_wp2_with fail
    exact flt_ret (f := (15, 0)) (Blk.new _ _ _) rfl rfl rfl ⟨rfl, (Ext.rfl' w).alloc (Nat.le_refl _) _⟩
  by_cases c1 : 32 < n
  · have e : manyL ws os = (8, wPl ws 32) := by unfold manyL; rw [if_neg (by omega), if_pos (by omega)]
    rw [e]
    obtain ⟨b, o, rfl, hbs, hcell⟩ := h.cell (by omega)
    have d1 := (hcell 32 (by omega)).2
    obtain ⟨x, hx⟩ : ∃ x, x = wPl ws 32 := ⟨_, rfl⟩
    rw [← hx] at d1 ⊢
    clear hx hcell h h2 hn hm e
    go_enter Try.func44, Try.ntmps44
    go_wp2_with fail
    exact flt_ret (f := (8, x)) (Blk.new _ _ _) rfl rfl rfl ⟨rfl, (Ext.rfl' w).alloc (Nat.le_refl _) _⟩
  by_cases c2 : 256 < m
  · have e : manyL ws os = (8, (lo os 256).2) := by unfold manyL; rw [if_neg (by omega), if_neg (by omega), if_pos (by omega)]
    rw [e]
    obtain ⟨b, o, rfl, hbs, hcell⟩ := h2.cell (by omega)
    have d1 := (hcell 256 (by omega)).2.1
    obtain ⟨x, hx⟩ : ∃ x, x = (lo os 256).2 := ⟨_, rfl⟩
    rw [← hx] at d1 ⊢
    clear hx hcell h h2 hn hm e
    go_enter Try.func44, Try.ntmps44
    go_wp2_with fail
    exact flt_ret (f := (8, x)) (Blk.new _ _ _) rfl rfl rfl ⟨rfl, (Ext.rfl' w).alloc (Nat.le_refl _) _⟩
  · have e : manyL ws os = (0, 0) := by unfold manyL; rw [if_neg (by omega), if_neg (by omega), if_neg (by omega)]
    rw [e]
    clear h h2 hn hm e
    go_enter Try.func44, Try.ntmps44
    go_wp2_with fail
    exact flt_ret (f := (0, 0)) (Blk.new _ _ _) rfl rfl rfl ⟨rfl, (Ext.rfl' w).alloc (Nat.le_refl _) _⟩
end Go.Proofs.Ytpjlhpaenmfieaa
