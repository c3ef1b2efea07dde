/- The tables of layer 3, as the program and as the document have them. -/
import Derived.Test.YtkfepdejiedjbaaPinA
import Derived.Great.BuildSlice
import Derived.Great.Walk
import Derived.Great.Frames
namespace Go.Proofs.Ytkfepdejiedjbaa
open Go.RowKit

/-- The operation that builds one range. -/
def pOp (t : TypeId) (pos : String) (d : Nat) (p : Int × Int) : Oper :=
  { dst := some d, op := .build t #[(0, .const (.int .i32 p.1)), (1, .const (.int .i32 p.2))], type := t, pos := pos, after := #[], guard := none }
def pOps (t : TypeId) (pos : String) : Nat → List (Int × Int) → List Oper
  | _, [] => []
  | d, x :: xs => pOp t pos d x :: pOps t pos (d + 1) xs
def pCells (p : Int × Int) : Array Value := #[i32v p.1, i32v p.2]

theorem wpList_ps {P : Program} {ops : Array Oper} {rest : List Oper} {w : World} {Q : Exit → Act → World → Prop} (t : TypeId) (pos : String)
    (hb : ∀ x y : Int, P.built t [(0, .int .i32 x), (1, .int .i32 y)] = some #[.int .i32 x, .int .i32 y]) :
    ∀ (xs : List (Int × Int)) (d : Nat) (a : Act), d + xs.length ≤ a.tmps.size →
      (∀ a' : Act, a'.tmps.size = a.tmps.size → a'.defers = a.defers → (∀ i (h : i < xs.length), a'.eval (.tmp (d + i)) = .agg (pCells xs[i])) →
        (∀ j, j < d → a'.eval (.tmp j) = a.eval (.tmp j)) → wpList P ops Q rest a' w) →
      wpList P ops Q (pOps t pos d xs ++ rest) a w
  | [], d, a, _, h => h a rfl rfl (fun i hi => absurd hi (by simp)) (fun _ _ => rfl)
  | x :: xs, d, a, hd, h => by
    have hlt : d < a.tmps.size := by simp at hd; omega
    show wpList P ops Q (pOp t pos d x :: (pOps t pos (d + 1) xs ++ rest)) a w
    refine wpList_buildTo rfl t _ rfl (some d) rfl (pCells x) (by simpa [Act.eval, pCells] using hb x.1 x.2) ?_
    refine wpList_ps t pos hb xs (d + 1) _ (by rw [Act.size_put]; simp at hd; omega) fun a' hs hdf hev hlow => ?_
    refine h a' (hs.trans (Act.size_put _ _ _)) (hdf.trans (Act.defers_put' _ _ _)) (fun i hi => ?_) (fun j hj => ?_)
    · cases i with
      | zero => rw [Nat.add_zero, hlow d (by omega), Act.eval_put_same _ _ _ hlt]; rfl
      | succ i =>
        have := hev i (by simpa using hi)
        rw [show d + (i + 1) = d + 1 + i by omega, this]
        rfl
    · rw [hlow j (by omega), Act.eval_put_ne _ _ _ _ (by omega)]

theorem wpList_buildPs {P : Program} {ops : Array Oper} {rest : List Oper} {o : Oper} {a : Act} {w : World} {Q : Exit → Act → World → Prop} (hg : o.guard = none) (t e : TypeId) (n : Nat) (parts : Array (Nat × Operand)) (T : List (Int × Int))
    (ho : o.op = .buildSlice t n parts) (d : Nat) (dst : Option Tmp) (hdst : o.dst = dst)
    (hu : P.underlying t = some (.slice e)) (hsz : (P.info? e).map (·.size) = some 2) (hz : ((P.info? e).bind (·.zero)).isSome = true)
    (hn : n = T.length) (hpos : 0 < n) (hsmall : n * 2 ≤ 2 ^ 24)
    (hparts : parts.toList = (List.range n).map fun i => (i, Operand.tmp (d + i)))
    (hev : ∀ i (h : i < T.length), a.eval (.tmp (d + i)) = .agg (pCells T[i]))
    (h : wpList P ops Q rest (a.put dst (.slice (some ⟨w.heap.size, 0, none⟩) T.length T.length)) (w.alloc (.cells (rngCells T).toArray e))) : wpList P ops Q (o :: rest) a w := by
  subst hdst hn
  cases hie : P.info? e with
  | none => simp [hie] at hsz
  | some ie =>
    simp only [hie, Option.map_some, Option.some.injEq, Option.bind_some] at hsz hz
    obtain ⟨z, hzz⟩ := Option.isSome_iff_exists.1 hz
    refine wpList_buildSlice hg t e T.length parts ho _ ie z hu hie hzz (by rw [hsz]; omega) (by rw [hsz]; omega) ?_ h
    have e1 : (parts.map fun (i, x) => (i, a.eval x)).toList = ((T.map fun x => Value.agg (pCells x)).zipIdx 0).map fun x => (x.2, x.1) := by
      rw [Array.toList_map, hparts, List.map_map]
      apply List.ext_getElem
      · simp
      · intro i h1 h2
        have hi : i < T.length := by simpa using h1
        simp only [List.getElem_map, List.getElem_range, Function.comp, List.getElem_zipIdx, Nat.zero_add]
        rw [hev i hi]
    rw [e1, hsz]
    have := Great.fill_whole (s := 2) (by omega) (T.map fun x => Value.agg (pCells x)) ((Array.range (T.length * 2)).map (z.cells[· % z.cells.size]!))
      (fun v hv => by obtain ⟨x, _, rfl⟩ := List.mem_map.1 hv; rfl) (by simp)
    rw [this]
    congr 2
    simp [List.flatMap_map, Value.cells, pCells, rngCells]

theorem wpList_assignTo {P : Program} {ops : Array Oper} {rest : List Oper} {o : Oper} {a : Act} {w : World} {Q : Exit → Act → World → Prop} (hg : o.guard = none) (x : Operand) (ho : o.op = .assign x) (d : Option Tmp) (hd : o.dst = d) (v : Value) (hv : a.eval x = v)
    (h : wpList P ops Q rest (a.put d v) w) : wpList P ops Q (o :: rest) a w := by
  subst hd hv
  refine wpList_plain hg fun K hK => ?_
  unfold Oper.wp execOp
  simp only [ho, Sem.run_pure]
  exact hK _ _ h

theorem wpList_cut {P : Program} {ops : Array Oper} {Q : Exit → Act → World → Prop} {l : List Oper} {a : Act} {w : World} (n : Nat) (l1 : List Oper) (hl : l = l1 ++ l.drop n)
    (h : wpList P ops Q (l1 ++ l.drop n) a w) : wpList P ops Q l a w := by rw [hl]; exact h

def pin_wide : List (Int × Int) := [(4352, 4447), (8986, 8987), (9001, 9002), (9193, 9196), (9200, 9200), (9203, 9203), (9725, 9726), (9748, 9749), (9800, 9811), (9855, 9855), (9875, 9875), (9889, 9889), (9898, 9899), (9917, 9918), (9924, 9925), (9934, 9934), (9940, 9940), (9962, 9962), (9970, 9971), (9973, 9973), (9978, 9978), (9981, 9981), (9989, 9989), (9994, 9995), (10024, 10024), (10060, 10060), (10062, 10062), (10067, 10069), (10071, 10071), (10133, 10135), (10160, 10160), (10175, 10175), (11035, 11036), (11088, 11088), (11093, 11093), (11904, 11929), (11931, 12019), (12032, 12245), (12272, 12283), (12288, 12329), (12334, 12350), (12353, 12438), (12443, 12543), (12549, 12591), (12593, 12686), (12688, 12730), (12736, 12771), (12784, 12830), (12832, 12871), (12880, 19903), (19968, 42124), (42128, 42182), (43360, 43388), (44032, 55203), (63744, 64255), (65040, 65049), (65072, 65106), (65108, 65126), (65128, 65131), (65281, 65376), (65504, 65510), (94176, 94179), (94208, 100343), (100352, 101106), (110592, 110878), (110928, 110930), (110948, 110951), (110960, 111355), (126980, 126980), (127183, 127183), (127374, 127374), (127377, 127386), (127488, 127490), (127504, 127547), (127552, 127560), (127568, 127569), (127584, 127589), (127744, 127776), (127789, 127797), (127799, 127868), (127870, 127891), (127904, 127946), (127951, 127955), (127968, 127984), (127988, 127988), (127992, 128062), (128064, 128064), (128066, 128252), (128255, 128317), (128331, 128334), (128336, 128359), (128378, 128378), (128405, 128406), (128420, 128420), (128507, 128591), (128640, 128709), (128716, 128716), (128720, 128722), (128725, 128727), (128747, 128748), (128756, 128764), (128992, 129003), (129292, 129338), (129340, 129349), (129351, 129400), (129402, 129483), (129485, 129535), (129648, 129652), (129656, 129658), (129664, 129670), (129680, 129704), (129712, 129718), (129728, 129730), (129744, 129750), (131072, 196605), (196608, 262141)]
def pin_zero : List (Int × Int) := [(768, 879), (1155, 1161), (1425, 1469), (1471, 1471), (1473, 1474), (1476, 1477), (1479, 1479), (1552, 1562), (1611, 1631), (1648, 1648), (1750, 1756), (1759, 1764), (1767, 1768), (1770, 1773), (1809, 1809), (1840, 1866), (1958, 1968), (2027, 2035), (2070, 2073), (2075, 2083), (2085, 2087), (2089, 2093), (2137, 2139), (2259, 2273), (2275, 2306), (2362, 2362), (2364, 2364), (2369, 2376), (2381, 2381), (2385, 2391), (2402, 2403), (2433, 2433), (2492, 2492), (2497, 2500), (2509, 2509), (2561, 2562), (2620, 2620), (2625, 2626), (2631, 2632), (2635, 2637), (3633, 3633), (3636, 3642), (3655, 3662), (3761, 3761), (3764, 3772), (3784, 3789), (4448, 4607), (4957, 4959), (5906, 5908), (6068, 6069), (6071, 6077), (6155, 6157), (6832, 6846), (7616, 7673), (7675, 7679), (8203, 8207), (8232, 8238), (8288, 8303), (8400, 8432), (12330, 12333), (12441, 12442), (42607, 42610), (42612, 42621), (42654, 42655), (42736, 42737), (43232, 43249), (64286, 64286), (65024, 65039), (65056, 65071), (65279, 65279), (65529, 65531), (66045, 66045), (68097, 68099), (68101, 68102), (68108, 68111), (119143, 119145), (119155, 119170), (119173, 119179), (119210, 119213), (917505, 917505), (917536, 917631), (917760, 917999)]
def pin_control : List (Int × Int) := [(0, 31), (127, 159)]
def pin_bidi : List (Int × Int) := [(1564, 1564), (8206, 8207), (8234, 8238), (8294, 8297)]
def pin_format : List (Int × Int) := [(173, 173), (1536, 1541), (1757, 1757), (1807, 1807), (2274, 2274), (6158, 6158), (8203, 8205), (8288, 8292), (8298, 8303), (65279, 65279), (65529, 65531), (69821, 69821), (69837, 69837), (113824, 113827), (119155, 119162), (917505, 917505), (917536, 917631)]
def pin_separator : List (Int × Int) := [(8232, 8233)]
def ref_Wide : List (Int × Int) := [(4352, 4447), (8986, 8987), (9001, 9002), (9193, 9196), (9200, 9200), (9203, 9203), (9725, 9726), (9748, 9749), (9800, 9811), (9855, 9855), (9875, 9875), (9889, 9889), (9898, 9899), (9917, 9918), (9924, 9925), (9934, 9934), (9940, 9940), (9962, 9962), (9970, 9971), (9973, 9973), (9978, 9978), (9981, 9981), (9989, 9989), (9994, 9995), (10024, 10024), (10060, 10060), (10062, 10062), (10067, 10069), (10071, 10071), (10133, 10135), (10160, 10160), (10175, 10175), (11035, 11036), (11088, 11088), (11093, 11093), (11904, 11929), (11931, 12019), (12032, 12245), (12272, 12283), (12288, 12329), (12334, 12350), (12353, 12438), (12443, 12543), (12549, 12591), (12593, 12686), (12688, 12730), (12736, 12771), (12784, 12830), (12832, 12871), (12880, 19903), (19968, 42124), (42128, 42182), (43360, 43388), (44032, 55203), (63744, 64255), (65040, 65049), (65072, 65106), (65108, 65126), (65128, 65131), (65281, 65376), (65504, 65510), (94176, 94179), (94208, 100343), (100352, 101106), (110592, 110878), (110928, 110930), (110948, 110951), (110960, 111355), (126980, 126980), (127183, 127183), (127374, 127374), (127377, 127386), (127488, 127490), (127504, 127547), (127552, 127560), (127568, 127569), (127584, 127589), (127744, 127776), (127789, 127797), (127799, 127868), (127870, 127891), (127904, 127946), (127951, 127955), (127968, 127984), (127988, 127988), (127992, 128062), (128064, 128064), (128066, 128252), (128255, 128317), (128331, 128334), (128336, 128359), (128378, 128378), (128405, 128406), (128420, 128420), (128507, 128591), (128640, 128709), (128716, 128716), (128720, 128722), (128725, 128727), (128747, 128748), (128756, 128764), (128992, 129003), (129292, 129338), (129340, 129349), (129351, 129400), (129402, 129483), (129485, 129535), (129648, 129652), (129656, 129658), (129664, 129670), (129680, 129704), (129712, 129718), (129728, 129730), (129744, 129750), (131072, 196605), (196608, 262141)]
def ref_Zero : List (Int × Int) := [(768, 879), (1155, 1161), (1425, 1469), (1471, 1471), (1473, 1474), (1476, 1477), (1479, 1479), (1552, 1562), (1611, 1631), (1648, 1648), (1750, 1756), (1759, 1764), (1767, 1768), (1770, 1773), (1809, 1809), (1840, 1866), (1958, 1968), (2027, 2035), (2070, 2073), (2075, 2083), (2085, 2087), (2089, 2093), (2137, 2139), (2259, 2273), (2275, 2306), (2362, 2362), (2364, 2364), (2369, 2376), (2381, 2381), (2385, 2391), (2402, 2403), (2433, 2433), (2492, 2492), (2497, 2500), (2509, 2509), (2561, 2562), (2620, 2620), (2625, 2626), (2631, 2632), (2635, 2637), (3633, 3633), (3636, 3642), (3655, 3662), (3761, 3761), (3764, 3772), (3784, 3789), (4448, 4607), (4957, 4959), (5906, 5908), (6068, 6069), (6071, 6077), (6155, 6157), (6832, 6846), (7616, 7673), (7675, 7679), (8203, 8207), (8232, 8238), (8288, 8303), (8400, 8432), (12330, 12333), (12441, 12442), (42607, 42610), (42612, 42621), (42654, 42655), (42736, 42737), (43232, 43249), (64286, 64286), (65024, 65039), (65056, 65071), (65279, 65279), (65529, 65531), (66045, 66045), (68097, 68099), (68101, 68102), (68108, 68111), (119143, 119145), (119155, 119170), (119173, 119179), (119210, 119213), (917505, 917505), (917536, 917631), (917760, 917999)]
def ref_bidi : List (Int × Int) := [(1564, 1564), (8206, 8207), (8234, 8238), (8294, 8297)]
def ref_format : List (Int × Int) := [(173, 173), (1536, 1541), (1757, 1757), (1807, 1807), (2274, 2274), (6158, 6158), (8203, 8205), (8288, 8292), (8298, 8303), (65279, 65279), (65529, 65531), (69821, 69821), (69837, 69837), (113824, 113827), (119155, 119162), (917505, 917505), (917536, 917631)]

set_option maxRecDepth 1000000 in
set_option maxHeartbeats 4000000 in
theorem pin_wideT_any (w : World) : Calls Try.prog 71 #[] w (TabPost pin_wide w) := by
  go_enter Try.func71, Try.ntmps71
  apply wp_seq_k; intro K0 hK0
  apply wp_region_lit
  refine wpList_assignTo rfl _ rfl (some 0) rfl (.slice none 0 0) rfl ?_
  apply wpList_nil
  refine hK0 _ _ ?_
  refine Go.Great.wp_anyFrame 118 (by as_aux_lemma => kernel_rfl) rfl fun a0 hs0 hd0 => ?_
  apply wp_seq_k; intro K1 hK1
  apply wp_region_lit
  refine wpList_cut 116 (pOps 98 "pinned.go:50" 1 pin_wide) (by as_aux_lemma => kernel_rfl) ?_
  refine wpList_ps 98 "pinned.go:50" (fun _ _ => by as_aux_lemma => kernel_rfl) pin_wide 1 _ (by rw [hs0]; exact Nat.le_of_ble_eq_true (by as_aux_lemma => kernel_rfl)) fun b0 hb0 hbd0 hev0 _ => ?_
  refine wpList_buildPs rfl 82 98 116 _ pin_wide rfl 1 (some 117) rfl (by as_aux_lemma => kernel_rfl) (by as_aux_lemma => kernel_rfl) (by as_aux_lemma => kernel_rfl) (by as_aux_lemma => kernel_rfl) (by decide) (by decide) (by as_aux_lemma => kernel_rfl) hev0 ?_
  refine wpList_assignTo rfl (.tmp 117) rfl (some 0) rfl (.slice (some ⟨w.heap.size, 0, none⟩) (List.length pin_wide) (List.length pin_wide)) (Act.eval_put_same _ _ _ (by rw [hb0, hs0]; omega)) ?_
  apply wpList_nil
  refine hK1 _ _ ?_
  apply wp_ret
  refine bodyPost_ret (results_tmp (t := 0) rfl _ _ _) (by simp only [Act.defers_put', hbd0, hd0]) ?_
  refine ⟨w.heap.size, ?_, reads_lit w _ _ _ rfl rfl, (Ext.rfl' w).alloc (Nat.le_refl _) _⟩
  have h0 := Act.eval_put_same (b0.put (some 117) (.slice (some ⟨w.heap.size, 0, none⟩) (List.length pin_wide) (List.length pin_wide))) 0 (.slice (some ⟨w.heap.size, 0, none⟩) (List.length pin_wide) (List.length pin_wide)) (by rw [Act.size_put, hb0, hs0]; omega)
  exact congrArg Ending.returned h0

set_option maxRecDepth 1000000 in
set_option maxHeartbeats 4000000 in
theorem pin_zeroT_any (w : World) : Calls Try.prog 72 #[] w (TabPost pin_zero w) := by
  go_enter Try.func72, Try.ntmps72
  apply wp_seq_k; intro K0 hK0
  apply wp_region_lit
  refine wpList_assignTo rfl _ rfl (some 0) rfl (.slice none 0 0) rfl ?_
  apply wpList_nil
  refine hK0 _ _ ?_
  refine Go.Great.wp_anyFrame 84 (by as_aux_lemma => kernel_rfl) rfl fun a0 hs0 hd0 => ?_
  apply wp_seq_k; intro K1 hK1
  apply wp_region_lit
  refine wpList_cut 82 (pOps 98 "pinned.go:23" 1 pin_zero) (by as_aux_lemma => kernel_rfl) ?_
  refine wpList_ps 98 "pinned.go:23" (fun _ _ => by as_aux_lemma => kernel_rfl) pin_zero 1 _ (by rw [hs0]; exact Nat.le_of_ble_eq_true (by as_aux_lemma => kernel_rfl)) fun b0 hb0 hbd0 hev0 _ => ?_
  refine wpList_buildPs rfl 82 98 82 _ pin_zero rfl 1 (some 83) rfl (by as_aux_lemma => kernel_rfl) (by as_aux_lemma => kernel_rfl) (by as_aux_lemma => kernel_rfl) (by as_aux_lemma => kernel_rfl) (by decide) (by decide) (by as_aux_lemma => kernel_rfl) hev0 ?_
  refine wpList_assignTo rfl (.tmp 83) rfl (some 0) rfl (.slice (some ⟨w.heap.size, 0, none⟩) (List.length pin_zero) (List.length pin_zero)) (Act.eval_put_same _ _ _ (by rw [hb0, hs0]; omega)) ?_
  apply wpList_nil
  refine hK1 _ _ ?_
  apply wp_ret
  refine bodyPost_ret (results_tmp (t := 0) rfl _ _ _) (by simp only [Act.defers_put', hbd0, hd0]) ?_
  refine ⟨w.heap.size, ?_, reads_lit w _ _ _ rfl rfl, (Ext.rfl' w).alloc (Nat.le_refl _) _⟩
  have h0 := Act.eval_put_same (b0.put (some 83) (.slice (some ⟨w.heap.size, 0, none⟩) (List.length pin_zero) (List.length pin_zero))) 0 (.slice (some ⟨w.heap.size, 0, none⟩) (List.length pin_zero) (List.length pin_zero)) (by rw [Act.size_put, hb0, hs0]; omega)
  exact congrArg Ending.returned h0

set_option maxRecDepth 1000000 in
set_option maxHeartbeats 4000000 in
theorem pin_controlT_any (w : World) : Calls Try.prog 73 #[] w (TabPost pin_control w) := by
  go_enter Try.func73, Try.ntmps73
  apply wp_seq_k; intro K0 hK0
  apply wp_region_lit
  refine wpList_assignTo rfl _ rfl (some 0) rfl (.slice none 0 0) rfl ?_
  apply wpList_nil
  refine hK0 _ _ ?_
  refine Go.Great.wp_anyFrame 4 (by as_aux_lemma => kernel_rfl) rfl fun a0 hs0 hd0 => ?_
  apply wp_seq_k; intro K1 hK1
  apply wp_region_lit
  refine wpList_cut 2 (pOps 98 "pinned.go:85" 1 pin_control) (by as_aux_lemma => kernel_rfl) ?_
  refine wpList_ps 98 "pinned.go:85" (fun _ _ => by as_aux_lemma => kernel_rfl) pin_control 1 _ (by rw [hs0]; exact Nat.le_of_ble_eq_true (by as_aux_lemma => kernel_rfl)) fun b0 hb0 hbd0 hev0 _ => ?_
  refine wpList_buildPs rfl 82 98 2 _ pin_control rfl 1 (some 3) rfl (by as_aux_lemma => kernel_rfl) (by as_aux_lemma => kernel_rfl) (by as_aux_lemma => kernel_rfl) (by as_aux_lemma => kernel_rfl) (by decide) (by decide) (by as_aux_lemma => kernel_rfl) hev0 ?_
  refine wpList_assignTo rfl (.tmp 3) rfl (some 0) rfl (.slice (some ⟨w.heap.size, 0, none⟩) (List.length pin_control) (List.length pin_control)) (Act.eval_put_same _ _ _ (by rw [hb0, hs0]; omega)) ?_
  apply wpList_nil
  refine hK1 _ _ ?_
  apply wp_ret
  refine bodyPost_ret (results_tmp (t := 0) rfl _ _ _) (by simp only [Act.defers_put', hbd0, hd0]) ?_
  refine ⟨w.heap.size, ?_, reads_lit w _ _ _ rfl rfl, (Ext.rfl' w).alloc (Nat.le_refl _) _⟩
  have h0 := Act.eval_put_same (b0.put (some 3) (.slice (some ⟨w.heap.size, 0, none⟩) (List.length pin_control) (List.length pin_control))) 0 (.slice (some ⟨w.heap.size, 0, none⟩) (List.length pin_control) (List.length pin_control)) (by rw [Act.size_put, hb0, hs0]; omega)
  exact congrArg Ending.returned h0

set_option maxRecDepth 1000000 in
set_option maxHeartbeats 4000000 in
theorem pin_bidiT_any (w : World) : Calls Try.prog 74 #[] w (TabPost pin_bidi w) := by
  go_enter Try.func74, Try.ntmps74
  apply wp_seq_k; intro K0 hK0
  apply wp_region_lit
  refine wpList_assignTo rfl _ rfl (some 0) rfl (.slice none 0 0) rfl ?_
  apply wpList_nil
  refine hK0 _ _ ?_
  refine Go.Great.wp_anyFrame 6 (by as_aux_lemma => kernel_rfl) rfl fun a0 hs0 hd0 => ?_
  apply wp_seq_k; intro K1 hK1
  apply wp_region_lit
  refine wpList_cut 4 (pOps 98 "pinned.go:92" 1 pin_bidi) (by as_aux_lemma => kernel_rfl) ?_
  refine wpList_ps 98 "pinned.go:92" (fun _ _ => by as_aux_lemma => kernel_rfl) pin_bidi 1 _ (by rw [hs0]; exact Nat.le_of_ble_eq_true (by as_aux_lemma => kernel_rfl)) fun b0 hb0 hbd0 hev0 _ => ?_
  refine wpList_buildPs rfl 82 98 4 _ pin_bidi rfl 1 (some 5) rfl (by as_aux_lemma => kernel_rfl) (by as_aux_lemma => kernel_rfl) (by as_aux_lemma => kernel_rfl) (by as_aux_lemma => kernel_rfl) (by decide) (by decide) (by as_aux_lemma => kernel_rfl) hev0 ?_
  refine wpList_assignTo rfl (.tmp 5) rfl (some 0) rfl (.slice (some ⟨w.heap.size, 0, none⟩) (List.length pin_bidi) (List.length pin_bidi)) (Act.eval_put_same _ _ _ (by rw [hb0, hs0]; omega)) ?_
  apply wpList_nil
  refine hK1 _ _ ?_
  apply wp_ret
  refine bodyPost_ret (results_tmp (t := 0) rfl _ _ _) (by simp only [Act.defers_put', hbd0, hd0]) ?_
  refine ⟨w.heap.size, ?_, reads_lit w _ _ _ rfl rfl, (Ext.rfl' w).alloc (Nat.le_refl _) _⟩
  have h0 := Act.eval_put_same (b0.put (some 5) (.slice (some ⟨w.heap.size, 0, none⟩) (List.length pin_bidi) (List.length pin_bidi))) 0 (.slice (some ⟨w.heap.size, 0, none⟩) (List.length pin_bidi) (List.length pin_bidi)) (by rw [Act.size_put, hb0, hs0]; omega)
  exact congrArg Ending.returned h0

set_option maxRecDepth 1000000 in
set_option maxHeartbeats 4000000 in
theorem pin_formatT_any (w : World) : Calls Try.prog 75 #[] w (TabPost pin_format w) := by
  go_enter Try.func75, Try.ntmps75
  apply wp_seq_k; intro K0 hK0
  apply wp_region_lit
  refine wpList_assignTo rfl _ rfl (some 0) rfl (.slice none 0 0) rfl ?_
  apply wpList_nil
  refine hK0 _ _ ?_
  refine Go.Great.wp_anyFrame 19 (by as_aux_lemma => kernel_rfl) rfl fun a0 hs0 hd0 => ?_
  apply wp_seq_k; intro K1 hK1
  apply wp_region_lit
  refine wpList_cut 17 (pOps 98 "pinned.go:99" 1 pin_format) (by as_aux_lemma => kernel_rfl) ?_
  refine wpList_ps 98 "pinned.go:99" (fun _ _ => by as_aux_lemma => kernel_rfl) pin_format 1 _ (by rw [hs0]; exact Nat.le_of_ble_eq_true (by as_aux_lemma => kernel_rfl)) fun b0 hb0 hbd0 hev0 _ => ?_
  refine wpList_buildPs rfl 82 98 17 _ pin_format rfl 1 (some 18) rfl (by as_aux_lemma => kernel_rfl) (by as_aux_lemma => kernel_rfl) (by as_aux_lemma => kernel_rfl) (by as_aux_lemma => kernel_rfl) (by decide) (by decide) (by as_aux_lemma => kernel_rfl) hev0 ?_
  refine wpList_assignTo rfl (.tmp 18) rfl (some 0) rfl (.slice (some ⟨w.heap.size, 0, none⟩) (List.length pin_format) (List.length pin_format)) (Act.eval_put_same _ _ _ (by rw [hb0, hs0]; omega)) ?_
  apply wpList_nil
  refine hK1 _ _ ?_
  apply wp_ret
  refine bodyPost_ret (results_tmp (t := 0) rfl _ _ _) (by simp only [Act.defers_put', hbd0, hd0]) ?_
  refine ⟨w.heap.size, ?_, reads_lit w _ _ _ rfl rfl, (Ext.rfl' w).alloc (Nat.le_refl _) _⟩
  have h0 := Act.eval_put_same (b0.put (some 18) (.slice (some ⟨w.heap.size, 0, none⟩) (List.length pin_format) (List.length pin_format))) 0 (.slice (some ⟨w.heap.size, 0, none⟩) (List.length pin_format) (List.length pin_format)) (by rw [Act.size_put, hb0, hs0]; omega)
  exact congrArg Ending.returned h0

set_option maxRecDepth 1000000 in
set_option maxHeartbeats 4000000 in
theorem pin_separatorT_any (w : World) : Calls Try.prog 76 #[] w (TabPost pin_separator w) := by
  go_enter Try.func76, Try.ntmps76
  apply wp_seq_k; intro K0 hK0
  apply wp_region_lit
  refine wpList_assignTo rfl _ rfl (some 0) rfl (.slice none 0 0) rfl ?_
  apply wpList_nil
  refine hK0 _ _ ?_
  refine Go.Great.wp_anyFrame 3 (by as_aux_lemma => kernel_rfl) rfl fun a0 hs0 hd0 => ?_
  apply wp_seq_k; intro K1 hK1
  apply wp_region_lit
  refine wpList_cut 1 (pOps 98 "pinned.go:110" 1 pin_separator) (by as_aux_lemma => kernel_rfl) ?_
  refine wpList_ps 98 "pinned.go:110" (fun _ _ => by as_aux_lemma => kernel_rfl) pin_separator 1 _ (by rw [hs0]; exact Nat.le_of_ble_eq_true (by as_aux_lemma => kernel_rfl)) fun b0 hb0 hbd0 hev0 _ => ?_
  refine wpList_buildPs rfl 82 98 1 _ pin_separator rfl 1 (some 2) rfl (by as_aux_lemma => kernel_rfl) (by as_aux_lemma => kernel_rfl) (by as_aux_lemma => kernel_rfl) (by as_aux_lemma => kernel_rfl) (by decide) (by decide) (by as_aux_lemma => kernel_rfl) hev0 ?_
  refine wpList_assignTo rfl (.tmp 2) rfl (some 0) rfl (.slice (some ⟨w.heap.size, 0, none⟩) (List.length pin_separator) (List.length pin_separator)) (Act.eval_put_same _ _ _ (by rw [hb0, hs0]; omega)) ?_
  apply wpList_nil
  refine hK1 _ _ ?_
  apply wp_ret
  refine bodyPost_ret (results_tmp (t := 0) rfl _ _ _) (by simp only [Act.defers_put', hbd0, hd0]) ?_
  refine ⟨w.heap.size, ?_, reads_lit w _ _ _ rfl rfl, (Ext.rfl' w).alloc (Nat.le_refl _) _⟩
  have h0 := Act.eval_put_same (b0.put (some 2) (.slice (some ⟨w.heap.size, 0, none⟩) (List.length pin_separator) (List.length pin_separator))) 0 (.slice (some ⟨w.heap.size, 0, none⟩) (List.length pin_separator) (List.length pin_separator)) (by rw [Act.size_put, hb0, hs0]; omega)
  exact congrArg Ending.returned h0

set_option maxRecDepth 1000000 in
set_option maxHeartbeats 4000000 in
theorem ref_WideT_any (w : World) : Calls Try.prog 66 #[] w (TabPost ref_Wide w) := by
  go_enter Try.func66, Try.ntmps66
  apply wp_seq_k; intro K0 hK0
  apply wp_region_lit
  refine wpList_assignTo rfl _ rfl (some 0) rfl (.slice none 0 0) rfl ?_
  apply wpList_nil
  refine hK0 _ _ ?_
  refine Go.Great.wp_anyFrame 118 (by as_aux_lemma => kernel_rfl) rfl fun a0 hs0 hd0 => ?_
  apply wp_seq_k; intro K1 hK1
  apply wp_region_lit
  refine wpList_cut 116 (pOps 85 "ref.go:31" 1 ref_Wide) (by as_aux_lemma => kernel_rfl) ?_
  refine wpList_ps 85 "ref.go:31" (fun _ _ => by as_aux_lemma => kernel_rfl) ref_Wide 1 _ (by rw [hs0]; exact Nat.le_of_ble_eq_true (by as_aux_lemma => kernel_rfl)) fun b0 hb0 hbd0 hev0 _ => ?_
  refine wpList_buildPs rfl 47 85 116 _ ref_Wide rfl 1 (some 117) rfl (by as_aux_lemma => kernel_rfl) (by as_aux_lemma => kernel_rfl) (by as_aux_lemma => kernel_rfl) (by as_aux_lemma => kernel_rfl) (by decide) (by decide) (by as_aux_lemma => kernel_rfl) hev0 ?_
  refine wpList_assignTo rfl (.tmp 117) rfl (some 0) rfl (.slice (some ⟨w.heap.size, 0, none⟩) (List.length ref_Wide) (List.length ref_Wide)) (Act.eval_put_same _ _ _ (by rw [hb0, hs0]; omega)) ?_
  apply wpList_nil
  refine hK1 _ _ ?_
  apply wp_ret
  refine bodyPost_ret (results_tmp (t := 0) rfl _ _ _) (by simp only [Act.defers_put', hbd0, hd0]) ?_
  refine ⟨w.heap.size, ?_, reads_lit w _ _ _ rfl rfl, (Ext.rfl' w).alloc (Nat.le_refl _) _⟩
  have h0 := Act.eval_put_same (b0.put (some 117) (.slice (some ⟨w.heap.size, 0, none⟩) (List.length ref_Wide) (List.length ref_Wide))) 0 (.slice (some ⟨w.heap.size, 0, none⟩) (List.length ref_Wide) (List.length ref_Wide)) (by rw [Act.size_put, hb0, hs0]; omega)
  exact congrArg Ending.returned h0

set_option maxRecDepth 1000000 in
set_option maxHeartbeats 4000000 in
theorem ref_ZeroT_any (w : World) : Calls Try.prog 67 #[] w (TabPost ref_Zero w) := by
  go_enter Try.func67, Try.ntmps67
  apply wp_seq_k; intro K0 hK0
  apply wp_region_lit
  refine wpList_assignTo rfl _ rfl (some 0) rfl (.slice none 0 0) rfl ?_
  apply wpList_nil
  refine hK0 _ _ ?_
  refine Go.Great.wp_anyFrame 84 (by as_aux_lemma => kernel_rfl) rfl fun a0 hs0 hd0 => ?_
  apply wp_seq_k; intro K1 hK1
  apply wp_region_lit
  refine wpList_cut 82 (pOps 85 "ref.go:11" 1 ref_Zero) (by as_aux_lemma => kernel_rfl) ?_
  refine wpList_ps 85 "ref.go:11" (fun _ _ => by as_aux_lemma => kernel_rfl) ref_Zero 1 _ (by rw [hs0]; exact Nat.le_of_ble_eq_true (by as_aux_lemma => kernel_rfl)) fun b0 hb0 hbd0 hev0 _ => ?_
  refine wpList_buildPs rfl 47 85 82 _ ref_Zero rfl 1 (some 83) rfl (by as_aux_lemma => kernel_rfl) (by as_aux_lemma => kernel_rfl) (by as_aux_lemma => kernel_rfl) (by as_aux_lemma => kernel_rfl) (by decide) (by decide) (by as_aux_lemma => kernel_rfl) hev0 ?_
  refine wpList_assignTo rfl (.tmp 83) rfl (some 0) rfl (.slice (some ⟨w.heap.size, 0, none⟩) (List.length ref_Zero) (List.length ref_Zero)) (Act.eval_put_same _ _ _ (by rw [hb0, hs0]; omega)) ?_
  apply wpList_nil
  refine hK1 _ _ ?_
  apply wp_ret
  refine bodyPost_ret (results_tmp (t := 0) rfl _ _ _) (by simp only [Act.defers_put', hbd0, hd0]) ?_
  refine ⟨w.heap.size, ?_, reads_lit w _ _ _ rfl rfl, (Ext.rfl' w).alloc (Nat.le_refl _) _⟩
  have h0 := Act.eval_put_same (b0.put (some 83) (.slice (some ⟨w.heap.size, 0, none⟩) (List.length ref_Zero) (List.length ref_Zero))) 0 (.slice (some ⟨w.heap.size, 0, none⟩) (List.length ref_Zero) (List.length ref_Zero)) (by rw [Act.size_put, hb0, hs0]; omega)
  exact congrArg Ending.returned h0

set_option maxRecDepth 1000000 in
set_option maxHeartbeats 4000000 in
theorem ref_bidiT_any (w : World) : Calls Try.prog 68 #[] w (TabPost ref_bidi w) := by
  go_enter Try.func68, Try.ntmps68
  apply wp_seq_k; intro K0 hK0
  apply wp_region_lit
  refine wpList_assignTo rfl _ rfl (some 0) rfl (.slice none 0 0) rfl ?_
  apply wpList_nil
  refine hK0 _ _ ?_
  refine Go.Great.wp_anyFrame 6 (by as_aux_lemma => kernel_rfl) rfl fun a0 hs0 hd0 => ?_
  apply wp_seq_k; intro K1 hK1
  apply wp_region_lit
  refine wpList_cut 4 (pOps 85 "ref.go:57" 1 ref_bidi) (by as_aux_lemma => kernel_rfl) ?_
  refine wpList_ps 85 "ref.go:57" (fun _ _ => by as_aux_lemma => kernel_rfl) ref_bidi 1 _ (by rw [hs0]; exact Nat.le_of_ble_eq_true (by as_aux_lemma => kernel_rfl)) fun b0 hb0 hbd0 hev0 _ => ?_
  refine wpList_buildPs rfl 47 85 4 _ ref_bidi rfl 1 (some 5) rfl (by as_aux_lemma => kernel_rfl) (by as_aux_lemma => kernel_rfl) (by as_aux_lemma => kernel_rfl) (by as_aux_lemma => kernel_rfl) (by decide) (by decide) (by as_aux_lemma => kernel_rfl) hev0 ?_
  refine wpList_assignTo rfl (.tmp 5) rfl (some 0) rfl (.slice (some ⟨w.heap.size, 0, none⟩) (List.length ref_bidi) (List.length ref_bidi)) (Act.eval_put_same _ _ _ (by rw [hb0, hs0]; omega)) ?_
  apply wpList_nil
  refine hK1 _ _ ?_
  apply wp_ret
  refine bodyPost_ret (results_tmp (t := 0) rfl _ _ _) (by simp only [Act.defers_put', hbd0, hd0]) ?_
  refine ⟨w.heap.size, ?_, reads_lit w _ _ _ rfl rfl, (Ext.rfl' w).alloc (Nat.le_refl _) _⟩
  have h0 := Act.eval_put_same (b0.put (some 5) (.slice (some ⟨w.heap.size, 0, none⟩) (List.length ref_bidi) (List.length ref_bidi))) 0 (.slice (some ⟨w.heap.size, 0, none⟩) (List.length ref_bidi) (List.length ref_bidi)) (by rw [Act.size_put, hb0, hs0]; omega)
  exact congrArg Ending.returned h0

set_option maxRecDepth 1000000 in
set_option maxHeartbeats 4000000 in
theorem ref_formatT_any (w : World) : Calls Try.prog 69 #[] w (TabPost ref_format w) := by
  go_enter Try.func69, Try.ntmps69
  apply wp_seq_k; intro K0 hK0
  apply wp_region_lit
  refine wpList_assignTo rfl _ rfl (some 0) rfl (.slice none 0 0) rfl ?_
  apply wpList_nil
  refine hK0 _ _ ?_
  refine Go.Great.wp_anyFrame 19 (by as_aux_lemma => kernel_rfl) rfl fun a0 hs0 hd0 => ?_
  apply wp_seq_k; intro K1 hK1
  apply wp_region_lit
  refine wpList_cut 17 (pOps 85 "ref.go:64" 1 ref_format) (by as_aux_lemma => kernel_rfl) ?_
  refine wpList_ps 85 "ref.go:64" (fun _ _ => by as_aux_lemma => kernel_rfl) ref_format 1 _ (by rw [hs0]; exact Nat.le_of_ble_eq_true (by as_aux_lemma => kernel_rfl)) fun b0 hb0 hbd0 hev0 _ => ?_
  refine wpList_buildPs rfl 47 85 17 _ ref_format rfl 1 (some 18) rfl (by as_aux_lemma => kernel_rfl) (by as_aux_lemma => kernel_rfl) (by as_aux_lemma => kernel_rfl) (by as_aux_lemma => kernel_rfl) (by decide) (by decide) (by as_aux_lemma => kernel_rfl) hev0 ?_
  refine wpList_assignTo rfl (.tmp 18) rfl (some 0) rfl (.slice (some ⟨w.heap.size, 0, none⟩) (List.length ref_format) (List.length ref_format)) (Act.eval_put_same _ _ _ (by rw [hb0, hs0]; omega)) ?_
  apply wpList_nil
  refine hK1 _ _ ?_
  apply wp_ret
  refine bodyPost_ret (results_tmp (t := 0) rfl _ _ _) (by simp only [Act.defers_put', hbd0, hd0]) ?_
  refine ⟨w.heap.size, ?_, reads_lit w _ _ _ rfl rfl, (Ext.rfl' w).alloc (Nat.le_refl _) _⟩
  have h0 := Act.eval_put_same (b0.put (some 18) (.slice (some ⟨w.heap.size, 0, none⟩) (List.length ref_format) (List.length ref_format))) 0 (.slice (some ⟨w.heap.size, 0, none⟩) (List.length ref_format) (List.length ref_format)) (by rw [Act.size_put, hb0, hs0]; omega)
  exact congrArg Ending.returned h0

end Go.Proofs.Ytkfepdejiedjbaa
