/- . -/
import Derived.Test.YtanpljalbijfkaaGreatQ05
namespace Go.Proofs.YtanpljalbijfkaaGreat
open Go.RowKit
set_option maxHeartbeats 16000000
theorem Qig (x c:Nat) (hx:x≤18446744073709551615) (hc:c≤18446744073709551615):bits .and .u64 (x:Int) (c:Int)=((x &&& c:Nat):Int):=u64_and_nat x c (by omega) (by omega)
theorem Qu9 (x:Nat) (hx:x≤18446744073709551615):IntKind.u64.wrap (bits .and .u64 ((x:Int) / 2) 6148914691236517205 + bits .and .u64 (x:Int) 6148914691236517205)=((OnesM.s1 x:Nat):Int):=by
 have h:=OnesM.s1_lt x;have a:=Qig (x / 2) 6148914691236517205 (by omega) (by omega)
 have b:=Qig x 6148914691236517205 (by omega) (by omega)
 rw [Int.natCast_ediv] at a;have a':bits .and .u64 ((x:Int) / 2) 6148914691236517205=_:=a;have b':bits .and .u64 (x:Int) 6148914691236517205=_:=b;rw [a',b',← Int.natCast_add];exact IntWalk.u64_in _ ⟨Int.natCast_nonneg _,by have:=h; unfold OnesM.s1 at this; omega⟩
theorem Qva (x:Nat) (hx:x≤18446744073709551615):IntKind.u64.wrap (bits .and .u64 ((x:Int) / 4) 3689348814741910323 + bits .and .u64 (x:Int) 3689348814741910323)=((OnesM.s2 x:Nat):Int):=by
 have h:=OnesM.s2_lt x;have a:=Qig (x / 4) 3689348814741910323 (by omega) (by omega)
 have b:=Qig x 3689348814741910323 (by omega) (by omega)
 rw [Int.natCast_ediv] at a;have a':bits .and .u64 ((x:Int) / 4) 3689348814741910323=_:=a;have b':bits .and .u64 (x:Int) 3689348814741910323=_:=b;rw [a',b',← Int.natCast_add];exact IntWalk.u64_in _ ⟨Int.natCast_nonneg _,by have:=h; unfold OnesM.s2 at this; omega⟩
theorem Qvb (x:Nat) (hx:x≤7378697629483820646):bits .and .u64 (IntKind.u64.wrap ((x:Int) / 16 + x)) 1085102592571150095=((OnesM.s3 x:Nat):Int):=by
 have e:IntKind.u64.wrap ((x:Int) / 16 + x)=((x / 16 + x:Nat):Int):=by
  rw [Int.natCast_add,Int.natCast_ediv];exact IntWalk.u64_in _ (by omega)
 rw [e];exact Qig (x / 16 + x) 1085102592571150095 (by omega) (by omega)
theorem Qoi (x k:Nat) (hx:x≤9223372036854775807) (_hk:2≤k):IntKind.u64.wrap ((x:Int) + x / (k:Int))=((x + x / k:Nat):Int):=by
 rw [Int.natCast_add,Int.natCast_ediv];have h:x / k≤x:=Nat.div_le_self _ _;rw [← Int.natCast_ediv,← Int.natCast_add];generalize x / k=q at h ⊢
 exact IntWalk.u64_in _ (by omega)
theorem Qr7 (x:Nat) (hx:x < 18446744073709551616) (w:World) :
  Calls Tryz.prog 99 #[.int .u64 x] w fun e w'=>e = .returned (.int .i64 (OnesM.popc x))∧w=w':=by
 go_enter Tryz.func99,Tryz.ntmps99
 go_wp2
 go_ret
 refine ⟨Qq ?_,rfl⟩;have e1:=Qu9 x (by omega)
 have e2:=Qva (OnesM.s1 x) (by have:=OnesM.s1_lt x; omega)
 have e3:=Qvb (OnesM.s2 (OnesM.s1 x)) (OnesM.s2_lt _);have e:=OnesM.ones x (by omega)
 show bits BinOp.and IntKind.i64 _ 127=_
 simp only [e1,e2,e3];dsimp only at e
 generalize OnesM.s3 (OnesM.s2 (OnesM.s1 x))=a at e ⊢
 obtain ⟨h1,h2,h3⟩:=e;have f1:=Qoi a 256 (by omega) (by omega)
 have f1':IntKind.u64.wrap ((a:Int) + a / 256)=_:=f1;rw [f1'];clear f1 f1' e1 e2 e3;obtain ⟨y,hy⟩:=V1 (a + a / 256);rw [← hy] at h1 ⊢;have hy':y < 2 ^ 61:=by omega
 clear hy h2;have f2:=Qoi y 65536 (by omega) (by omega)
 have f2':IntKind.u64.wrap ((y:Int) + y / 65536)=_:=f2;rw [f2'];clear f2 f2';obtain ⟨z,hz⟩:=V1 (y + y / 65536);rw [← hz] at h1 ⊢;have hz':z < 2 ^ 62:=by omega
 clear hz hy';have f3:=Qoi z 4294967296 (by omega) (by omega)
 have f3':IntKind.u64.wrap ((z:Int) + z / 4294967296)=_:=f3;rw [f3'];clear f3 f3';obtain ⟨t,ht⟩:=V1 (z + z / 4294967296);rw [← ht] at h1 ⊢;have ht':t < 2 ^ 63:=by omega
 rw [IntWalk.wrap64_in _ (by omega),i64_and127,← h1]
 simp
def Qbx (rs:List Nat) (a:Nat):Bool:=decide (1 < OnesM.popc (backTo rs a rs.length))
def Qcg (rs:List Nat):Option Nat:=(List.range rs.length).find? (Qbx rs)
theorem Qk0:(Tryz.prog.info? 157).map (fun i=>(i.zero,i.size,i.bytes))=some (some (.int .u64 0),1,8):=by kernel_rfl
theorem Qr8 (rs:List Nat):∀ u ∈ rs.map u64v,u.oneCell'=true:=by
 intro u hu;obtain ⟨r,_,rfl⟩:=List.mem_map.1 hu;rfl
def CloseRel (W:World) (bo g c n:Nat) (rs:List Nat) (w:World):Prop :=
 Blk w bo 160 #[.slice (some ⟨g,0,none⟩) n c]∧w.ownsRow W.heap.size 157 1 (.slice (some ⟨g,0,none⟩) n c) n (rs.map u64v)∧Below W.heap.size W w∧W.heap.size≤bo∧bo≠g∧rs.length=n∧∀ r ∈ rs,r < 18446744073709551616
theorem CloseRel.facts {W:World} {bo g c n:Nat} {rs:List Nat} {w:World} (h:CloseRel W bo g c n rs w) :
  w.cell? ⟨bo,0,none⟩=some (.slice (some ⟨g,0,none⟩) n c)∧(∀ j,j < n→w.cell? ⟨g,j,none⟩=some (u64v (rs.getD j 0)))∧(∀ j,w.frozen? ⟨g,j,none⟩=false):=by
 obtain ⟨h1,h2,_,_,_,hl,_⟩:=h;refine ⟨by simpa using h1.cell 0,fun j hj=>?_,fun j=>h2.frozenAt j⟩
 rw [h2.cellAt j (by omega)]
 simp [List.getD,hl,hj]
theorem CloseRel.store {W:World} {bo g c n:Nat} {rs:List Nat} {w:World} (h:CloseRel W bo g c n rs w) (j r:Nat) (hr:r < 18446744073709551616) :
  CloseRel W bo g c n (rs.set j r) (w.setCell ⟨g,j,none⟩ (u64v r)).drew:=by
 obtain ⟨h1,h2,h3,h4,h5,h6,h7⟩:=h;have hs:=h2.stored j (u64v r);have hg:W.heap.size≤g:=(h2.lt g rfl).1;refine ⟨(h1.far (p:=⟨g,j,none⟩) h5 _),?_,(h3.setCell (by exact hg) _).drew,h4,h5,by simp [h6],fun x hx=>?_⟩
 ·have:=hs.1
  rw [← List.map_set] at this;exact this
 ·rcases List.mem_or_eq_of_mem_set hx with hx | hx
  ·exact h7 x hx
  ·rw [hx]; exact hr
theorem Qts {x y:Nat} (hx:x < 18446744073709551616) (hy:y < 64):x ||| 1 <<< y < 18446744073709551616:=by
 have h2:1 <<< y < 2 ^ 64:=by rw [Nat.one_shiftLeft]; exact Nat.pow_lt_pow_right (by omega) hy
 exact Nat.or_lt_two_pow (n:=64) hx h2
theorem Quo (p q:Nat) (hp:p < 18446744073709551616) (hq:q < 18446744073709551616):bits .or .u64 (p:Int) (q:Int)=((p ||| q:Nat):Int):=u64_or_nat p q hp hq
theorem Qoj {W:World} {bo g c n:Nat} {rs:List Nat} {w:World} (k j:Nat) (h:CloseRel W bo g c n (RelM.innerTo k rs j) w) :
  (((RelM.innerTo k rs j).getD j 0).testBit k=true→CloseRel W bo g c n (RelM.innerTo k rs (j + 1)) (w.setCell ⟨g,j,none⟩ (.int .u64 (((RelM.innerTo k rs j).getD j 0 ||| (RelM.innerTo k rs j).getD k 0:Nat):Int))).drew) ∧
  (((RelM.innerTo k rs j).getD j 0).testBit k=false→CloseRel W bo g c n (RelM.innerTo k rs (j + 1)) w):=by
 have hh:=fun j=>Qjd (B:=18446744073709551616) h.2.2.2.2.2.2 (by omega) (n:=j)
 constructor
 ·intro hb;have:=h.store j ((RelM.innerTo k rs j).getD j 0 ||| (RelM.innerTo k rs j).getD k 0) (Nat.or_lt_two_pow (n:=64) (hh j) (hh k))
  simp only [RelM.innerTo,RelM.bit,hb,if_true];exact this
 ·intro hb;simp only [RelM.innerTo,RelM.bit,hb];exact h
theorem Qgx {rs:List Nat} (h:∀ r ∈ rs,r < 18446744073709551616) (j:Nat):rs.getD j 0 < 18446744073709551616:=Qjd h (by omega)
set_option maxRecDepth 100000 in
theorem Qf3 (b:Nat) (rs:List Nat) (w:World) (h:RelAt w b rs) :
  Calls Tryz.prog 66 #[.pointer (some ⟨b,0,none⟩)] w fun e w'=>∃ bo,e = .returned (.pointer (some ⟨bo,0,none⟩))∧RelAt w' bo (RelM.close rs)∧Ext w w':=by
 obtain ⟨A,c,hb,ho,hl,hr⟩:=h;have hc:=hb.cell 0;simp at hc
 obtain ⟨i0,hi,hz0,hz1,hz2⟩:=info_parts Qk0;have HR:=hide hr;have hrd:=Reads.of_own ho;clear hr hb;by_cases hn:rs.length=0
 ·obtain rfl:rs = []:=List.eq_nil_of_length_eq_zero hn;go_enter Tryz.func66,Tryz.ntmps66
  go_wp2_with (at_builtin; refine Qp _ rfl _ _ 158 rfl w.heap.size 157 i0 (.int .u64 0) 1 8 Tryz.underlying158 hi hz0 hz1 hz2 rfl (by decide) _ 0 [] rfl (World.ownsRow_nil _ _ _ _) w.heap.size A 0 c [] rfl hrd ?c0 ?c1 ?c2 ?c3 ?_)
  case c0=>intro u hu; cases hu
  case c1=>unfold maxLen; omega
  case c2=>omega
  case c3=>exact Nat.le_refl _
  intro A' c' w1 hown hgrow hat;try simp only [Nat.zero_add,List.nil_append] at hown
  have HO:=hide hown;clear hown hat hrd ho hc;go_wp2
  go_loop [20] (fun i=>i = .int .i64 0) (fun _=>0)
  case atStart=>rfl
  case round =>
   subst hrel;go_wp2
   go_ret
   exact ⟨w1.heap.size,rfl,⟨A',c',Blk.new _ _ _,(Qds HO.out (Nat.zero_le _)).alloc _,by simp [RelM.close,RelM.closeTo],fun r hr=>by cases hr⟩,(ext_of_grown hgrow).alloc hgrow.size _⟩
 ·go_enter Tryz.func66,Tryz.ntmps66
  go_wp2_with (at_builtin; refine Qp _ rfl _ _ 158 rfl w.heap.size 157 i0 (.int .u64 0) 1 8 Tryz.underlying158 hi hz0 hz1 hz2 rfl (by decide) _ 0 [] rfl (World.ownsRow_nil _ _ _ _) w.heap.size A rs.length c (rs.map u64v) rfl hrd (Qr8 rs) ?c1 ?c2 ?c3 ?_)
  case c1=>unfold maxLen; omega
  case c2=>omega
  case c3=>exact Nat.le_refl _
  intro A' c' w1 hown hgrow hat;try simp only [Nat.zero_add,List.nil_append] at hown
  obtain ⟨g,rfl,hg,_,_⟩:=Qkz hown (by omega)
  have hglt:g < w1.heap.size:=(hown.lt g rfl).2;have hC0:CloseRel w w1.heap.size g c' rs.length rs (w1.alloc (.cells #[.slice (some ⟨g,0,none⟩) rs.length c'] 160)) :=
   ⟨Blk.new _ _ _,hown.alloc _,(ext_of_grown hgrow).alloc hgrow.size _,hgrow.size,by omega,rfl,HR.out⟩
  go_wp2
  clear hown hgrow hat hrd ho hc;go_loopw [20] (fun i wr=>∃ k:Nat,k≤rs.length∧i = .int .i64 k∧CloseRel w w1.heap.size g c' rs.length (RelM.closeTo rs k) wr) (fun i _=>rs.length - (intOf i).toNat)
  case atStart=>exact ⟨0,Nat.zero_le _,rfl,hC0⟩
  case round =>
   obtain ⟨k,hk,rfl,hC⟩:=hrel;by_cases hlt:k < rs.length
   ·have hF:=hC.facts;obtain ⟨f0,f1,f2⟩:=hF;have f1k:=f1 k hlt;have f2k:=f2 k;have hrlt:=Qgx hC.2.2.2.2.2.2 k;obtain ⟨r,hr⟩:=V1 ((RelM.closeTo rs k).getD k 0);rw [← hr] at f1k hrlt;obtain ⟨HS,Hr⟩:=Z2 hC hr;clear f1 f2 hC hr;go_wp2
    go_region
    rw [Qkt r k hrlt (by omega)]
    have hC1:CloseRel w w1.heap.size g c' rs.length ((RelM.closeTo rs k).set k (r ||| 1 <<< k)) ((wr.setCell ⟨g,k,none⟩ (.int .u64 ((r ||| 1 <<< k:Nat):Int))).drew) :=
     HS.out.store k _ (Qts hrlt (by omega))
    rw [Hr.out] at hC1;obtain ⟨wo,hwo⟩:=V1 ((wr.setCell ⟨g,k,none⟩ (.int .u64 ((r ||| 1 <<< k:Nat):Int))).drew);rw [← Hr.out,← hwo] at hC1;rw [← hwo];clear hwo f0 f1k f2k HS;have f0:=hC1.facts.1;go_wp2
    go_loopw [39] (fun i wi=>∃ j:Nat,j≤rs.length∧i = .int .i64 j∧CloseRel w w1.heap.size g c' rs.length (RelM.innerTo k ((RelM.closeTo rs k).set k (r ||| 1 <<< k)) j) wi) (fun i _=>rs.length - (intOf i).toNat)
    case atStart=>exact ⟨0,Nat.zero_le _,rfl,hC1⟩
    case round =>
     clear hC1 f0;obtain ⟨j,hj,rfl,hC⟩:=hrel;by_cases hjlt:j < rs.length
     ·have hF:=hC.facts;obtain ⟨f0,f1,f2⟩:=hF;have f1k:=f1 k hlt;have f1j:=f1 j hjlt;have f2j:=f2 j;have hklt:=Qgx hC.2.2.2.2.2.2 k;have hjl:=Qgx hC.2.2.2.2.2.2 j;have hS:=Qoj k j hC;obtain ⟨q,hq,p,hp⟩:=V2 ((RelM.innerTo k ((RelM.closeTo rs k).set k (r ||| 1 <<< k)) j).getD k 0) ((RelM.innerTo k ((RelM.closeTo rs k).set k (r ||| 1 <<< k)) j).getD j 0);rw [← hq] at f1k hklt hS;rw [← hp] at f1j hjl hS;have HS:=hide hS;have hb0:=fun m=>Qnx p m hjl
      have hor:=Quo p q hjl hklt;clear f1 f2 hC hq hp hS;go_wp2
      ·go_region
       go_wp2
       go_roundw
       case rel=>exact ⟨j + 1,by omega,by go_num,HS.out.1 (by assumption)⟩
       case measure=>simp [intOf]; omega
      ·go_roundw
       case rel=>exact ⟨j + 1,by omega,by go_num,HS.out.2 (by assumption)⟩
       case measure=>simp [intOf]; omega
     ·obtain rfl:j=rs.length:=by omega
      have HS:=hide hC;clear hC;go_wp2
      go_roundw
      case rel =>
       refine ⟨k + 1,by omega,by go_num,?_⟩
       have:=HS.out
       rw [Hr.out] at this;exact this
      case measure=>simp [intOf]; omega
   ·obtain rfl:k=rs.length:=by omega
    have HS:=hide hC;clear hC;go_wp2
    go_ret
    have hC:=HS.out;obtain ⟨h1,h2,h3,_,_,h6,h7⟩:=hC;refine ⟨w1.heap.size,rfl,⟨some ⟨g,0,none⟩,c',?_,?_,?_,h7⟩,h3⟩
    ·rw [RelM.close_length]; exact h1
    ·rw [RelM.close_length]; exact Qds h2 (Nat.zero_le _)
    ·rw [RelM.close_length]; exact hl
abbrev i64v (n:Int):Value:=.int .i64 n
def pairCells (ps:List (Int × Int)):List Value:=ps.flatMap fun p=>[i64v p.1,i64v p.2]
theorem Qfr (ps:List (Int × Int)) (k:Nat) (hk:k < ps.length):(pairCells ps)[k * 2]? = some (i64v ps[k].1)∧(pairCells ps)[k * 2 + 1]? = some (i64v ps[k].2):=by
 induction ps generalizing k with
 | nil=>simp at hk
 | cons p ps ih =>
  cases k with
  | zero=>exact ⟨rfl,rfl⟩
  | succ k =>
   have:=ih k (by simpa using hk)
   simp only [pairCells,List.flatMap_cons] at this ⊢;rw [show (k + 1) * 2=k * 2 + 1 + 1 by omega]
   simpa using this
def PairsAt (w:World) (B:Nat) (A:Option Addr) (ps:List (Int × Int)):Prop:=Reads w B 2 A ps.length (pairCells ps)
theorem PairsAt.cell {w:World} {B:Nat} {A:Option Addr} {ps:List (Int × Int)} (h:PairsAt w B A ps) (hn:0 < ps.length) :
  ∃ b o,A=some ⟨b,o,none⟩∧b < B∧∀ k (hk:k < ps.length),w.cell? ⟨b,o + k * 2,none⟩=some (i64v ps[k].1)∧w.cell? ⟨b,o + k * 2 + 1,none⟩=some (i64v ps[k].2):=by
 obtain ⟨b,o,e,hb,hc⟩:=h.form hn (by omega)
 exact ⟨b,o,e,hb,fun k hk=>⟨hc _ _ (Qfr ps k hk).1,hc _ _ (Qfr ps k hk).2⟩⟩
def okP (n:Nat) (p:Int × Int):Bool:=decide (0≤p.1∧p.1 < n∧0≤p.2∧p.2 < n)
def Qah (n:Nat) (ps:List (Int × Int)):Bool:=ps.all (okP n)
def addP (rs:List Nat) (p:Int × Int):List Nat:=rs.set p.1.toNat (rs.getD p.1.toNat 0 ||| 1 <<< p.2.toNat)
def newRows (n:Nat) (ps:List (Int × Int)):List Nat:=ps.foldl addP (List.replicate n 0)
theorem Q9 (n:Nat) (ps:List (Int × Int)):(newRows n ps).length=n:=by
 unfold newRows;suffices ∀ rs:List Nat,(ps.foldl addP rs).length=rs.length by rw [this]; simp
 induction ps with
 | nil=>intro rs; rfl
 | cons p ps ih=>intro rs; rw [List.foldl_cons,ih]; simp [addP]
theorem Qk1 (n:Nat) (ps:List (Int × Int)) (k:Nat) (hk:k < ps.length):newRows n (ps.take (k + 1))=addP (newRows n (ps.take k)) ps[k]:=by
 unfold newRows;rw [List.take_succ_eq_append_getElem hk,List.foldl_append];rfl
theorem CloseRel.alloc {W:World} {bo g c n:Nat} {rs:List Nat} {w:World} (h:CloseRel W bo g c n rs w) (o:Obj):CloseRel W bo g c n rs (w.alloc o):=by
 obtain ⟨h1,h2,h3,h4,h5,h6,h7⟩:=h;exact ⟨h1.alloc o,h2.alloc o,h3.alloc h3.size o,h4,h5,h6,h7⟩
theorem Qr9 {n:Nat} {ps:List (Int × Int)} {k:Nat} (hk:k < ps.length) {x y:Int} (hxy:ps[k]=(x,y)) (h:x < 0∨(n:Int)≤x∨y < 0∨(n:Int)≤y):Qah n ps=false:=by
 unfold Qah;rw [List.all_eq_false];refine ⟨ps[k],List.getElem_mem hk,?_⟩;rw [hxy];simp [okP]
 omega
theorem Qp6 {n:Nat} {ps:List (Int × Int)} {k:Nat} (hk:k < ps.length) {x y:Int} (hxy:ps[k]=(x,y)) (h0:Qah n (ps.take k)=true) (h:0≤x∧x < n∧0≤y∧y < n):Qah n (ps.take (k + 1))=true:=by
 unfold Qah at h0 ⊢;rw [List.take_succ_eq_append_getElem hk,List.all_append,h0,hxy];simp [okP]
 omega
def Qje (n:Nat) (ps:List (Int × Int)) (w:World) (e:Ending) (w':World):Prop :=
 (Qah n ps=true∧∃ bo,e = .returned (.tuple #[.pointer (some ⟨bo,0,none⟩),.bool true])∧RelAt w' bo (newRows n ps)∧Ext w w')∨(Qah n ps=false∧e = .returned (.tuple #[.pointer none,.bool false])∧Ext w w')
set_option maxRecDepth 100000 in
theorem Qok (n:Nat) (hn:n≤64) (A:Option Addr) (c:Nat) (ps:List (Int × Int)) (w:World) (h:PairsAt w w.heap.size A ps) (hl:ps.length≤9223372036854775807) :
  Calls Tryz.prog 64 #[.int .i64 n,.slice A ps.length c] w (Qje n ps w):=by
 obtain ⟨i0,hi,hz0,hz1,hz2⟩:=info_parts Qk0;have hn0:¬ (n:Int) < 0:=by omega
 have hn1:¬ (64:Int) < n:=by omega
 go_enter Tryz.func64,Tryz.ntmps64
 go_wp2_with (at_make; refine wpList_make_full _ rfl _ _ 158 rfl w.heap.size 157 i0 (.int .u64 0) 1 Tryz.underlying158 hi hz0 hz1 _ _ _ _ n rfl rfl rfl rfl ?c1 ?c2 nL ?_)
 case c1=>omega
 case c2=>unfold maxLen; omega
 intro w1 hown hgrow;have hC0:CloseRel w w1.heap.size w.heap.size n n (newRows n []) (w1.alloc (.cells #[.slice (some ⟨w.heap.size,0,none⟩) n n] 160)):=by
  have hlt:=(hown.lt w.heap.size rfl).2;refine ⟨Blk.new _ _ _,?_,(ext_of_grown hgrow).alloc hgrow.size _,hgrow.size,by omega,by simp [newRows],fun r hr=>?_⟩
  ·have:=hown.alloc (.cells #[.slice (some ⟨w.heap.size,0,none⟩) n n] 160)
   simpa [newRows,toList_madeCells_one,u64v] using this
  ·simp [newRows] at hr; omega
 have hlen:ps.length < 9223372036854775808:=by omega
 clear hown;go_wp2
 go_loopw [21] (fun i wr=>∃ k:Nat,k≤ps.length∧i = .int .i64 k∧Qah n (ps.take k)=true∧CloseRel w w1.heap.size w.heap.size n n (newRows n (ps.take k)) wr) (fun i _=>ps.length - (intOf i).toNat)
 case atStart=>exact ⟨0,Nat.zero_le _,rfl,rfl,hC0⟩
 case round =>
  obtain ⟨k,hk,rfl,hok,hC⟩:=hrel;by_cases hlt:k < ps.length
  ·obtain ⟨b,o,rfl,hb,hcell⟩:=h.cell (by omega)
   have hF:=hC.facts;obtain ⟨f0,f1,f2⟩:=hF;have hbw:w.heap.size≤wr.heap.size:=hC.2.2.1.size;have hbo:=hC.1.lt;have hgl:=(hC.2.1.lt w.heap.size rfl).2;have hp:=hcell k hlt;have hp1:=(hC.2.2.1.cell (p:=⟨b,o + k * 2,none⟩) hb).trans hp.1;have hp2:=(hC.2.2.1.cell (p:=⟨b,o + k * 2 + 1,none⟩) hb).trans hp.2;obtain ⟨x,y,hxy⟩:∃ x y,ps[k]=(x,y):=⟨_,_,rfl⟩;rw [hxy] at hp1 hp2;obtain ⟨HX,HS,HO,F1,F2⟩:=Z5 hxy hC hok f1 f2;clear f1 f2 hp hcell hxy hC hok hC0;have hbad:∀ o':Obj,(x < 0∨(n:Int)≤x∨y < 0∨(n:Int)≤y)→Qje n ps w (.returned (.tuple #[.pointer none,.bool false])) (wr.alloc o') :=
    fun o' h'=>.inr ⟨Qr9 hlt HX.out h',rfl,HS.out.2.2.1.alloc HS.out.2.2.1.size _⟩
   have HB:=hide hbad;clear hbad;by_cases hx0:x < 0
   ·go_wp2
    go_ret2
    exact HB.out _ (.inl hx0)
   ·by_cases hx1:(n:Int)≤x
    ·go_wp2
     go_ret2
     exact HB.out _ (.inr (.inl hx1))
    ·by_cases hy0:y < 0
     ·go_wp2
      go_ret2
      exact HB.out _ (.inr (.inr (.inl hy0)))
     ·by_cases hy1:(n:Int)≤y
      ·go_wp2
       go_ret2
       exact HB.out _ (.inr (.inr (.inr hy1)))
      ·obtain ⟨x,rfl⟩:=Int.eq_ofNat_of_zero_le (Int.not_lt.1 hx0);obtain ⟨y,rfl⟩:=Int.eq_ofNat_of_zero_le (Int.not_lt.1 hy0);have f1x:=F1.out x (by omega)
       have f2x:=F2.out x;have hrl:=Qgx HS.out.2.2.2.2.2.2 x;obtain ⟨r,hr⟩:=V1 ((newRows n (ps.take k)).getD x 0);rw [← hr] at f1x hrl;have HR:=hide hr;clear hr;go_wp2
       go_region
       rw [Qkt r y hrl (by omega)]
       go_wp2
       go_roundw
       case rel =>
        refine ⟨k + 1,by omega,by go_num,Qp6 hlt HX.out HO.out ⟨by omega,by omega,by omega,by omega⟩,?_⟩
        have e:newRows n (ps.take (k + 1))=(newRows n (ps.take k)).set x (r ||| 1 <<< y):=by
         rw [Qk1 n ps k hlt,HX.out,HR.out];simp [addP]
        rw [e];exact (HS.out.store x (r ||| 1 <<< y) (Qts hrl (by omega))).alloc _
       case measure=>simp [intOf]; omega
  ·obtain rfl:k=ps.length:=by omega
   obtain ⟨HS,HO⟩:=Z2 hC hok;clear hC hok;go_wp2
   go_ret2
   rw [List.take_length] at HO HS;obtain ⟨h1,h2,h3,_,_,h6,h7⟩:=HS.out;refine .inl ⟨HO.out,w1.heap.size,rfl,⟨some ⟨w.heap.size,0,none⟩,n,?_,?_,?_,h7⟩,h3⟩
   ·rw [Q9]; exact h1
   ·rw [Q9]; exact Qds h2 (Nat.zero_le _)
   ·rw [Q9]; exact hn
def BoolsAt (w:World) (B:Nat) (v:Value) (r:List Bool):Prop:=∃ A c,v = .slice A r.length c∧Reads w B 1 A r.length (r.map Value.bool)
def MatAt (w:World) (B:Nat) (A:Option Addr) (M:List (List Bool)):Prop :=
 ∃ vs:List Value,vs.length=M.length∧Reads w B 1 A M.length vs∧∀ (k:Nat) (v:Value) (r:List Bool),vs[k]? = some v→M[k]? = some r→BoolsAt w B v r
theorem BoolsAt.below {w w':World} {B B':Nat} {v:Value} {r:List Bool} (h:BoolsAt w B v r) (hb:Below B w w') (hB:B≤B'):BoolsAt w' B' v r:=by
 obtain ⟨A,c,e,hr⟩:=h;exact ⟨A,c,e,(hr.keep fun p hp=>hb.cell hp).more hB⟩
theorem MatAt.below {w w':World} {B B':Nat} {A:Option Addr} {M:List (List Bool)} (h:MatAt w B A M) (hb:Below B w w') (hB:B≤B'):MatAt w' B' A M:=by
 obtain ⟨vs,h1,h2,h3⟩:=h;exact ⟨vs,h1,(h2.keep fun p hp=>hb.cell hp).more hB,fun k v r hv hr=>(h3 k v r hv hr).below hb hB⟩
def natP (ps:List (Int × Int)):List (Nat × Nat):=ps.map fun p=>(p.1.toNat,p.2.toNat)
def leadRow (n:Nat) (ps:List (Int × Int)) (a:Nat):List Bool:=RelM.relaxN (natP ps) (RelM.start n a) n
def leads (n:Nat) (ps:List (Int × Int)):List (List Bool):=(List.range n).map (leadRow n ps)
theorem Qjr:(Tryz.prog.info? 4).map (fun i=>(i.zero,i.size,i.bytes))=some (some (.bool false),1,1):=by kernel_rfl
theorem Qih:(Tryz.prog.info? 57).map (fun i=>(i.zero,i.size,i.bytes))=some (some (.slice none 0 0),1,24):=by kernel_rfl
def OwnBools (base n:Nat) (w:World) (v:Value) (r:List Bool):Prop:=r.length=n∧(∃ A c,v = .slice A n c)∧w.ownsRow base 4 1 v n (r.map Value.bool)
theorem OwnBools.at_ {base n:Nat} {w:World} {v:Value} {r:List Bool} (h:OwnBools base n w v r):BoolsAt w w.heap.size v r:=by
 obtain ⟨hl,⟨A,c,rfl⟩,h2⟩:=h;exact ⟨A,c,by rw [hl],by rw [hl]; exact Reads.of_own h2⟩
def LeadsRel (W:World) (n:Nat) (ps:List (Int × Int)) (a:Nat) (A:Option Addr) (c:Nat) (w:World):Prop :=
 ∃ vs:List Value,vs.length=a∧w.ownsRow W.heap.size 57 1 (.slice A a c) a vs∧(∀ (k:Nat) (v:Value),vs[k]? = some v→OwnBools W.heap.size n w v (leadRow n ps k))∧Ext W w
def RowRel (W0:World) (n g:Nat) (r:List Bool) (w:World):Prop :=
 w.ownsRow g 4 1 (.slice (some ⟨g,0,none⟩) n n) n (r.map Value.bool)∧r.length=n∧Below g W0 w
theorem RowRel.cell {W0:World} {n g:Nat} {r:List Bool} {w:World} (h:RowRel W0 n g r w) (x:Nat) (hx:x < n):w.cell? ⟨g,x,none⟩=some (.bool (r.getD x false)):=by
 obtain ⟨h1,h2,_⟩:=h;rw [h1.cellAt x (by omega)]
 simp [List.getD,h2,hx]
theorem RowRel.free {W0:World} {n g:Nat} {r:List Bool} {w:World} (h:RowRel W0 n g r w) (x:Nat):w.frozen? ⟨g,x,none⟩=false:=h.1.frozenAt x
theorem RowRel.set {W0:World} {n g:Nat} {r:List Bool} {w:World} (h:RowRel W0 n g r w) (x:Nat) (t:Bool):RowRel W0 n g (r.set x t) (w.setCell ⟨g,x,none⟩ (.bool t)):=by
 obtain ⟨h1,h2,h3⟩:=h;refine ⟨?_,by simp [h2],h3.setCell nL _⟩
 have:=(h1.stored x (.bool t)).1
 rwa [← List.map_set] at this
def relaxTo (ps:List (Nat × Nat)) (r:List Bool) (i:Nat):List Bool:=RelM.relax (ps.take i) r
theorem Qmt (ps:List (Nat × Nat)) (r:List Bool) (i:Nat) (h:ps.length≤i):relaxTo ps r i=RelM.relax ps r:=by
 unfold relaxTo;rw [List.take_of_length_le h]
theorem Qk2 (ps:List (Nat × Nat)) (r:List Bool) (i x y:Nat) (h:ps[i]? = some (x,y)) :
  relaxTo ps r (i + 1)=if (relaxTo ps r i).getD x false then (relaxTo ps r i).set y true else relaxTo ps r i:=by
 unfold relaxTo RelM.relax;rw [List.take_add_one,h,List.foldl_append];rfl
theorem Qtx {ps:List (Int × Int)} {i x y:Nat} (hi:i < ps.length) (h:ps[i]=((x:Int),(y:Int))):(natP ps)[i]? = some (x,y):=by
 simp [natP,hi,h]
theorem okPs_at {n:Nat} {ps:List (Int × Int)} (h:Qah n ps=true) (i:Nat) (hi:i < ps.length):∃ x y:Nat,ps[i]=((x:Int),(y:Int))∧x < n∧y < n:=by
 unfold Qah at h;rw [List.all_eq_true] at h;have:=h _ (List.getElem_mem hi)
 obtain ⟨x,y,hxy⟩:∃ x y,ps[i]=(x,y):=⟨_,_,rfl⟩;rw [hxy] at this ⊢;simp [okP] at this
 obtain ⟨x,rfl⟩:=Int.eq_ofNat_of_zero_le this.1;obtain ⟨y,rfl⟩:=Int.eq_ofNat_of_zero_le this.2.2.1;exact ⟨x,y,rfl,by omega,by omega⟩
theorem LeadsRel.next {W:World} {n:Nat} {ps:List (Int × Int)} {a:Nat} {A:Option Addr} {c:Nat} {w w2 w3:World} {A':Option Addr} {c':Nat} {o:Obj} {vs:List Value}
  (hv:vs.length=a) (ho:w.ownsRow W.heap.size 57 1 (.slice A a c) a vs) (hrow:∀ (k:Nat) (v:Value),vs[k]? = some v→OwnBools W.heap.size n w v (leadRow n ps k)) (hE:Ext W w)
  (hr:RowRel w n w.heap.size (leadRow n ps a) w2)
  (hown:w3.ownsRow W.heap.size 57 1 (.slice A' (a + 1) c') (a + 1) (vs ++ [.slice (some ⟨w.heap.size,0,none⟩) n n]))
  (hg:(w2.alloc o).grownBy w3 (Value.ownBlock (.slice A a c))):LeadsRel W n ps (a + 1) A' c' w3:=by
 obtain ⟨r1,r2,r3⟩:=hr;have hbw:∀ g,Value.ownBlock (.slice A a c)=some g→W.heap.size≤g∧g < w.heap.size:=fun g h=>ho.lt g h
 have hE3:Ext W w3:=((Below.trans hE (r3.mono hE.size)).alloc (Nat.le_trans hE.size r3.size) o).grown hg (by have:=hE.size; have:=r3.size; simp; omega) (fun g h=>(hbw g h).1)
 have ho2:(w2.alloc o).ownsRow W.heap.size 57 1 (.slice A a c) a vs:=(own_ext ho r3).alloc o;refine ⟨_,by simp [hv],hown,fun k v hk=>?_,hE3⟩
 by_cases h:k < a
 ·rw [List.getElem?_append_left (by omega)] at hk
  obtain ⟨hl,hs,h2⟩:=hrow k v hk;have h2':=(own_ext h2 r3).alloc o;exact ⟨hl,hs,h2'.kept hg (Qh6 h2' ho2 (by decide))⟩
 ·have hk':k=a:=by
   have:=(List.getElem?_eq_some_iff.1 hk).1
   simp [hv] at this
   omega
  subst hk';rw [List.getElem?_append_right (by omega)] at hk
  simp [hv] at hk
  subst hk;have r1':=(Qds r1 hE.size).alloc o;exact ⟨r2,⟨_,_,rfl⟩,r1'.kept hg (Qh6 r1' ho2 (by decide))⟩
set_option maxRecDepth 100000 in
theorem refLeads_any (n:Nat) (hn:n≤64) (A:Option Addr) (c:Nat) (ps:List (Int × Int)) (w:World) (h:PairsAt w w.heap.size A ps) (hl:ps.length≤9223372036854775807) (hok:Qah n ps=true) :
  Calls Tryz.prog 77 #[.int .i64 n,.slice A ps.length c] w (fun e w'=>∃ A' c',e = .returned (.slice A' (leads n ps).length c')∧MatAt w' w'.heap.size A' (leads n ps)∧Ext w w'):=by
 obtain ⟨i0,hi,hz0,hz1,hz2⟩:=info_parts Qjr;obtain ⟨j0,gi,gz0,gz1,gz2⟩:=info_parts Qih;have HOK:=hide hok;clear hok;go_enter Tryz.func77,Tryz.ntmps77
 go_wp2
 go_loopw [6,5] (fun i v wr=>∃ a A c,a≤n∧i = .int .i64 (a:Nat)∧v = .slice A a c∧LeadsRel w n ps a A c wr) (fun i _ _=>n - (intOf i).toNat)
 case atStart=>exact ⟨0,none,0,Nat.zero_le _,rfl,rfl,[],rfl,World.ownsRow_nil _ _ _ _,fun k v hv=>by simp at hv,Ext.rfl' _⟩
 case round =>
  obtain ⟨a,Ao,co,ha,rfl,rfl,hL⟩:=hrel;have HL:=hide hL;clear hL;by_cases hlt:a < n
  ·obtain ⟨wo,rfl⟩:∃ wo:World,wo=wr:=⟨_,rfl⟩;go_wp2_with (at_make; refine wpList_make_full _ rfl _ _ 57 rfl wo.heap.size 4 i0 (.bool false) 1 Tryz.underlying57 hi hz0 hz1 _ _ _ _ n rfl rfl rfl rfl ?c1 ?c2 nL ?_)
   case c1=>first | omega | (rw [hz2]; omega)
   case c2=>unfold maxLen; omega
   intro w1 hown hgrow;have hR0:RowRel wo n wo.heap.size (List.replicate n false) w1:=⟨by simpa [toList_madeCells_one] using hown,by simp,ext_of_grown hgrow⟩
   have hc1:=hR0.cell a (by omega)
   have hf1:=hR0.free a;have HR0:=hide hR0;clear hR0 hown hgrow;obtain ⟨g,hg⟩:=V1 (wo.heap.size);rw [← hg] at hc1 hf1 HR0 ⊢;have HG:=hide hg;clear hg;go_wp2
   have hR1:RowRel wo n g (RelM.start n a) (w1.setCell ⟨g,a,none⟩ (.bool true)):=HR0.out.set a true;obtain ⟨w2,hw2⟩:=V1 (w1.setCell ⟨g,a,none⟩ (.bool true));rw [← hw2] at hR1 ⊢;clear hw2 hc1 hf1;go_loopw [8] (fun i wk=>∃ k:Nat,k≤n∧i = .int .i64 k∧RowRel wo n g (RelM.relaxN (natP ps) (RelM.start n a) k) wk) (fun i _=>n - (intOf i).toNat)
   case atStart=>exact ⟨0,Nat.zero_le _,rfl,hR1⟩
   case round =>
    clear hR1;obtain ⟨k,hk,rfl,hR⟩:=hrel;have HR:=hide hR;clear hR;by_cases hkn:k < n
    ·go_wp2
     go_loopw [9] (fun i wi=>∃ i':Nat,i'≤ps.length∧i = .int .i64 i'∧RowRel wo n g (relaxTo (natP ps) (RelM.relaxN (natP ps) (RelM.start n a) k) i') wi) (fun i _=>ps.length - (intOf i).toNat)
     case atStart=>exact ⟨0,Nat.zero_le _,rfl,HR.out⟩
     case round =>
      obtain ⟨i,hi',rfl,hR⟩:=hrel;have HRi:=hide hR;clear hR;by_cases hin:i < ps.length
      ·obtain ⟨b,o,rfl,hb,hcell⟩:=h.cell (by omega)
       have hp:=hcell i hin;have hbg:b < g:=by rw [HG.out]; obtain ⟨_,_,_,_,hE⟩:=HL.out; have:=hE.size; omega
       have hpw:∀ q,wr.cell? ⟨b,q,none⟩=w.cell? ⟨b,q,none⟩:=fun q=>by
        obtain ⟨_,_,_,_,hE⟩:=HL.out;exact (HRi.out.2.2.cell (p:=⟨b,q,none⟩) hbg).trans (hE.cell (p:=⟨b,q,none⟩) hb)
       have hp1:=(hpw _).trans hp.1;have hp2:=(hpw _).trans hp.2;obtain ⟨x,y,hxy,hx,hy⟩:=okPs_at HOK.out i hin;rw [hxy] at hp1 hp2;have hst:=Qk2 (natP ps) (RelM.relaxN (natP ps) (RelM.start n a) k) i x y (Qtx hin hxy);have hcx:=HRi.out.cell x hx;have hcy:=HRi.out.cell y hy;have hfy:=HRi.out.free y;obtain ⟨r,hr⟩:=V1 (relaxTo (natP ps) (RelM.relaxN (natP ps) (RelM.start n a) k) i);rw [← hr] at HRi hst hcx hcy;obtain ⟨bx,hbx,by',hby⟩:=V2 (r.getD x false) (r.getD y false)
       rw [← hbx] at hst hcx;rw [← hby] at hcy;have HST:=hide hst;clear hpw hp hcell hxy hr hbx hby hst;cases bx with
       | true =>
        go_wp2
        go_roundw
        case rel=>exact ⟨i + 1,by omega,by go_num,by rw [HST.out]; exact HRi.out.set y true⟩
        case measure=>simp [intOf]; omega
       | false =>
        go_wp2
        go_roundw
        case rel=>exact ⟨i + 1,by omega,by go_num,by rw [HST.out]; exact HRi.out⟩
        case measure=>simp [intOf]; omega
      ·obtain rfl:i=ps.length:=by omega
       go_wp2
       go_roundw
       case rel =>
        refine ⟨k + 1,by omega,by go_num,?_⟩
        have:=HRi.out
        rw [Qmt _ _ _ (by simp [natP])] at this
        exact this
       case measure=>simp [intOf]; omega
    ·obtain rfl:k=n:=by omega
     have hown:=HL.out;obtain ⟨vs,hvs,hown,hrow,hE⟩:=hown;obtain ⟨HROW,HOWN,HEE⟩:=Z3 hrow hown hE;clear hrow;have hgE:g=wo.heap.size:=HG.out;have hown2:=Qjm (w':=wr) hown HR.out.2.2 (fun g' hg'=>by rw [hgE]; exact (hown.lt g' hg').2)
     have HO2:=hide hown2;have hbase:w.heap.size≤wr.heap.size:=Nat.le_trans hE.size HR.out.2.2.size;clear hown hown2 hgE hE;go_wp2_with (at_builtin; refine Qp _ rfl _ _ 42 rfl w.heap.size 57 j0 (.slice none 0 0) 1 24 Tryz.underlying42 gi gz0 gz1 gz2 rfl (by decide) _ a vs rfl (HO2.out.alloc _) (wr.heap.size + 1) (some ⟨wr.heap.size,0,none⟩) 1 1 [.slice (some ⟨g,0,none⟩) k k] rfl (reads_new _ _ _) ?d0 ?d1 ?d2 ?d3 ?_)
     case d0=>intro u hu; simp at hu; subst hu; rfl
     case d1=>unfold maxLen; omega
     case d2=>omega
     case d3=>simp; omega
     intro A' c' w3 hown3 hgrow3 hat;rw [HG.out] at hown3;have hRR:=HR.out;rw [HG.out] at hRR;have HLN:=hide (LeadsRel.next hvs HOWN.out HROW.out HEE.out hRR hown3 hgrow3);clear hRR;clear hown3 hgrow3 hat;go_wp2
     go_roundw
     case rel=>exact ⟨a + 1,A',c',by omega,by go_num,rfl,HLN.out⟩
     case measure=>simp [intOf]; omega
  ·obtain rfl:a=n:=by omega
   go_wp2
   go_ret
   obtain ⟨vs,hvs,hown,hrow,hE⟩:=HL.out;have el:(leads a ps).length=a:=by simp [leads]
   rw [el];refine ⟨Ao,co,rfl,⟨vs,by rw [el]; exact hvs,by rw [el]; exact Reads.of_own hown,fun k v r hv hr=>?_⟩,hE⟩
   have:=(hrow k v hv).at_
   simp only [leads,List.getElem?_map,Option.map_eq_some_iff] at hr;obtain ⟨q,hq,rfl⟩:=hr;rw [List.getElem?_range] at hq
   ·simp at hq; subst hq; exact this
   ·have:=(List.getElem?_eq_some_iff.1 hv).1; omega
end Go.Proofs.YtanpljalbijfkaaGreat
