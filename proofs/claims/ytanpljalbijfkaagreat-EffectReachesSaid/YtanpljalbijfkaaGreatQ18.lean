/- . -/
import Derived.Test.YtanpljalbijfkaaGreatQ16
import Derived.Test.YtanpljalbijfkaaGreatQ17
import Derived.Deep.RegionHeld
namespace Go.Proofs.YtanpljalbijfkaaGreat
open Go.RowKit
set_option maxHeartbeats 16000000
theorem Qht (ws:List Wd) (k:Nat) (hk:k < ws.length):(nms ws).take (k + 1)=(nms ws).take k ++ [wNm ws k]:=by
 have hk':k < (nms ws).length:=by rw [nms_length]; exact hk
 rw [List.take_add_one,List.getElem?_eq_getElem hk',nms_at hk'];rfl
theorem Qej {wr w0 w3:World} {base size n g:Nat} {e t:TypeId} {v:Value} {xs:List Value} {cs:Array Value} (hB:Blk w0 g t cs) (hg:w0.grownBy w3 v.ownBlock) (hO:wr.ownsRow base e size v n xs) (hne:g < base∨wr.heap.size≤g):Blk w3 g t cs:=by
 refine (hg.block g hB.lt ?_).trans hB;intro e;have:=hO.lt g e.symm
 omega
theorem listAt_none {l:List Wd} {k:Nat} : Qic l k=none↔listE (nms l) k=0:=by
 unfold Qic;split
 ·exact ⟨fun _=>by assumption,fun _=>rfl⟩
 ·exact ⟨fun h=>(by cases h),fun h=>(by contradiction)⟩
theorem Qj1 {a:Int} {l:List Wd} {n k:Nat} (hn:n=l.length) (h64:¬ 64 < n) (hk:k < n) (h:∀ j,j < k→listE (nms l) j=0) (hb:¬ listE (nms l) k=0):Qao a l=(listE (nms l) k,wPl l k):=by
 unfold Qao;rw [if_neg (by omega),if_neg (by omega),Qk (k:=k) (x:=(listE (nms l) k,wPl l k)) (by omega) (fun j hj=>listAt_none.2 (h j hj)) (if_neg hb)]
 rfl
theorem Qit {a:Int} {l:List Wd} {n:Nat} (hn:n=l.length) (h0:n≠0) (h64:¬ 64 < n) (h:∀ j,j < n→listE (nms l) j=0):Qao a l=(0,0):=by
 unfold Qao;rw [if_neg (by omega),if_neg (by omega),firstOf_miss.2 (fun j hj=>listAt_none.2 (h j (by omega)))]
 rfl
set_option maxRecDepth 100000 in
theorem enum_any (a:Int) (x0 x2 x3 x4 x6 x7 x8:Value) (A:Option Addr) (c n:Nat) (l:List Wd) (w:World) (h:WdsAt w w.heap.size A l) (hn:n=l.length) (hsz:Qi l) :
  Calls Tryz.prog 129 #[.agg #[x0,.int .i64 a,x2,x3,x4,.slice A n c,x6,x7,x8]] w (fun e w'=>e = .returned (fltV (Qao a l))∧Ext w w'):=by
 obtain ⟨w0,hw0⟩:=V1 ((w.alloc (.cells #[x0,.int .i64 a,x2,x3,x4,.slice A n c,x6,x7,x8] 29)).alloc (.cells #[.int .i64 0,.int .i64 0] 34));have hT:Blk w0 w.heap.size 29 #[x0,.int .i64 a,x2,x3,x4,.slice A n c,x6,x7,x8]:=by rw [hw0]; exact (Blk.new _ _ _).alloc _
 have hF:Blk w0 (w.heap.size + 1) 34 #[.int .i64 0,.int .i64 0]:=by
  rw [hw0]; have:=Blk.new (w.alloc (.cells #[x0,.int .i64 a,x2,x3,x4,.slice A n c,x6,x7,x8] 29)) 34 #[.int .i64 0,.int .i64 0]; simpa only [World.size_alloc] using this
 have hE:Ext w w0:=by rw [hw0]; exact ((Ext.rfl' w).alloc nL _).alloc (by simp only [World.size_alloc]; omega) _
 have hS:w0.heap.size=w.heap.size + 2:=by rw [hw0]; simp only [World.size_alloc]
 have h0:=h.ext hE;have hlo:w.heap.size≤w.heap.size + 1:=Nat.le_succ _;obtain ⟨gf,hgf,gt,hgt⟩:=V2 (w.heap.size + 1) (w.heap.size);have hgfl:gf < w0.heap.size:=by rw [hS,hgf]; omega
 have hgtl:gt < w0.heap.size:=by rw [hS,hgt]; omega
 rw [← hgf] at hF hlo;rw [← hgt] at hT;obtain ⟨-,t1,-,-,-,t5⟩:=X6 hT;obtain ⟨b0,b1⟩:=X2 hF;obtain ⟨f0,f1⟩:=Y2 hF;obtain ⟨HW,HGF,HGT,HF,HE,HLO,HGFL⟩:=Z7 hw0 hgf hgt hF hE hlo hgfl;clear hw0 hT hF hE hS hgf hgt hlo hgfl hgtl h;by_cases c0:n=0
 ·have HR:=hide (show Qao a l=(15,a) by unfold Qao; rw [if_pos (by omega)])
  rw [HR.out];subst c0;clear hn h0;go_enter Tryz.func129,Tryz.ntmps129
  go_upto_region 1 with fail
  rw [← HW.out,← HGF.out,← HGT.out];go_wp2_with fail
  refine (Qn 15 a _).mono ?_;rintro e w5 ⟨rfl,hE5⟩;obtain ⟨HF5,HE5⟩:=Z2 (HF.out.ext hE5) (HE.out.trans' hE5);obtain ⟨b0,b1⟩:=X2 HF5.out;obtain ⟨f0,f1⟩:=Y2 HF5.out;unfold fltV;clear hE5;go_wp2_with fail
  exact Qa (f:=(15,a)) (g:=gf) ((HF5.out.set_ 0 _).set_ 1 _) rfl rfl rfl ⟨rfl,ext_two' HE5.out HLO.out _ _⟩
 by_cases c1:64 < n
 ·have HR:=hide (show Qao a l=(8,wPl l 64) by unfold Qao; rw [if_neg (by omega),if_pos (by omega)])
  rw [HR.out];obtain ⟨b,o,rfl,hbs,hcell⟩:=h0.cell (by omega)
  have d1:=(hcell 64 (by omega)).2
  obtain ⟨x,hx⟩:=V1 (wPl l 64);rw [← hx] at d1 ⊢;have i0:((n:Int) == 0)=false:=by simp; omega
  clear hn h0 hx hcell HR;go_enter Tryz.func129,Tryz.ntmps129
  go_upto_region 1 with fail
  rw [← HW.out,← HGF.out,← HGT.out];go_wp2_with fail
  refine (Qn 8 x _).mono ?_;rintro e w5 ⟨rfl,hE5⟩;obtain ⟨HF5,HE5⟩:=Z2 (HF.out.ext hE5) (HE.out.trans' hE5);obtain ⟨b0,b1⟩:=X2 HF5.out;obtain ⟨f0,f1⟩:=Y2 HF5.out;unfold fltV;clear hE5;go_wp2_with fail
  exact Qa (f:=(8,x)) (g:=gf) ((HF5.out.set_ 0 _).set_ 1 _) rfl rfl rfl ⟨rfl,ext_two' HE5.out HLO.out _ _⟩
 obtain ⟨HIT,HMI⟩:=Z2 (fun k (hk:k < n) hh hb=>Qj1 (a:=a) (k:=k) hn c1 hk hh hb) (fun hh=>Qit (a:=a) hn c0 c1 hh)
 obtain ⟨R,hR⟩:=V1 (Qao a l);rw [← hR] at HIT HMI ⊢;obtain ⟨HN,HH,HSZ⟩:=Z3 hn h0 hsz;have i0:((n:Int) == 0)=false:=by simp; omega
 have i1:¬ (64:Int) < (n:Int):=by omega
 have H64:=hide c1;obtain ⟨base,hbase⟩:=V1 (w0.heap.size);have HBASE:=hide hbase;clear hR hn h0 hsz c0 c1 hbase;go_enter Tryz.func129,Tryz.ntmps129
 go_upto_region 1 with fail
 rw [← HW.out,← HGF.out,← HGT.out];go_wp2_with fail
 go_loopw [29,3] (fun i o wr=>∃ (k:Nat) (Ao:Option Addr) (co:Nat),k≤n∧i = .int .i64 k∧o = .slice Ao k co∧Ext w0 wr∧Blk wr gf 34 #[.int .i64 0,.int .i64 0]∧wr.ownsRow base 9 1 (.slice Ao k co) k (Qg ((nms l).take k))∧Hid (∀ j,j < k→listE (nms l) j=0)) (fun i _ _=>n - (intOf i).toNat)
 case atStart=>exact ⟨0,none,0,Nat.zero_le _,rfl,rfl,Ext.rfl' _,HF.out,World.ownsRow_nil _ _ _ _,fun j hj=>absurd hj (by omega)⟩
 case round =>
  obtain ⟨k,Ao,co,hk,rfl,rfl,hEr,hB,hO,HA⟩:=hrel;obtain ⟨HEr,HB,HO⟩:=Z3 hEr hB hO;have hbs0:base≤wr.heap.size:=by rw [HBASE.out]; exact hEr.size
  by_cases hlt:k < n
  ·have hkl:k < l.length:=by rw [← HN.out]; exact hlt
   have hkn:k < (nms l).length:=by rw [nms_length]; exact hkl
   obtain ⟨b,o,rfl,hbs,hcell⟩:=HH.out.cell (by omega)
   obtain ⟨p1,p2⟩:=hcell k hkl;have hne:=Qes hkn (wPl l k) HA.out;have hhit:=HIT.out k hlt HA.out;have HST:=hide (fun hh=>Q0 HA.out (show listE (nms l) k=0 from hh))
   have hst:=Qht l k hkl;have hgd:((nms l).take (k + 1)).getD k ⟨#[]⟩=wNm l k:=by
    rw [List.getD_eq_getElem?_getD,List.getElem?_take_of_lt (Nat.lt_succ_self k),List.getElem?_eq_getElem hkn,nms_at hkn]; rfl
   have hxs:=HSZ.out.2 k;rw [← hgd] at hxs;obtain ⟨x,hx,p,hp,ev,hev⟩:=V3 (wNm l k) (wPl l k) (listE (nms l) k);rw [← hx] at p1 hst;rw [← hp] at p2 hne hhit;rw [← hev] at hne hhit HST;have q1:wr.cell? ⟨b,o + k * 2,none⟩=some (.string x):=(hEr.cell (p:=⟨b,o + k * 2,none⟩) hbs).trans p1;have q2:wr.cell? ⟨b,o + k * 2 + 1,none⟩=some (.int .i64 p):=(hEr.cell (p:=⟨b,o + k * 2 + 1,none⟩) hbs).trans p2;obtain ⟨w1,hw1⟩:=V1 (wr.alloc (.cells #[.string x,.int .i64 p] 27));have hV:=bN hw1;have hB1:Blk w1 gf 34 #[.int .i64 0,.int .i64 0]:=by rw [hw1]; exact hB.alloc _
   have hO1:w1.ownsRow base 9 1 (.slice Ao k co) k (Qg ((nms l).take k)):=by rw [hw1]; exact hO.alloc _
   have hE1:Ext w0 w1:=by rw [hw1]; exact hEr.alloc hEr.size _
   have hs1:w1.heap.size=wr.heap.size + 1:=by rw [hw1]; simp only [World.size_alloc]
   obtain ⟨gv,hgv⟩:=V1 (wr.heap.size);rw [← hgv] at hV;have hgvb:base≤gv:=by rw [hgv]; exact hbs0
   have hgvO:∀ g,Value.ownBlock (.slice Ao k co)=some g→g < gv:=fun g e=>by rw [hgv]; exact (HO.out.lt g e).2
   obtain ⟨v0,v1⟩:=X2 hV;obtain ⟨HNE,HHIT,HST2,HXS,HW1,HG1,HV1,HB1⟩:=Z8 hne hhit hst hxs hw1 hgv hV hB1;obtain ⟨HO1,HE1,HGV⟩:=Z3 hO1 hE1 hgvO;have hbs1:base≤w1.heap.size:=by rw [hs1]; omega
   have HKL:=hide hkn;clear hw1 hV hB1 hO1 hE1 hs1 hgv hgvO hne hhit hst hxs hx hp hev hgd hkn hkl p1 p2 hcell hEr hB hO HB HO HEr HIT HMI;go_upto_region 9 with fail
   rw [← HW1.out,← HG1.out];clear q1 q2;go_wp2_with (at_builtin; refine Qa0 _ rfl _ _ rfl base _ k ((nms l).take k) rfl w1.heap.size x _ rfl (HO1.out.alloc _) (reads_at _ _ _ _ rfl) (by omega) (by simp; omega) ?_)
   intro A3 c3 w3 hown3 hgrow3 _;have hE3:Ext w0 w3:=grown_ext' (w:=w0) (wr:=w1) (base:=base) HE1.out ((Ext.rfl' w1).alloc nL _) hgrow3 HO1.out (by rw [HBASE.out]; exact Nat.le_refl _)
   have hB3:=Qej (HB1.out.alloc (.cells #[.string x] 9)) hgrow3 HO1.out (.inl (by rw [HBASE.out]; exact HGFL.out))
   have hV3:Blk w3 gv 27 #[.string x,.int .i64 p]:=by
    refine (hgrow3.block gv (HV1.out.alloc _).lt ?_).trans (HV1.out.alloc _);intro e;exact absurd (HGV.out gv e.symm) (Nat.lt_irrefl _)
   obtain ⟨v0,v1⟩:=X2 hV3;rw [← HST2.out] at hown3;have hlen:k + 1=((nms l).take (k + 1)).length:=by rw [List.length_take]; have:=HKL.out; omega
   have hsa:StrAt w3 w3.heap.size A3 ((nms l).take (k + 1)):=by
    unfold StrAt;rw [← hlen];exact Reads.of_own hown3
   have hli:=Qfe A3 c3 (k + 1) k p _ w3 hsa hlen rfl (by have:=H64.out; omega) HXS.out
   rw [HNE.out] at hli;obtain ⟨HLI,HB3,HE3,HO3⟩:=Z4 hli hB3 hE3 hown3;clear hgrow3 hown3 hB3 hV3 hE3 hli hsa hlen HNE HV1;by_cases he:ev=0
   ·have hli:=HLI.out;rw [if_pos he] at hli;obtain ⟨HLJ,HA2⟩:=Z2 hli (HST.out he);clear hli HLI HST HHIT HA he;go_upto_region 10 with fail
    go_wp2_with fail
    refine HLJ.out.mono ?_;rintro e w5 ⟨rfl,hE5⟩;obtain ⟨w6,hw6⟩:=V1 (w5.alloc (.cells #[.int .i64 0,.int .i64 0] 34));have hE6:Ext w3 w6:=by rw [hw6]; exact hE5.alloc hE5.size _
    obtain ⟨HB6,HE6,HO6⟩:=Z3 (HB3.out.ext hE6) (HE3.out.trans' hE6) (own_ext HO3.out hE6);have hf6:=bN hw6;obtain ⟨g5,hg5⟩:=V1 (w5.heap.size);rw [← hg5] at hf6;obtain ⟨u0,u1⟩:=X2 hf6;obtain ⟨HW6,HG5⟩:=Z2 hw6 hg5;clear hw6 hg5 hf6 hE6 hE5 v0 v1;unfold fltV;go_upto_region 11 with fail
    rw [← HW6.out,← HG5.out];go_wp2_with fail
    go_roundw
    case rel=>exact ⟨k + 1,A3,c3,by omega,by go_num,rfl,HE6.out,HB6.out,HO6.out,HA2.out⟩
    case measure=>simp [intOf]; omega
   ·have hli:=HLI.out;rw [if_neg he] at hli;obtain ⟨HLJ,HX⟩:=Z2 hli (HHIT.out he);have j0:(ev == 0)=false:=by simpa using he
    clear hli HLI HST HHIT HA he;go_upto_region 10 with fail
    go_wp2_with fail
    refine HLJ.out.mono ?_;rintro e w5 ⟨rfl,hE5⟩;obtain ⟨w6,hw6⟩:=V1 (w5.alloc (.cells #[.int .i64 ev,.int .i64 p] 34));have hE6:Ext w3 w6:=by rw [hw6]; exact hE5.alloc hE5.size _
    obtain ⟨HB6,HE6⟩:=Z2 (HB3.out.ext hE6) (HE.out.trans' (HE3.out.trans' hE6));have hf6:=bN hw6;obtain ⟨g5,hg5⟩:=V1 (w5.heap.size);rw [← hg5] at hf6;obtain ⟨u0,u1⟩:=X2 hf6;obtain ⟨b0,b1⟩:=X2 HB6.out;obtain ⟨f0,f1⟩:=Y2 HB6.out;obtain ⟨HW6,HG5⟩:=Z2 hw6 hg5;clear hw6 hg5 hf6 hE6 hE5 v0 v1;unfold fltV;go_upto_region 11 with fail
    rw [← HW6.out,← HG5.out];go_wp2_with fail
    exact Qa (f:=(ev,p)) (g:=gf) ((HB6.out.set_ 0 _).set_ 1 _) rfl rfl rfl ⟨by rw [HX.out],ext_two' HE6.out HLO.out _ _⟩
  ·obtain rfl:k=n:=by omega
   obtain ⟨HX,HE6⟩:=Z2 (HMI.out HA.out) (HE.out.trans' hEr);obtain ⟨b0,b1⟩:=X2 hB;obtain ⟨f0,f1⟩:=Y2 hB;clear hB hO hEr HA;go_wp2_with fail
   exact Qa (f:=(0,0)) (g:=gf) ((HB.out.set_ 0 _).set_ 1 _) rfl rfl rfl ⟨by rw [HX.out],ext_two' HE6.out HLO.out _ _⟩
theorem wpList_unguard' {P:Program} {ops:Array Oper} {rest:List Oper} {o:Oper} {a:Act} {w:World} {Q:Exit→Act→World→Prop} (hw:Region.wanted o (yielded ops a.tmps)=true) (h:wpList P ops Q ({ o with guard:=none } :: rest) a w):wpList P ops Q (o :: rest) a w:=by
 unfold wpList at h ⊢;rw [if_pos hw];rw [if_pos (by simp [Region.wanted])] at h
 exact h
theorem Qck {P:Program} {op:Oper} {a:Act} {w:World} {K:Act→World→Prop} {Q:Exit→Act→World→Prop} (ty:TypeId) (x y:Operand) (ho:op.op = .store ty x y) (g:Nat) (c c':Array Value) (hB:Blk w g ty c)
  (hx:a.eval x = .pointer (some ⟨g,0,none⟩)) (hy:a.eval y = .agg c') (hi:(P.info? ty).map (·.size)=some c'.size) (hs:c.size=c'.size) (h1:c'.all (·.oneCell')=true) (h:K (a.put op.dst undef) (w.setRow g c')):op.wp P a w K Q:=by
 unfold Oper.wp execOp;simp only [ho,hx,hy,Instr.storeAt,Instr.sureAddr,Sem.run_bind,Sem.run_pure,Result.andThen_ok,run_storeVar_row w g ty ty c c' hB hi hs h1];exact h
theorem Qdg (w:World) (g k:Nat) (cs:Array Value) (h:k≠g):(w.setRow g cs).heap[k]? = w.heap[k]?:=by
 unfold World.setRow;rw [Array.getElem?_modify,if_neg (fun e=>h e.symm)]
theorem Blk.setRow_same {w:World} {g:Nat} {t:TypeId} {c:Array Value} (h:Blk w g t c) (c':Array Value):Blk (w.setRow g c') g t c':=setRow_heap w g c c' t (0,0) h
theorem Blk.setRow_other {w:World} {g g':Nat} {t:TypeId} {c:Array Value} (h:Blk w g' t c) (hne:g'≠g) (c':Array Value):Blk (w.setRow g c') g' t c:=(Qdg w g g' c' hne).trans h
theorem Qdm {W w:World} (h:Ext W w) {g:Nat} (hg:W.heap.size≤g) (c:Array Value):Ext W (w.setRow g c):=by
 refine ⟨h.os,h.tape,h.output,?_,fun k hk=>?_⟩
 ·have:=h.size
  unfold World.setRow;simpa using this
 ·exact (Qdg w g k c (by omega)).trans (h.block k hk)
def Quu (wr:World) (vs us:List Value) (v1 v2:Value) (wx:World):Prop:=∃ g1 g2,v1 = .pointer (some ⟨g1,0,none⟩)∧v2 = .pointer (some ⟨g2,0,none⟩)∧Blk wx g1 131 vs.toArray∧Blk wx g2 131 us.toArray∧Ext wr wx
theorem Qiu {w:World} {g:Nat} {t:TypeId} {l:List Value} {a0 a1 a2 a3 a4 a5 a6 a7 a8:Value} (h:Blk w g t (l ++ [a0,a1,a2,a3,a4,a5,a6,a7,a8]).toArray) (hl:l.length=9):w.cell? ⟨g,9,none⟩=some a0∧w.cell? ⟨g,10,none⟩=some a1∧w.cell? ⟨g,11,none⟩=some a2∧w.cell? ⟨g,12,none⟩=some a3∧w.cell? ⟨g,13,none⟩=some a4∧w.cell? ⟨g,14,none⟩=some a5∧w.cell? ⟨g,15,none⟩=some a6∧w.cell? ⟨g,16,none⟩=some a7∧w.cell? ⟨g,17,none⟩=some a8:=by
 have key:∀ j v,[a0,a1,a2,a3,a4,a5,a6,a7,a8][j]? = some v→w.cell? ⟨g,9 + j,none⟩=some v:=fun j v hv=>by
  rw [h.cell (9 + j),gA,List.getElem?_append_right (by omega),hl,Nat.add_sub_cancel_left]
  exact hv
 exact ⟨key 0 _ rfl,key 1 _ rfl,key 2 _ rfl,key 3 _ rfl,key 4 _ rfl,key 5 _ rfl,key 6 _ rfl,key 7 _ rfl,key 8 _ rfl⟩
set_option maxRecDepth 100000 in
theorem refSame_any (a:Ty):∀ (b:Ty) (w:World) (vs us:List Value),TyAt w w.heap.size a vs→TyAt w w.heap.size b us→Qr a→Qr b→Calls Tryz.prog 116 #[.agg vs.toArray,.agg us.toArray] w (fun e w'=>e = .returned (.bool (Qu a b))∧Ext w w'):=by
 induction a with
 | nil=>intro b w vs us hT; exact hT.elim
 | mk h n p t ih =>
  intro b w vs us hT hU hS hS';cases b with
  | nil=>exact hU.elim
  | mk h' n' p' t' =>
   obtain ⟨An,cn,Ap,cp,rfl,hN,hP⟩:=hT.open_;obtain ⟨An',cn',Ap',cp',rfl,hN',hP'⟩:=hU.open_;obtain ⟨sn,_,hn,hSz⟩:=hS;obtain ⟨sn',_,hn',hSz'⟩:=hS';have hx:=Qj0 h n p t h' n' p' t';have hw:=fun w1 (hE:Ext w w1)=>Qd3 An cn h.names.length h.names An' cn' h'.names.length h'.names w1 (hN.ext hE) rfl sn.1 (hN'.ext hE) rfl
   show Calls Tryz.prog 116 #[.agg #[.int .i64 h.kind,.int .i64 h.at_,.int .i64 h.lo,.int .i64 h.hi,.int .i64 h.most,.slice An h.names.length cn,.slice Ap n cp,.string h.name.1,.int .i64 h.name.2],.agg #[.int .i64 h'.kind,.int .i64 h'.at_,.int .i64 h'.lo,.int .i64 h'.hi,.int .i64 h'.most,.slice An' h'.names.length cn',.slice Ap' n' cp',.string h'.name.1,.int .i64 h'.name.2]] w _
   obtain ⟨R,hR⟩:=V1 (Qu (.mk h n p t) (.mk h' n' p' t'));rw [← hR] at hx ⊢;obtain ⟨E,hE⟩:∃ E:Nat→Bool,E=fun i=>Q3 (p i) (p' i) && Qu (t i) (t' i):=⟨_,rfl⟩
   have HEE:=hide (fun i=>(show E i=(((p i).name.1.toList == (p' i).name.1.toList) && Q5 (p i) (p' i) && Qu (t i) (t' i)) by rw [hE,Q8]; rfl))
   rw [← hE] at hx;obtain ⟨Wd1,hWd⟩:=V1 (Qx h.names h'.names);rw [← hWd] at hx hw;obtain ⟨HIH,HP,HP',HSZ,HSZ'⟩:=Z5 ih hP hP' hSz hSz';clear ih hP hP' hN hN' hSz hSz' sn sn' hR hE hWd hT hU;obtain ⟨k1,hk1⟩:=V1 (h.kind);rw [← hk1] at hx ⊢;obtain ⟨a1,ha1⟩:=V1 (h.at_);rw [← ha1] at ⊢;obtain ⟨lo1,hlo1⟩:=V1 (h.lo);rw [← hlo1] at hx ⊢;obtain ⟨hi1,hhi1⟩:=V1 (h.hi);rw [← hhi1] at hx ⊢;obtain ⟨mo1,hmo1⟩:=V1 (h.most);rw [← hmo1] at hx ⊢;obtain ⟨z1,hz1⟩:=V1 (h.names.length);rw [← hz1] at hw ⊢;obtain ⟨s1,hs1⟩:=V1 (h.name.1);rw [← hs1] at hx ⊢;obtain ⟨y1,hy1⟩:=V1 (h.name.2);rw [← hy1] at ⊢;obtain ⟨k2,hk2⟩:=V1 (h'.kind);rw [← hk2] at hx ⊢;obtain ⟨a2,ha2⟩:=V1 (h'.at_);rw [← ha2] at ⊢;obtain ⟨lo2,hlo2⟩:=V1 (h'.lo);rw [← hlo2] at hx ⊢;obtain ⟨hi2,hhi2⟩:=V1 (h'.hi);rw [← hhi2] at hx ⊢;obtain ⟨mo2,hmo2⟩:=V1 (h'.most);rw [← hmo2] at hx ⊢;obtain ⟨z2,hz2⟩:=V1 (h'.names.length);rw [← hz2] at hw ⊢;obtain ⟨s2,hs2⟩:=V1 (h'.name.1);rw [← hs2] at hx ⊢;obtain ⟨y2,hy2⟩:=V1 (h'.name.2);rw [← hy2] at ⊢;obtain ⟨N0,hN0,N1,hN1,N2,hN2,N3,hN3,B4,hB4⟩:=V5 ((k1 != k2)) ((lo1 != lo2)) ((hi1 != hi2)) ((mo1 != mo2)) ((s1.toList == s2.toList));rw [← hN0,← hN1,← hN2,← hN3,← hB4] at hx;have e0:=hN0.symm;have e1:=hN1.symm;have e2:=hN2.symm;have e3:=hN3.symm;have e4:=hB4.symm;obtain ⟨HX,HW⟩:=Z2 hx hw;obtain ⟨w0,hw0⟩:=V1 ((w.alloc (.cells #[.int .i64 k1,.int .i64 a1,.int .i64 lo1,.int .i64 hi1,.int .i64 mo1,.slice An z1 cn,.slice Ap n cp,.string s1,.int .i64 y1] 29)).alloc (.cells #[.int .i64 k2,.int .i64 a2,.int .i64 lo2,.int .i64 hi2,.int .i64 mo2,.slice An' z2 cn',.slice Ap' n' cp',.string s2,.int .i64 y2] 29));have hBa:Blk w0 w.heap.size 29 #[.int .i64 k1,.int .i64 a1,.int .i64 lo1,.int .i64 hi1,.int .i64 mo1,.slice An z1 cn,.slice Ap n cp,.string s1,.int .i64 y1]:=by rw [hw0]; exact (Blk.new _ _ _).alloc _
   have hBb:Blk w0 (w.heap.size + 1) 29 #[.int .i64 k2,.int .i64 a2,.int .i64 lo2,.int .i64 hi2,.int .i64 mo2,.slice An' z2 cn',.slice Ap' n' cp',.string s2,.int .i64 y2]:=by
    rw [hw0]; have:=Blk.new (w.alloc (.cells #[.int .i64 k1,.int .i64 a1,.int .i64 lo1,.int .i64 hi1,.int .i64 mo1,.slice An z1 cn,.slice Ap n cp,.string s1,.int .i64 y1] 29)) 29 #[.int .i64 k2,.int .i64 a2,.int .i64 lo2,.int .i64 hi2,.int .i64 mo2,.slice An' z2 cn',.slice Ap' n' cp',.string s2,.int .i64 y2]; simpa only [World.size_alloc] using this
   have HE0:=hide (show Ext w w0 by rw [hw0]; exact ((Ext.rfl' w).alloc nL _).alloc (by simp only [World.size_alloc]; omega) _)
   obtain ⟨gb,hgb,ga,hga⟩:=V2 (w.heap.size + 1) (w.heap.size);rw [← hgb] at hBb;rw [← hga] at hBa;obtain ⟨HBa,HBb⟩:=Z2 hBa hBb;obtain ⟨v0a,-,v2a,v3a,v4a,v5a,-,v7a⟩:=X8 (HBa.out);obtain ⟨v0b,-,v2b,v3b,v4b,v5b,-,v7b⟩:=X8 (HBb.out);obtain ⟨HW0,HGa,HGb⟩:=Z3 hw0 hga hgb;clear hBa hBb hw0 hga hgb hw hx hN0 hN1 hN2 hN3 hB4 hk1 ha1 hlo1 hhi1 hmo1 hz1 hs1 hy1 hk2 ha2 hlo2 hhi2 hmo2 hz2 hs2 hy2;go_enter Tryz.func116,Tryz.ntmps116
   go_upto_region 1 with fail
   rw [← HW0.out,← HGb.out,← HGa.out];cases N0 with
   | true =>
    go_wp2_with fail
    go_ret
    exact ⟨Qb (by rw [HX.out]; rfl),HE0.out⟩
   | false =>
    cases N1 with
    | true =>
     go_wp2_with fail
     go_ret
     exact ⟨Qb (by rw [HX.out]; rfl),HE0.out⟩
    | false =>
     cases N2 with
     | true =>
      go_wp2_with fail
      go_ret
      exact ⟨Qb (by rw [HX.out]; rfl),HE0.out⟩
     | false =>
      cases N3 with
      | true =>
       go_wp2_with fail
       go_ret
       exact ⟨Qb (by rw [HX.out]; rfl),HE0.out⟩
      | false =>
       cases B4 with
       | false =>
        go_wp2_with fail
        go_ret
        exact ⟨Qb (by rw [HX.out]; rfl),HE0.out⟩
       | true =>
        go_wp2_with fail
        refine (HW.out w0 HE0.out).mono ?_;rintro e w3 ⟨rfl,hE3⟩;have HE3:=hide (HE0.out.trans' hE3);have u6a:=(HBa.out.ext hE3).cell 6;have u6b:=(HBb.out.ext hE3).cell 6;simp only [gA,gH,gS] at u6a u6b;obtain ⟨HBa,HBb⟩:=Z2 (HBa.out.ext hE3) (HBb.out.ext hE3);clear hE3 v0a v2a v3a v4a v5a v7a v0b v2b v3b v4b v5b v7b e0 e1 e2 e3 e4;cases Wd1 with
        | false =>
         go_wp2_with fail
         go_ret
         exact ⟨Qb (by rw [HX.out]; rfl),HE3.out⟩
        | true =>
         by_cases hnn:n=n'
         ·subst hnn;have hx2:=HX.out;rw [decide_eq_true rfl] at hx2;obtain ⟨HYES,HNO⟩:=Z2 (fun hh=>(show true=R by rw [hx2,Qlh (E:=E) (n:=n) hh]; rfl)) (fun k (hk:k < n) hh=>(show false=R by rw [hx2,Qn0 (E:=E) hk hh]; rfl))
          clear hx2 HX;go_wp2_with fail
          clear u6a u6b;go_loopw [5] (fun i wr=>∃ k:Nat,k≤n∧i = .int .i64 (k:Int)∧Ext w3 wr∧Hid (∀ j,j < k→E j=true)) (fun i _=>n - (intOf i).toNat)
          case atStart=>exact ⟨0,Nat.zero_le _,rfl,Ext.rfl' _,fun j hj=>absurd hj (by omega)⟩
          case round =>
           obtain ⟨k,hk,rfl,hE,HA⟩:=hrel;have HE:=hide hE;have x6a:=(HBa.out.ext hE).cell 6;have x6b:=(HBb.out.ext hE).cell 6;simp only [gA,gH,gS] at x6a x6b;by_cases hkn:k < n
           ·obtain ⟨b,o,rfl,hb,hc⟩:=HP.out.ext (HE3.out.trans' hE) (by omega)
            obtain ⟨b',o',rfl,hb',hc'⟩:=HP'.out.ext (HE3.out.trans' hE) (by omega)
            obtain ⟨vs,r1,q1⟩:=hc k hkn;obtain ⟨us,r2,q2⟩:=hc' k hkn;have HL1:=hide q1.len;have HL2:=hide q2.len;have HO1:=hide q1.one;have HO2:=hide q2.one;obtain ⟨HQ1,HQ2,HR1,HR2,HCA,HCB⟩:=Z6 q1 q2 (fun w1 (hx:Ext wr w1)=>(show w1.rangeAt b (o + k * 18) vs from fun j v hv=>(hx.cell (p:=⟨b,o + k * 18 + j,none⟩) hb).trans (r1 j v hv))) (fun w1 (hx:Ext wr w1)=>(show w1.rangeAt b' (o' + k * 18) us from fun j v hv=>(hx.cell (p:=⟨b',o' + k * 18 + j,none⟩) hb').trans (r2 j v hv))) (fun w1 (hx:Ext wr w1)=>(hx.cell (p:=⟨ga,6,none⟩) (HBa.out.ext hE).lt).trans x6a) (fun w1 (hx:Ext wr w1)=>(hx.cell (p:=⟨gb,6,none⟩) (HBb.out.ext hE).lt).trans x6b)
            have i0:=nZ k;have i1:(k:Int) < (n:Int):=by omega
            clear hc hc' r1 r2 q1 q2;go_upto_region 6 with fail
            go_cut [6,7] (fun v1 v2 wx=>Quu wr vs us v1 v2 wx)
            case first =>
             clear x6a x6b;refine wp_region_held_drew (S:=fun w'=>Ext wr w') (by kernel_rfl) ((Ext.rfl' wr).drew') (fun hHeld=>?_)
             refine wpAnyH_take (i:=0) (v:=?_) rfl (by kernel_rfl) (by kernel_rfl) (by kernel_rfl) (fun _ _ _ h=>h) (Or.inl ⟨by rfl,?_⟩) hHeld ?_
             rotate_left
             ·(intro w9 hSw; have ca9:=HCA.out w9 hSw; have cb9:=HCB.out w9 hSw; go_simp; all_goals with_reducible rfl)
             try simp only [Act.put,gB,gD,gE,gF,gG]
             refine wpAnyH_take (i:=1) (v:=?_) rfl (by kernel_rfl) (by kernel_rfl) (by kernel_rfl) (fun _ _ _ h=>h) (Or.inl ⟨by rfl,?_⟩) hHeld ?_
             rotate_left
             ·(intro w9 hSw; have ca9:=HCA.out w9 hSw; have cb9:=HCB.out w9 hSw; go_simp; all_goals with_reducible rfl)
             try simp only [Act.put,gB,gC,gD,gE,gF,gG]
             refine wpAnyH_take (i:=2) (v:=?_) rfl (by kernel_rfl) (by kernel_rfl) (by kernel_rfl) (fun _ _ _ h=>h) (Or.inl ⟨by rfl,?_⟩) hHeld ?_
             rotate_left
             ·(intro w9 hSw; have ca9:=HCA.out w9 hSw; have cb9:=HCB.out w9 hSw; go_simp; all_goals with_reducible rfl)
             try simp only [Act.put,gB,gC,gD,gE,gF,gG]
             refine wpAnyH_take (i:=3) (v:=?_) rfl (by kernel_rfl) (by kernel_rfl) (by kernel_rfl) (fun _ _ _ h=>h) (Or.inl ⟨by rfl,?_⟩) hHeld ?_
             rotate_left
             ·(intro w9 hSw; have ca9:=HCA.out w9 hSw; have cb9:=HCB.out w9 hSw; go_simp; all_goals with_reducible rfl)
             try simp only [Act.put,gB,gC,gD,gE,gF,gG]
             refine wpAnyH_take (i:=4) rfl (by kernel_rfl) (by kernel_rfl) (by kernel_rfl) (fun _ _ _ h=>h) (yieldsIf_load_mid (by rfl) 131 _ rfl b (o + k * 18) rfl vs _ (fun w9 hSw=>HR1.out w9 hSw) Tryz.underlying131 rfl (infoPart' HL1.out)) hHeld ?_
             try simp only [Act.put,gB,gC,gD,gE,gF,gG]
             refine wpAnyH_take (i:=5) (v:=?_) rfl (by kernel_rfl) (by kernel_rfl) (by kernel_rfl) (fun _ _ _ h=>h) (Or.inl ⟨by rfl,?_⟩) hHeld ?_
             rotate_left
             ·(intro w9 hSw; have ca9:=HCA.out w9 hSw; have cb9:=HCB.out w9 hSw; go_simp; all_goals with_reducible rfl)
             try simp only [Act.put,gB,gC,gD,gE,gF,gG]
             refine wpAnyH_take (i:=6) (v:=?_) rfl (by kernel_rfl) (by kernel_rfl) (by kernel_rfl) (fun _ _ _ h=>h) (Or.inl ⟨by rfl,?_⟩) hHeld ?_
             rotate_left
             ·(intro w9 hSw; have ca9:=HCA.out w9 hSw; have cb9:=HCB.out w9 hSw; go_simp; all_goals with_reducible rfl)
             try simp only [Act.put,gB,gC,gD,gE,gF,gG]
             refine wpAnyH_take (i:=7) (v:=?_) rfl (by kernel_rfl) (by kernel_rfl) (by kernel_rfl) (fun _ _ _ h=>h) (Or.inl ⟨by rfl,?_⟩) hHeld ?_
             rotate_left
             ·(intro w9 hSw; have ca9:=HCA.out w9 hSw; have cb9:=HCB.out w9 hSw; go_simp; all_goals with_reducible rfl)
             try simp only [Act.put,gB,gC,gD,gE,gF,gG]
             refine wpAnyH_take (i:=8) (v:=?_) rfl (by kernel_rfl) (by kernel_rfl) (by kernel_rfl) (fun _ _ _ h=>h) (Or.inl ⟨by rfl,?_⟩) hHeld ?_
             rotate_left
             ·(intro w9 hSw; have ca9:=HCA.out w9 hSw; have cb9:=HCB.out w9 hSw; go_simp; all_goals with_reducible rfl)
             try simp only [Act.put,gB,gC,gD,gE,gF,gG]
             refine wpAnyH_take (i:=9) rfl (by kernel_rfl) (by kernel_rfl) (by kernel_rfl) (fun _ _ _ h=>h) (yieldsIf_load_mid (by rfl) 131 _ rfl b' (o' + k * 18) rfl us _ (fun w9 hSw=>HR2.out w9 hSw) Tryz.underlying131 rfl (infoPart' HL2.out)) hHeld ?_
             try simp only [Act.put,gB,gC,gD,gE,gF,gG]
             generalize wr.drew=W0 at hHeld ⊢
             refine wpAnyH_ready (rs:=[10,11]) (by kernel_rfl) (by simp) ?_
             refine AllReadyH.cons rfl (fun K hK=>?_) (AllReadyH.cons rfl (fun K hK=>?_) AllReadyH.nil)
             ·go_simp;refine hK.out _ _ (hHeld.alloc hHeld.size _) (fun _=>?_)
              clear hK K;try simp only [Act.put,gB,gC,gD,gE,gF,gG]
              have hX1v:=hHeld.alloc hHeld.size (.cells #[.string ⟨#[]⟩,.int .i64 0,.bool false,.slice none 0 0,.int .i64 0,.int .i64 0,.int .i64 0,.int .i64 0,.slice none 0 0,.int .i64 0,.int .i64 0,.int .i64 0,.int .i64 0,.int .i64 0,.slice none 0 0,.slice none 0 0,.string ⟨#[]⟩,.int .i64 0] 131);have bv:=Blk.new W0 131 #[.string ⟨#[]⟩,.int .i64 0,.bool false,.slice none 0 0,.int .i64 0,.int .i64 0,.int .i64 0,.int .i64 0,.slice none 0 0,.int .i64 0,.int .i64 0,.int .i64 0,.int .i64 0,.int .i64 0,.slice none 0 0,.slice none 0 0,.string ⟨#[]⟩,.int .i64 0];have lev:wr.heap.size≤W0.heap.size:=hHeld.size;generalize W0.heap.size=gv at bv lev ⊢
              generalize W0.alloc (.cells #[.string ⟨#[]⟩,.int .i64 0,.bool false,.slice none 0 0,.int .i64 0,.int .i64 0,.int .i64 0,.int .i64 0,.slice none 0 0,.int .i64 0,.int .i64 0,.int .i64 0,.int .i64 0,.int .i64 0,.slice none 0 0,.slice none 0 0,.string ⟨#[]⟩,.int .i64 0] 131)=W1v at hX1v bv ⊢
              refine wpAnyH_ready (rs:=[11]) (by kernel_rfl) (by simp) ?_
              refine AllReadyH.cons rfl (fun K hK=>?_) AllReadyH.nil
              go_simp;refine hK.out _ _ (hX1v.alloc hX1v.size _) (fun _=>?_)
              clear hK K;try simp only [Act.put,gB,gC,gD,gE,gF,gG]
              have hX2u:=hX1v.alloc hX1v.size (.cells #[.string ⟨#[]⟩,.int .i64 0,.bool false,.slice none 0 0,.int .i64 0,.int .i64 0,.int .i64 0,.int .i64 0,.slice none 0 0,.int .i64 0,.int .i64 0,.int .i64 0,.int .i64 0,.int .i64 0,.slice none 0 0,.slice none 0 0,.string ⟨#[]⟩,.int .i64 0] 131);have bu:=Blk.new W1v 131 #[.string ⟨#[]⟩,.int .i64 0,.bool false,.slice none 0 0,.int .i64 0,.int .i64 0,.int .i64 0,.int .i64 0,.slice none 0 0,.int .i64 0,.int .i64 0,.int .i64 0,.int .i64 0,.int .i64 0,.slice none 0 0,.slice none 0 0,.string ⟨#[]⟩,.int .i64 0];have leu:wr.heap.size≤W1v.heap.size:=hX1v.size;have nevu:gv≠W1v.heap.size:=Nat.ne_of_lt bv.lt;replace bv:=bv.alloc (.cells #[.string ⟨#[]⟩,.int .i64 0,.bool false,.slice none 0 0,.int .i64 0,.int .i64 0,.int .i64 0,.int .i64 0,.slice none 0 0,.int .i64 0,.int .i64 0,.int .i64 0,.int .i64 0,.int .i64 0,.slice none 0 0,.slice none 0 0,.string ⟨#[]⟩,.int .i64 0] 131)
              generalize W1v.heap.size=gu at bu leu nevu ⊢
              generalize W1v.alloc (.cells #[.string ⟨#[]⟩,.int .i64 0,.bool false,.slice none 0 0,.int .i64 0,.int .i64 0,.int .i64 0,.int .i64 0,.slice none 0 0,.int .i64 0,.int .i64 0,.int .i64 0,.int .i64 0,.int .i64 0,.slice none 0 0,.slice none 0 0,.string ⟨#[]⟩,.int .i64 0] 131)=W2u at hX2u bu bv ⊢
              refine wpAnyH_ready (rs:=[12]) (by kernel_rfl) (by simp) ?_
              refine AllReadyH.cons rfl (fun K hK=>?_) AllReadyH.nil
              rw [if_pos (by rfl)]
              refine Qck 131 _ _ rfl gv _ vs.toArray bv rfl rfl (Qan HL1.out) (by show _=vs.length; rw [HL1.out]; rfl) HO1.out ?_
              have hX3v:=Qdm hX2u (g:=gv) lev vs.toArray;refine hK.out _ _ hX3v (fun _=>?_)
              clear hK K;try simp only [Act.put,gB,gC,gD]
              replace bu:=bu.setRow_other (g:=gv) nevu.symm vs.toArray
              replace bv:=bv.setRow_same vs.toArray
              generalize W2u.setRow gv vs.toArray=W3v at hX3v bv bu ⊢
              refine wpAnyH_ready (rs:=[13]) (by kernel_rfl) (by simp) ?_
              refine AllReadyH.cons rfl (fun K hK=>?_) AllReadyH.nil
              rw [if_pos (by rfl)]
              refine Qck 131 _ _ rfl gu _ us.toArray bu rfl rfl (Qan HL2.out) (by show _=us.length; rw [HL2.out]; rfl) HO2.out ?_
              have hX4u:=Qdm hX3v (g:=gu) leu us.toArray;refine hK.out _ _ hX4u (fun _=>?_)
              clear hK K;try simp only [Act.put,gB,gC,gD]
              replace bv:=bv.setRow_other (g:=gu) nevu us.toArray
              replace bu:=bu.setRow_same us.toArray
              generalize W3v.setRow gu us.toArray=W4u at hX4u bv bu ⊢
              refine wpAnyH_done (by kernel_rfl) ?_ _
              go_wp2_with fail
              go_meet
              exact ⟨_,_,rfl,rfl,bv,bu,hX4u⟩
             ·go_simp;refine hK.out _ _ (hHeld.alloc hHeld.size _) (fun _=>?_)
              clear hK K;try simp only [Act.put,gB,gC,gD,gE,gF,gG]
              have hX1u:=hHeld.alloc hHeld.size (.cells #[.string ⟨#[]⟩,.int .i64 0,.bool false,.slice none 0 0,.int .i64 0,.int .i64 0,.int .i64 0,.int .i64 0,.slice none 0 0,.int .i64 0,.int .i64 0,.int .i64 0,.int .i64 0,.int .i64 0,.slice none 0 0,.slice none 0 0,.string ⟨#[]⟩,.int .i64 0] 131);have bu:=Blk.new W0 131 #[.string ⟨#[]⟩,.int .i64 0,.bool false,.slice none 0 0,.int .i64 0,.int .i64 0,.int .i64 0,.int .i64 0,.slice none 0 0,.int .i64 0,.int .i64 0,.int .i64 0,.int .i64 0,.int .i64 0,.slice none 0 0,.slice none 0 0,.string ⟨#[]⟩,.int .i64 0];have leu:wr.heap.size≤W0.heap.size:=hHeld.size;generalize W0.heap.size=gu at bu leu ⊢
              generalize W0.alloc (.cells #[.string ⟨#[]⟩,.int .i64 0,.bool false,.slice none 0 0,.int .i64 0,.int .i64 0,.int .i64 0,.int .i64 0,.slice none 0 0,.int .i64 0,.int .i64 0,.int .i64 0,.int .i64 0,.int .i64 0,.slice none 0 0,.slice none 0 0,.string ⟨#[]⟩,.int .i64 0] 131)=W1u at hX1u bu ⊢
              refine wpAnyH_ready (rs:=[10]) (by kernel_rfl) (by simp) ?_
              refine AllReadyH.cons rfl (fun K hK=>?_) AllReadyH.nil
              go_simp;refine hK.out _ _ (hX1u.alloc hX1u.size _) (fun _=>?_)
              clear hK K;try simp only [Act.put,gB,gC,gD,gE,gF,gG]
              have hX2v:=hX1u.alloc hX1u.size (.cells #[.string ⟨#[]⟩,.int .i64 0,.bool false,.slice none 0 0,.int .i64 0,.int .i64 0,.int .i64 0,.int .i64 0,.slice none 0 0,.int .i64 0,.int .i64 0,.int .i64 0,.int .i64 0,.int .i64 0,.slice none 0 0,.slice none 0 0,.string ⟨#[]⟩,.int .i64 0] 131);have bv:=Blk.new W1u 131 #[.string ⟨#[]⟩,.int .i64 0,.bool false,.slice none 0 0,.int .i64 0,.int .i64 0,.int .i64 0,.int .i64 0,.slice none 0 0,.int .i64 0,.int .i64 0,.int .i64 0,.int .i64 0,.int .i64 0,.slice none 0 0,.slice none 0 0,.string ⟨#[]⟩,.int .i64 0];have lev:wr.heap.size≤W1u.heap.size:=hX1u.size;have neuv:gu≠W1u.heap.size:=Nat.ne_of_lt bu.lt;replace bu:=bu.alloc (.cells #[.string ⟨#[]⟩,.int .i64 0,.bool false,.slice none 0 0,.int .i64 0,.int .i64 0,.int .i64 0,.int .i64 0,.slice none 0 0,.int .i64 0,.int .i64 0,.int .i64 0,.int .i64 0,.int .i64 0,.slice none 0 0,.slice none 0 0,.string ⟨#[]⟩,.int .i64 0] 131)
              generalize W1u.heap.size=gv at bv lev neuv ⊢
              generalize W1u.alloc (.cells #[.string ⟨#[]⟩,.int .i64 0,.bool false,.slice none 0 0,.int .i64 0,.int .i64 0,.int .i64 0,.int .i64 0,.slice none 0 0,.int .i64 0,.int .i64 0,.int .i64 0,.int .i64 0,.int .i64 0,.slice none 0 0,.slice none 0 0,.string ⟨#[]⟩,.int .i64 0] 131)=W2v at hX2v bv bu ⊢
              refine wpAnyH_ready (rs:=[12]) (by kernel_rfl) (by simp) ?_
              refine AllReadyH.cons rfl (fun K hK=>?_) AllReadyH.nil
              rw [if_pos (by rfl)]
              refine Qck 131 _ _ rfl gv _ vs.toArray bv rfl rfl (Qan HL1.out) (by show _=vs.length; rw [HL1.out]; rfl) HO1.out ?_
              have hX3v:=Qdm hX2v (g:=gv) lev vs.toArray;refine hK.out _ _ hX3v (fun _=>?_)
              clear hK K;try simp only [Act.put,gB,gC,gD]
              replace bu:=bu.setRow_other (g:=gv) neuv vs.toArray
              replace bv:=bv.setRow_same vs.toArray
              generalize W2v.setRow gv vs.toArray=W3v at hX3v bu bv ⊢
              refine wpAnyH_ready (rs:=[13]) (by kernel_rfl) (by simp) ?_
              refine AllReadyH.cons rfl (fun K hK=>?_) AllReadyH.nil
              rw [if_pos (by rfl)]
              refine Qck 131 _ _ rfl gu _ us.toArray bu rfl rfl (Qan HL2.out) (by show _=us.length; rw [HL2.out]; rfl) HO2.out ?_
              have hX4u:=Qdm hX3v (g:=gu) leu us.toArray;refine hK.out _ _ hX4u (fun _=>?_)
              clear hK K;try simp only [Act.put,gB,gC,gD]
              replace bv:=bv.setRow_other (g:=gu) neuv.symm us.toArray
              replace bu:=bu.setRow_same us.toArray
              generalize W3v.setRow gu us.toArray=W4u at hX4u bu bv ⊢
              refine wpAnyH_done (by kernel_rfl) ?_ _
              go_wp2_with fail
              go_meet
              exact ⟨_,_,rfl,rfl,bv,bu,hX4u⟩
            case rest =>
             obtain ⟨g1,g2,rfl,rfl,hB1,hB2,hEc⟩:=hcut;obtain ⟨w5,hw5⟩:=V1 (wc);rw [← hw5] at hB1 hB2 hEc ⊢;have HE5:=hide (hE.trans' hEc);have Q1:=HQ1.out.ext hEc;have Q2:=HQ2.out.ext hEc;have hpl:=Qc4 (p k) (p' k) (t k) (t' k) w5 vs us Q1 Q2 (HSZ.out k hkn).2.1 (HSZ.out k hkn).2.2.1;obtain ⟨Al1,cl1,Ac1,cc1,vt,hvs,_,_,ht1⟩:=Q1;obtain ⟨Al2,cl2,Ac2,cc2,ut,hus,_,_,ht2⟩:=Q2;have hsm:=fun w6 (hE6:Ext w5 w6)=>HIH.out k (t' k) w6 vt ut (ht1.ext hE6) (ht2.ext hE6) (HSZ.out k hkn).2.2.2 (HSZ'.out k hkn).2.2.2
             obtain ⟨x0,x1,x2,x3,x4,x5,x6,x7,x8,rfl⟩:=ht1.nine;obtain ⟨y0,y1',y2',y3,y4,y5,y6,y7,y8,rfl⟩:=ht2.nine;have hC1:=hB1;have hC2:=hB2;rw [hvs] at hC1;rw [hus] at hC2;have n1:w5.cell? ⟨g1,0,none⟩=some (.string (p k).name.1):=by rw [hC1.cell 0]; rfl
             have n2:w5.cell? ⟨g2,0,none⟩=some (.string (p' k).name.1):=by rw [hC2.cell 0]; rfl
             have hek:=HEE.out k;obtain ⟨nm1,hnm1,nm2,hnm2,PB,hPB,SB,hSB⟩:=V4 ((p k).name.1) ((p' k).name.1) (Q5 (p k) (p' k)) (Qu (t k) (t' k));obtain ⟨B5,hB5⟩:=V1 ((nm1.toList == nm2.toList));rw [← hnm1] at n1 hek;rw [← hnm2] at n2 hek;rw [← hPB] at hpl hek;rw [← hSB] at hsm hek;rw [← hB5] at hek;have e5:=hB5.symm;obtain ⟨HEK,HPL⟩:=Z2 hek hpl;have HSM:=hide (show ∀ w6,Ext w5 w6→Calls Tryz.prog 116 #[.agg #[x0,x1,x2,x3,x4,x5,x6,x7,x8],.agg #[y0,y1',y2',y3,y4,y5,y6,y7,y8]] w6 (fun e w'=>e = .returned (.bool SB)∧Ext w6 w') from hsm)
             obtain ⟨HR5,HR6,HC1,HC2⟩:=Z4 (Qv hB1) (Qv hB2) (fun w6 (hE6:Ext w5 w6)=>Qiu (hC1.ext hE6) rfl) (fun w6 (hE6:Ext w5 w6)=>Qiu (hC2.ext hE6) rfl)
             clear hek hpl hsm hB1 hB2 hC1 hC2 hnm1 hnm2 hPB hSB hB5 ht1 ht2 hvs hus hEc hE x6a x6b hw5;cases B5 with
             | false =>
              have HX:=hide (HNO.out k hkn (by rw [HEK.out]; rfl))
              go_wp2_with fail
              go_ret
              exact ⟨Qb HX.out,HE3.out.trans' HE5.out⟩
             | true =>
              go_upto_region 7 with fail
              refine wp_region_lit ?_;refine wpList_plain rfl fun K0 hK0=>?_
              go_simp;refine hK0 _ _ ?_;refine wpList_plain rfl fun K1 hK1=>?_
              go_simp;refine hK1 _ _ ?_;refine wpList_plain rfl fun K2 hK2=>?_
              go_simp;refine hK2 _ _ ?_;refine wpList_plain rfl fun K3 hK3=>?_
              go_simp;refine hK3 _ _ ?_;refine wpList_plain rfl fun K4 hK4=>?_
              go_simp;refine hK4 _ _ ?_;refine wpList_plain rfl fun K5 hK5=>?_
              go_simp;refine hK5 _ _ ?_;refine wpList_plain rfl fun K6 hK6=>?_
              go_simp;refine hK6 _ _ ?_;refine wpList_plain rfl fun K7 hK7=>?_
              go_simp;refine hK7 _ _ ?_;refine wpList_unguard' (by rfl) ?_
              refine wpList_load_mid rfl 131 _ rfl g1 0 rfl vs _ HR5.out Tryz.underlying131 rfl (infoPart' HL1.out) ?_;refine wpList_unguard' (by rfl) ?_
              refine wpList_load_mid rfl 131 _ rfl g2 0 rfl us _ HR6.out Tryz.underlying131 rfl (infoPart' HL2.out) ?_;go_wp2_with fail
              refine HPL.out.mono ?_;rintro e w6 ⟨rfl,hE6⟩;obtain ⟨c9,c10,c11,c12,c13,c14,c15,c16,c17⟩:=HC1.out w6 hE6;obtain ⟨d9,d10,d11,d12,d13,d14,d15,d16,d17⟩:=HC2.out w6 hE6;obtain ⟨HCL,HE6⟩:=Z2 (HSM.out w6 hE6) (HE5.out.trans' hE6);clear hE6 n1 n2 e5 HC1 HC2 HSM HPL HR5 HR6;cases PB with
              | false =>
               have HX:=hide (HNO.out k hkn (by rw [HEK.out]; rfl))
               go_wp2_with fail
               go_ret
               exact ⟨Qb HX.out,HE3.out.trans' HE6.out⟩
              | true =>
               cases SB with
               | false =>
                have HX:=hide (HNO.out k hkn (by rw [HEK.out]; rfl))
                go_wp2_with fail
                refine HCL.out.mono ?_;rintro e w7 ⟨rfl,hE7⟩;have HE7:=hide (HE6.out.trans' hE7);clear hE7 c9 c10 c11 c12 c13 c14 c15 c16 c17 d9 d10 d11 d12 d13 d14 d15 d16 d17;go_wp2_with fail
                go_ret
                exact ⟨Qb HX.out,HE3.out.trans' HE7.out⟩
               | true =>
                have HA2:=hide (Q0 HA.out (show E k=true by rw [HEK.out]; rfl))
                go_wp2_with fail
                refine HCL.out.mono ?_;rintro e w7 ⟨rfl,hE7⟩;have HE7:=hide (HE6.out.trans' hE7);clear hE7 HA c9 c10 c11 c12 c13 c14 c15 c16 c17 d9 d10 d11 d12 d13 d14 d15 d16 d17;go_wp2_with fail
                go_roundw
                case rel=>exact ⟨k + 1,by omega,by go_num,HE7.out,HA2⟩
                case measure=>simp [intOf]; omega
           ·obtain rfl:k=n:=by omega
            have HX:=hide (HYES.out HA.out);clear HA hE;go_wp2_with fail
            go_ret
            exact ⟨Qb HX.out,HE3.out.trans' HE.out⟩
         ·have hx2:=HX.out;rw [decide_eq_false hnn] at hx2;have HX2:=hide (show false=R by rw [hx2]; rfl)
          have hne:((n:Int) != (n':Int))=true:=by simp; omega
          clear hx2 hnn;go_wp2_with fail
          go_ret
          exact ⟨Qb HX2.out,HE3.out⟩
def wrV (r:Wr):Value:=.agg #[.int .i64 r.1.1,.int .i64 r.1.2,.int .i64 r.2]
theorem Qh {g:Nat} {w2:World} {fn:Func} {p:Tmp} {a:Act} {R:Ending→World→Prop} {r:Wr} (hB:Blk w2 g 124 #[.int .i64 r.1.1,.int .i64 r.1.2,.int .i64 r.2]) (hfn:fn.results=#[.cell p 124]) (hp:a.tmps.getD p undef = .pointer (some ⟨g,0,none⟩)) (hd:a.defers = [])
  (hR:R (.returned (wrV r)) w2):bodyPost Tryz.prog fn R .ret a w2 :=
 bodyPost_ret (results_cell_row hfn _ _ g 124 _ (0,0) _ hp hB Tryz.underlying124 rfl (by kernel_rfl)) hd hR
set_option maxRecDepth 100000 in
theorem Qm (f1 f2 m e a:Int) (w:World):Calls Tryz.prog 91 #[.agg #[.int .i64 f1,.int .i64 f2,.int .i64 m],.int .i64 e,.int .i64 a] w (fun e' w'=>e' = .returned (wrV ((e,a),m))∧Ext w w'):=by
 obtain ⟨w0,hw0⟩:=V1 ((w.alloc (.cells #[.int .i64 f1,.int .i64 f2,.int .i64 m] 124)).alloc (.cells #[.int .i64 0,.int .i64 0,.int .i64 0] 124));have hT:Blk w0 w.heap.size 124 #[.int .i64 f1,.int .i64 f2,.int .i64 m]:=by rw [hw0]; exact (Blk.new _ _ _).alloc _
 have hF:Blk w0 (w.heap.size + 1) 124 #[.int .i64 0,.int .i64 0,.int .i64 0]:=by
  rw [hw0]; have:=Blk.new (w.alloc (.cells #[.int .i64 f1,.int .i64 f2,.int .i64 m] 124)) 124 #[.int .i64 0,.int .i64 0,.int .i64 0]; simpa only [World.size_alloc] using this
 have hE:Ext w w0:=by rw [hw0]; exact ((Ext.rfl' w).alloc nL _).alloc (by simp only [World.size_alloc]; omega) _
 have hlo:w.heap.size≤w.heap.size + 1:=Nat.le_succ _;obtain ⟨gf,hgf,gt,hgt⟩:=V2 (w.heap.size + 1) (w.heap.size);rw [← hgf] at hF hlo;rw [← hgt] at hT;obtain ⟨-,-,t2⟩:=X3 hT;obtain ⟨b0,b1,b2⟩:=X3 hF;obtain ⟨f0,f1,f2⟩:=Y3 hF;obtain ⟨HW,HGF,HGT,HF,HE,HLO⟩:=Z6 hw0 hgf hgt hF hE hlo;clear hw0 hT hF hE hgf hgt hlo;go_enter Tryz.func91,Tryz.ntmps91
 go_upto_region 1 with fail
 rw [← HW.out,← HGF.out,← HGT.out];go_wp2_with fail
 exact Qh (r:=((e,a),m)) (g:=gf) (((HF.out.set_ 0 _).set_ 1 _).set_ 2 _) rfl rfl rfl ⟨rfl,((HE.out.setCell HLO.out _).setCell HLO.out _).setCell HLO.out _⟩
abbrev zCells:List Value:=[.int .i64 0,.int .i64 0,.int .i64 0,.int .i64 0,.int .i64 0,.slice none 0 0,.slice none 0 0,.string ⟨#[]⟩,.int .i64 0]
theorem Qli (w:World) (B:Nat):TyAt w B zTy zCells:=⟨none,0,none,0,rfl,Reads.none_,fun h=>absurd h (by omega)⟩
theorem Qgb:Qr zTy:=by
 refine ⟨⟨Nat.zero_le _,fun k=>?_⟩,Nat.zero_le _,Nat.zero_le _,fun i hi=>absurd hi (Nat.not_lt_zero i)⟩
 show (wNm [] k).size≤maxLen
 rw [show wNm [] k=⟨#[]⟩ from rfl]; exact Nat.zero_le _
theorem Qd4 (w:World) (B:Nat) (nm:Wd) (b:Bool):PartAt w B (zPt nm b) zTy (ptV (zPt nm b) none 0 none 0 ++ zCells):=⟨none,0,none,0,zCells,rfl,Reads.none_,Reads.none_,Qli w B⟩
theorem Qd5:Qi []:=⟨Nat.zero_le _,fun k=>by rw [show wNm [] k=⟨#[]⟩ from rfl]; exact Nat.zero_le _⟩
set_option maxRecDepth 100000 in
theorem Qlj (t:Ty) (w:World) (vs:List Value) (h:TyAt w w.heap.size t vs) (hs:Qr t):Calls Tryz.prog 119 #[.agg vs.toArray] w (fun e w'=>e = .returned (.bool (Qu t zTy))∧Ext w w'):=by
 obtain ⟨w1,hw1⟩:=V1 (w.alloc (.cells vs.toArray 29));have hE:Ext w w1:=by rw [hw1]; exact (Ext.rfl' w).alloc nL _
 have hsame:=refSame_any t zTy w1 vs zCells (h.ext hE) (Qli _ _) hs Qgb;obtain ⟨x0,x1,x2,x3,x4,x5,x6,x7,x8,rfl⟩:=h.nine;obtain ⟨R,hR⟩:=V1 (Qu t zTy);rw [← hR] at hsame ⊢;have HS:=hide (show Calls Tryz.prog 116 #[.agg #[x0,x1,x2,x3,x4,x5,x6,x7,x8],.agg #[.int .i64 0,.int .i64 0,.int .i64 0,.int .i64 0,.int .i64 0,.slice none 0 0,.slice none 0 0,.string ⟨#[]⟩,.int .i64 0]] w1 (fun e w'=>e = .returned (.bool R)∧Ext w1 w') from hsame)
 obtain ⟨g,hg⟩:=V1 (w.heap.size);have hB:Blk w1 g 29 #[x0,x1,x2,x3,x4,x5,x6,x7,x8]:=by rw [hw1,hg]; exact Blk.new _ _ _
 obtain ⟨b0,b1,b2,b3,b4,b5,b6,b7,b8⟩:=X9 hB;have HE:=hide hE;have HW1:=hide (show w1=w.alloc (.cells #[x0,x1,x2,x3,x4,x5,x6,x7,x8] 29) from hw1)
 have HG:=hide hg;show Calls Tryz.prog 119 #[.agg #[x0,x1,x2,x3,x4,x5,x6,x7,x8]] w _
 clear hsame hw1 hg hB hE h hs hR;go_enter Tryz.func119,Tryz.ntmps119
 go_upto_region 1 with fail
 rw [← HW1.out,← HG.out];go_wp2_with fail
 refine HS.out.mono ?_;rintro e w2 ⟨rfl,hE2⟩;have HE2:=hide (HE.out.trans' hE2);clear hE2;go_wp2_with fail
 go_ret
 exact ⟨rfl,HE2.out⟩
end Go.Proofs.YtanpljalbijfkaaGreat
