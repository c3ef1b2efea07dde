/- . -/
import Derived.Test.YtanpljalbijfkaaGreatQ04
import Derived.Test.YtanpljalbijfkaaGreatQ16
import Derived.Laws.StructEq
namespace Go.Proofs.YtanpljalbijfkaaGreat
open Go.RowKit
set_option maxHeartbeats 16000000
theorem Qa {g:Nat} {w2:World} {fn:Func} {p:Tmp} {a:Act} {R:Ending→World→Prop} {f:Int × Int} (hB:Blk w2 g 34 #[.int .i64 f.1,.int .i64 f.2]) (hfn:fn.results=#[.cell p 34]) (hp:a.tmps.getD p undef = .pointer (some ⟨g,0,none⟩)) (hd:a.defers = [])
  (hR:R (.returned (fltV f)) w2):bodyPost Tryz.prog fn R .ret a w2 :=
 bodyPost_ret (results_cell_row hfn _ _ g 34 _ (0,0) _ hp hB Tryz.underlying34 rfl (by kernel_rfl)) hd hR
theorem Qn (a b:Int) (w:World):Calls Tryz.prog 127 #[.int .i64 a,.int .i64 b] w (fun e w'=>e = .returned (fltV (a,b))∧Ext w w'):=by
 go_enter Tryz.func127,Tryz.ntmps127
 go_wp2_with fail
 exact Qa (f:=(a,b)) (g:=w.heap.size) (Blk.new _ _ _) rfl rfl rfl ⟨rfl,(Ext.rfl' w).alloc nL _⟩
theorem ext_two' {w w':World} {g i j:Nat} (hE:Ext w w') (hg:w.heap.size≤g) (u v:Value):Ext w ((w'.setCell ⟨g,i,none⟩ u).setCell ⟨g,j,none⟩ v):=(hE.setCell hg u).setCell hg v
theorem Qhf (a b c d:Int) (w:World):(Op.equalIn 10000 34 (.agg #[.int .i64 a,.int .i64 b]) (.agg #[.int .i64 c,.int .i64 d])).run Tryz.prog w = .ok (a == c && b == d) w:=by
 rw [run_equalIn_struct w 9999 34 _ _ (by kernel_rfl) (by kernel_rfl)]
 obtain ⟨f1,f2,hf,h1,h2,h3,h4,h5,h6⟩:∃ f1 f2:Field,(Tryz.prog.fieldsOf 34).toList = [f1,f2]∧f1.name≠ "_"∧f2.name≠ "_"∧f1.type=32∧f2.type=3∧f1.offset=0∧f2.offset=1:=by
  have hm:(Tryz.prog.fieldsOf 34).toList.map (fun f=>(f.name,f.type,f.offset)) = [("E",32,0),("At",3,1)]:=by kernel_rfl
  obtain ⟨f1,f2,hl⟩:=Qqn (show (Tryz.prog.fieldsOf 34).toList.length=2 by have:=congrArg List.length hm; simpa only [List.length_map,List.length_cons,List.length_nil] using this)
  rw [hl] at hm;simp only [List.map_cons,List.map_nil,List.cons.injEq,Prod.mk.injEq,and_true] at hm;obtain ⟨⟨a1,a2,a3⟩,b1,b2,b3⟩:=hm;exact ⟨f1,f2,hl,by rw [a1]; decide,by rw [b1]; decide,a2,b2,a3,b3⟩
 have hp0:∀ x y:Int,(part 32 #[.int .i64 x,.int .i64 y] 0).run Tryz.prog w = .ok (.int .i64 x) w:=fun x y=>by kernel_rfl
 have hp1:∀ x y:Int,(part 3 #[.int .i64 x,.int .i64 y] 1).run Tryz.prog w = .ok (.int .i64 y) w:=fun x y=>by kernel_rfl
 have he:∀ x y:Int,(Op.equalIn 9999 32 (.int .i64 x) (.int .i64 y)).run Tryz.prog w = .ok (x == y) w:=fun x y=>run_equalIn_int w 9998 _ _ .i64 x y (by kernel_rfl)
 have he2:∀ x y:Int,(Op.equalIn 9999 3 (.int .i64 x) (.int .i64 y)).run Tryz.prog w = .ok (x == y) w:=fun x y=>run_equalIn_int w 9998 _ _ .i64 x y (by kernel_rfl)
 rw [hf];unfold Op.eqFields;rw [if_pos h1,h3,h5];simp only [Sem.run_bind,hp0,Result.andThen_ok,he];cases hx:(a == c)
 ·simp
 ·simp only [Bool.not_true,Bool.false_eq_true,if_false];unfold Op.eqFields;rw [if_pos h2,h4,h6];simp only [Sem.run_bind,hp1,Result.andThen_ok,he2];cases hy:(b == d)
  ·simp
  ·simp [Op.eqFields]
theorem Qiq {l:List Wd} {n k:Nat} (hn:n=l.length) (h32:¬ 32 < n) (hk:k < n) (h:∀ j,j < k→Qce l j=none) (hb:Qj (wNm l k)=false):Qo l=(9,wPl l k):=by
 unfold Qo;rw [if_neg (by omega),Qk (by omega) h (show Qce l k=some (9,wPl l k) from if_pos hb)]
 rfl
theorem Qhg {l:List Wd} {n:Nat} (hn:n=l.length) (h32:¬ 32 < n) (h:∀ j,j < n→Qce l j=none):Qo l=(0,0):=by
 unfold Qo;rw [if_neg (by omega),firstOf_miss.2 (by rw [← hn]; exact h)]
 rfl
theorem Qir {l:List Wd} {k:Nat} (hb:Qj (wNm l k)=true):Qce l k=none:=by
 unfold Qce;rw [hb]; rfl
set_option maxRecDepth 100000 in
theorem Qga (A:Option Addr) (c n:Nat) (l:List Wd) (w:World) (h:WdsAt w w.heap.size A l) (hn:n=l.length) (hsz:Qi l) :
  Calls Tryz.prog 176 #[.slice A n c] w (fun e w'=>e = .returned (fltV (Qo l))∧Ext w w'):=by
 by_cases c1:32 < n
 ·have e:Qo l=(8,wPl l 32):=by unfold Qo; rw [if_pos (by omega)]
  rw [e];obtain ⟨b,o,rfl,hbs,hcell⟩:=h.cell (by omega)
  have d1:=((Ext.rfl' w).alloc nL (.cells #[.int .i64 0,.int .i64 0] 34)).cell (p:=⟨b,o + 32 * 2 + 1,none⟩) hbs;rw [(hcell 32 (by omega)).2] at d1
  obtain ⟨x,hx⟩:=V1 (wPl l 32);rw [← hx] at d1 ⊢;obtain ⟨w1,hw1⟩:=V1 (w.alloc (.cells #[.int .i64 0,.int .i64 0] 34));have hB:=bN hw1;have HE:=hide (show Ext w w1 by rw [hw1]; exact (Ext.rfl' w).alloc nL _)
  obtain ⟨g,hg⟩:=V1 (w.heap.size);rw [← hg] at hB;rw [← hw1] at d1;obtain ⟨HB,HG,HW⟩:=Z3 hB hg hw1;clear hx hcell h hn e hw1 hg hB;go_enter Tryz.func176,Tryz.ntmps176
  go_upto_region 1 with fail
  rw [← HW.out,← HG.out];go_wp2_with fail
  refine (Qn 8 x w1).mono ?_;rintro e w2 ⟨rfl,hE2⟩;obtain ⟨HB2,HE2⟩:=Z2 (HB.out.ext hE2) (HE.out.trans' hE2);obtain ⟨b0,b1⟩:=X2 HB2.out;obtain ⟨f0,f1⟩:=Y2 HB2.out;unfold fltV;clear hE2;go_wp2_with fail
  exact Qa (f:=(8,x)) (g:=g) ((HB2.out.set_ 0 _).set_ 1 _) rfl rfl rfl ⟨rfl,ext_two' HE2.out (by rw [HG.out]; exact Nat.le_refl _) _ _⟩
 ·obtain ⟨HN,HH,HSZ,HIT,HMI⟩:=Z5 hn h hsz (fun k (hk:k < n) hh hb=>Qiq (k:=k) hn c1 hk hh hb) (fun hh=>Qhg hn c1 hh)
  obtain ⟨R,hR⟩:=V1 (Qo l);rw [← hR] at HIT HMI ⊢;have i32:¬ (32:Int) < (n:Int):=by omega
  clear hR hn h hsz;go_enter Tryz.func176,Tryz.ntmps176
  go_wp2_with fail
  go_loopw [15] (fun i wr=>∃ k:Nat,k≤n∧i = .int .i64 k∧Ext w wr∧Blk wr w.heap.size 34 #[.int .i64 0,.int .i64 0]∧Hid (∀ j,j < k→Qce l j=none)) (fun i _=>n - (intOf i).toNat)
  case atStart=>exact ⟨0,Nat.zero_le _,rfl,(Ext.rfl' w).alloc nL _,Blk.new _ _ _,fun j hj=>absurd hj (by omega)⟩
  case round =>
   obtain ⟨k,hk,rfl,hE,hB,HA⟩:=hrel;obtain ⟨HE,HB⟩:=Z2 hE hB;by_cases hlt:k < n
   ·have hkl:k < l.length:=by rw [← HN.out]; exact hlt
    obtain ⟨b,o,rfl,hbs,hcell⟩:=HH.out.cell (by omega)
    obtain ⟨p1,p2⟩:=hcell k hkl;have q1:=(hE.cell (p:=⟨b,o + k * 2,none⟩) hbs).trans p1;have q2:=(hE.cell (p:=⟨b,o + k * 2 + 1,none⟩) hbs).trans p2;have hs:=HSZ.out.2 k;have hh:=HIT.out k hlt HA.out;have hn':Qj (wNm l k)=true→Qce l k=none:=Qir;obtain ⟨x,hx,p,hp⟩:=V2 (wNm l k) (wPl l k);rw [← hx] at q1 hs hh hn';rw [← hp] at q2 hh;have HR:=hide (fun w=>right_any x w hs)
    obtain ⟨rb,hrb⟩:=V1 (Qj x);rw [← hrb] at HR hh hn';have i0:=nZ k;have i1:(k:Int) < (n:Int):=by omega
    obtain ⟨w1,hw1⟩:=V1 (wr.alloc (.cells #[.string x,.int .i64 p] 27));have hV:=bN hw1;have hB1:Blk w1 w.heap.size 34 #[.int .i64 0,.int .i64 0]:=by rw [hw1]; exact hB.alloc _
    have hE1:Ext w w1:=by rw [hw1]; exact hE.alloc hE.size _
    obtain ⟨gv,hgv⟩:=V1 (wr.heap.size);rw [← hgv] at hV;obtain ⟨v0,v1⟩:=X2 hV;obtain ⟨HH1,HN1,HB1,HE1,HW1,HG1⟩:=Z6 hh hn' hB1 hE1 hw1 hgv;clear hcell hx hp hrb hs hkl hh hn' p1 p2 hE hB hw1 hgv hV hB1 hE1 HE HB;cases rb with
    | false =>
     go_upto_region 6 with fail
     rw [← HW1.out,← HG1.out];go_wp2_with fail
     refine (HR.out _).mono ?_;rintro e w' ⟨rfl,rfl⟩;go_wp2_with fail
     refine (Qn 9 p _).mono ?_;rintro e w2 ⟨rfl,hE2⟩;obtain ⟨HB2,HE2⟩:=Z2 (HB1.out.ext hE2) (HE1.out.trans' hE2);obtain ⟨b0,b1⟩:=X2 HB2.out;obtain ⟨f0,f1⟩:=Y2 HB2.out;unfold fltV;clear hE2;go_wp2_with fail
     exact Qa (f:=(9,p)) (g:=w.heap.size) ((HB2.out.set_ 0 _).set_ 1 _) rfl rfl rfl ⟨by rw [HH1.out (by trivial)],ext_two' HE2.out nL _ _⟩
    | true =>
     have HA2:=hide (Q0 HA.out (HN1.out (by trivial)))
     clear HA;go_upto_region 6 with fail
     rw [← HW1.out,← HG1.out];go_wp2_with fail
     refine (HR.out _).mono ?_;rintro e w' ⟨rfl,rfl⟩;go_wp2_with fail
     go_roundw
     case rel=>exact ⟨k + 1,by omega,by go_num,HE1.out,HB1.out,HA2.out⟩
     case measure=>simp [intOf]; omega
   ·obtain rfl:k=n:=by omega
    have HX:=hide (HMI.out HA.out);obtain ⟨b0,b1⟩:=X2 HB.out;obtain ⟨f0,f1⟩:=Y2 HB.out;clear HA hE hB;go_wp2_with fail
    exact Qa (f:=(0,0)) (g:=w.heap.size) ((HB.out.set_ 0 _).set_ 1 _) rfl rfl rfl ⟨by rw [HX.out],ext_two' HE.out nL _ _⟩
set_option maxRecDepth 100000 in
theorem Qcj (A:Option Addr) (c n:Nat) (l:List Wd) (w:World) (h:WdsAt w w.heap.size A l) (hn:n=l.length) (hsz:Qi l) :
  Calls Tryz.prog 90 #[.slice A n c] w (fun e w'=>e = .returned (fltV (Qo l))∧Ext w w'):=by
 obtain ⟨w0,hw0⟩:=V1 (w.alloc (.cells #[.int .i64 0,.int .i64 0] 34));have hB:=bN hw0;have hE:Ext w w0:=by rw [hw0]; exact (Ext.rfl' w).alloc nL _
 have h0:=h.ext hE;obtain ⟨g,hg⟩:=V1 (w.heap.size);rw [← hg] at hB;obtain ⟨b0,b1⟩:=X2 hB;obtain ⟨f0,f1⟩:=Y2 hB;obtain ⟨HW,HG,HB,HE⟩:=Z4 hw0 hg hB hE;by_cases c1:32 < n
 ·have e:Qo l=(8,wPl l 32):=by unfold Qo; rw [if_pos (by omega)]
  rw [e];obtain ⟨b,o,rfl,hbs,hcell⟩:=h0.cell (by omega)
  have d1:=(hcell 32 (by omega)).2
  obtain ⟨x,hx⟩:=V1 (wPl l 32);rw [← hx] at d1 ⊢;clear hx hcell h hn e hw0 hg hB hE h0;go_enter Tryz.func90,Tryz.ntmps90
  go_upto_region 1 with fail
  rw [← HW.out,← HG.out];go_wp2_with fail
  exact Qa (f:=(8,x)) (g:=g) ((HB.out.set_ 0 _).set_ 1 _) rfl rfl rfl ⟨rfl,ext_two' HE.out (by rw [HG.out]; exact Nat.le_refl _) _ _⟩
 ·obtain ⟨HN,HH,HSZ,HIT,HMI⟩:=Z5 hn h0 hsz (fun k (hk:k < n) hh hb=>Qiq (k:=k) hn c1 hk hh hb) (fun hh=>Qhg hn c1 hh)
  obtain ⟨R,hR⟩:=V1 (Qo l);rw [← hR] at HIT HMI ⊢;have i32:¬ (32:Int) < (n:Int):=by omega
  clear hR hn h hsz hw0 hg hB hE h0;go_enter Tryz.func90,Tryz.ntmps90
  go_upto_region 1 with fail
  rw [← HW.out,← HG.out];go_wp2_with fail
  go_loop [3] (fun i=>∃ k:Nat,k≤n∧i = .int .i64 k∧Hid (∀ j,j < k→Qce l j=none)) (fun i=>n - (intOf i).toNat)
  case atStart=>exact ⟨0,Nat.zero_le _,rfl,fun j hj=>absurd hj (by omega)⟩
  case round =>
   obtain ⟨k,hk,rfl,HA⟩:=hrel;by_cases hlt:k < n
   ·have hkl:k < l.length:=by rw [← HN.out]; exact hlt
    obtain ⟨b,o,rfl,hbs,hcell⟩:=HH.out.cell (by omega)
    obtain ⟨p1,p2⟩:=hcell k hkl;have hs:=HSZ.out.2 k;have hh:=HIT.out k hlt HA.out;have hn':Qj (wNm l k)=true→Qce l k=none:=Qir;obtain ⟨x,hx,p,hp⟩:=V2 (wNm l k) (wPl l k);rw [← hx] at p1 hs hh hn';rw [← hp] at p2 hh;have HR:=hide (fun w=>refRight_any x w hs)
    obtain ⟨rb,hrb⟩:=V1 (Qj x);rw [← hrb] at HR hh hn';have i0:=nZ k;have i1:(k:Int) < (n:Int):=by omega
    obtain ⟨HH1,HN1⟩:=Z2 hh hn';clear hcell hx hp hrb hs hkl hh hn';cases rb with
    | false =>
     go_wp2_with fail
     refine (HR.out _).mono ?_;rintro e w' ⟨rfl,rfl⟩;go_wp2_with fail
     exact Qa (f:=(9,p)) (g:=g) ((HB.out.set_ 0 _).set_ 1 _) rfl rfl rfl ⟨by rw [HH1.out (by trivial)],ext_two' HE.out (by rw [HG.out]; exact Nat.le_refl _) _ _⟩
    | true =>
     have HA2:=hide (Q0 HA.out (HN1.out (by trivial)))
     clear HA;go_wp2_with fail
     refine (HR.out _).mono ?_;rintro e w' ⟨rfl,rfl⟩;go_wp2_with fail
     go_round
     case rel=>exact ⟨k + 1,by omega,by go_num,HA2⟩
     case measure=>simp [intOf]; omega
   ·obtain rfl:k=n:=by omega
    have HX:=hide (HMI.out HA.out);clear HA;go_wp2_with fail
    exact Qa (f:=(0,0)) (g:=g) ((HB.out.set_ 0 _).set_ 1 _) rfl rfl rfl ⟨by rw [HX.out],ext_two' HE.out (by rw [HG.out]; exact Nat.le_refl _) _ _⟩
def listedF (l:List ByteArray) (k:Nat) (a:Int):Flt:=if Qj (l.getD k ⟨#[]⟩)=false then (9,a) else if 0≤twiceL l then (10,a) else (0,0)
theorem Qox (k:Nat) (h:k < 1000000):wrap64 (k:Int)=(k:Int):=IntWalk.wrap64_in _ (by omega)
theorem Qes {l:List ByteArray} {k:Nat} (hk:k < l.length) (a:Int) (h:∀ j,j < k→listE l j=0):listedF (l.take (k + 1)) k a=if listE l k=0 then (0,0) else (listE l k,a):=by
 have ht:=Qjq hk (fun j hj=>(Qid (h j hj)).2)
 have e:(l.take (k + 1)).getD k ⟨#[]⟩=l.getD k ⟨#[]⟩:=by
  rw [List.getD_eq_getElem?_getD,List.getD_eq_getElem?_getD,List.getElem?_take_of_lt (Nat.lt_succ_self k)]
 unfold listedF listE;rw [e];cases Qj (l.getD k ⟨#[]⟩) with
 | false=>rfl
 | true =>
  cases hc:twiceP l k with
  | false =>
   have h1:=ht.2 hc;have h2:¬ 0≤twiceL (l.take (k + 1)):=by omega
   simp [h2]
  | true =>
   have:¬ twiceL (l.take (k + 1)) < 0:=fun h'=>by rw [ht.1 h'] at hc; cases hc
   have h2:0≤twiceL (l.take (k + 1)):=by omega
   simp [h2]
set_option maxRecDepth 100000 in
theorem Qfe (A:Option Addr) (c n k:Nat) (a:Int) (l:List ByteArray) (w:World) (h:StrAt w w.heap.size A l) (hn:n=l.length) (hk:n=k + 1) (hle:n≤1000000) (hsz:(l.getD k ⟨#[]⟩).size≤maxLen) :
  Calls Tryz.prog 161 #[.slice A n c,.int .i64 a] w (fun e w'=>e = .returned (fltV (listedF l k a))∧Ext w w'):=by
 have e1:wrap64 (k:Int)=(k:Int):=Qox k (by clear hsz h; omega)
 obtain ⟨w0,hw0⟩:=V1 (w.alloc (.cells #[.int .i64 0,.int .i64 0] 34));have hB:=bN hw0;have hE:Ext w w0:=by rw [hw0]; exact (Ext.rfl' w).alloc nL _
 have h0:StrAt w0 w0.heap.size A l:=h.ext hE;have hkl:k < l.length:=by omega
 obtain ⟨b,o,rfl,hbs,hcell⟩:=h0.cell (by omega)
 have d1:=hcell k hkl;have HT:=hide (Qf0 (some ⟨b,o,none⟩) c n l w0 h0 hn hle);have hl:l.getD k ⟨#[]⟩=l[k]:=by rw [List.getD_eq_getElem?_getD,List.getElem?_eq_getElem hkl]; rfl
 have hx:listedF l k a=if Qj l[k]=false then (9,a) else if 0≤twiceL l then (10,a) else (0,0):=by unfold listedF; rw [hl]
 rw [hl] at hsz;obtain ⟨s,hs⟩:=V1 (l[k]);rw [← hs] at d1 hx hsz;have HR:=hide (fun w=>right_any s w hsz)
 obtain ⟨rb,hrb,t,ht,R,hR⟩:=V3 (Qj s) (twiceL l) (listedF l k a);rw [← hR] at hx ⊢;rw [← hrb] at hx HR;rw [← ht] at hx HT;have HX:=hide hx;obtain ⟨g,hg⟩:=V1 (w.heap.size);rw [← hg] at hB;obtain ⟨HW,HG,HB,HE⟩:=Z4 hw0 hg hB hE;subst hk;have i0:=nZ k;have i1:(k:Int) < (k:Int) + 1:=by omega
 clear hR hx ht hrb hs hl hcell h0 hE hB hg hw0 h hn hkl hsz hle;cases rb with
 | false =>
  go_enter Tryz.func161,Tryz.ntmps161
  go_upto_region 1 with fail
  rw [← HW.out,← HG.out];go_wp2_with fail
  refine (HR.out _).mono ?_;rintro e w' ⟨rfl,rfl⟩;go_wp2_with fail
  refine (Qn 9 a _).mono ?_;rintro e w2 ⟨rfl,hE2⟩;obtain ⟨HB2,HE2⟩:=Z2 (HB.out.ext hE2) (HE.out.trans' hE2);obtain ⟨b0,b1⟩:=X2 HB2.out;obtain ⟨f0,f1⟩:=Y2 HB2.out;unfold fltV;clear hE2;go_wp2_with fail
  exact Qa (f:=(9,a)) (g:=g) ((HB2.out.set_ 0 _).set_ 1 _) rfl rfl rfl ⟨by rw [HX.out]; rfl,ext_two' HE2.out (by rw [HG.out]; exact Nat.le_refl _) _ _⟩
 | true =>
  by_cases c0:0≤t
  ·go_enter Tryz.func161,Tryz.ntmps161
   go_upto_region 1 with fail
   rw [← HW.out,← HG.out];go_wp2_with fail
   refine (HR.out _).mono ?_;rintro e w' ⟨rfl,rfl⟩;go_wp2_with fail
   refine HT.out.mono ?_;rintro e w1 ⟨rfl,hE1⟩;obtain ⟨HB1,HE1⟩:=Z2 (HB.out.ext hE1) (HE.out.trans' hE1);clear hE1 d1;go_wp2_with fail
   refine (Qn 10 a _).mono ?_;rintro e w2 ⟨rfl,hE2⟩;obtain ⟨HB2,HE2⟩:=Z2 (HB1.out.ext hE2) (HE1.out.trans' hE2);obtain ⟨b0,b1⟩:=X2 HB2.out;obtain ⟨f0,f1⟩:=Y2 HB2.out;unfold fltV;clear hE2;go_wp2_with fail
   exact Qa (f:=(10,a)) (g:=g) ((HB2.out.set_ 0 _).set_ 1 _) rfl rfl rfl ⟨by rw [HX.out,if_neg (by decide),if_pos c0],ext_two' HE2.out (by rw [HG.out]; exact Nat.le_refl _) _ _⟩
  ·go_enter Tryz.func161,Tryz.ntmps161
   go_upto_region 1 with fail
   rw [← HW.out,← HG.out];go_wp2_with fail
   refine (HR.out _).mono ?_;rintro e w' ⟨rfl,rfl⟩;go_wp2_with fail
   refine HT.out.mono ?_;rintro e w1 ⟨rfl,hE1⟩;obtain ⟨HB1,HE1⟩:=Z2 (HB.out.ext hE1) (HE.out.trans' hE1);obtain ⟨b0,b1⟩:=X2 HB1.out;obtain ⟨f0,f1⟩:=Y2 HB1.out;clear hE1 d1;go_wp2_with fail
   exact Qa (f:=(0,0)) (g:=g) ((HB1.out.set_ 0 _).set_ 1 _) rfl rfl rfl ⟨by rw [HX.out,if_neg (by decide),if_neg (by omega)],ext_two' HE1.out (by rw [HG.out]; exact Nat.le_refl _) _ _⟩
theorem Qqp {l:List Wd} {n k i:Nat} (hn:n=l.length) (hi:i < n) (hr:Qj (wNm l i)=true) (hk:k < i) (he:wNm l k=wNm l i):listE (nms l) i=10:=by
 have h1:i < (nms l).length:=by rw [nms_length]; omega
 have e1:(nms l).getD i ⟨#[]⟩=wNm l i:=by rw [List.getD_eq_getElem?_getD,List.getElem?_eq_getElem h1,Option.getD_some,nms_at h1]
 unfold listE;rw [e1,hr,if_neg (by decide),if_pos]
 rw [Qdj h1];exact ⟨k,hk,by omega,by rw [nms_at,nms_at]; exact he⟩
theorem Qqq {l:List Wd} {n i:Nat} (hn:n=l.length) (hi:i < n) (hr:Qj (wNm l i)=false):listE (nms l) i=9:=by
 have h1:i < (nms l).length:=by rw [nms_length]; omega
 have e1:(nms l).getD i ⟨#[]⟩=wNm l i:=by rw [List.getD_eq_getElem?_getD,List.getElem?_eq_getElem h1,Option.getD_some,nms_at h1]
 unfold listE;rw [e1,hr]; rfl
theorem Qoy {l:List Wd} {n i:Nat} (hn:n=l.length) (hi:i < n) (hr:Qj (wNm l i)=true) (h:∀ k,k < i→wNm l k≠wNm l i):listE (nms l) i=0:=by
 have h1:i < (nms l).length:=by rw [nms_length]; omega
 have e1:(nms l).getD i ⟨#[]⟩=wNm l i:=by rw [List.getD_eq_getElem?_getD,List.getElem?_eq_getElem h1,Option.getD_some,nms_at h1]
 unfold listE;rw [e1,hr,if_neg (by decide),if_neg]
 rw [Qdj h1];rintro ⟨k,hk,hl,e⟩;rw [nms_at,nms_at] at e;exact h k hk e
set_option maxRecDepth 100000 in
theorem Qdb (A:Option Addr) (c n i:Nat) (l:List Wd) (w:World) (h:WdsAt w w.heap.size A l) (hn:n=l.length) (hi:i < n) (hle:n≤1000000) (hsz:∀ k,(wNm l k).size≤maxLen) :
  Calls Tryz.prog 93 #[.slice A n c,.int .i64 i] w (fun e w'=>e = .returned (.int .i64 (listE (nms l) i))∧Ext w w'):=by
 obtain ⟨b,o,rfl,hbs,hcell⟩:=h.cell (by omega)
 have HC:=hide hcell;have d1:=(hcell i (by omega)).1
 obtain ⟨HB9,HHIT,HMIS,HN⟩:=Z4 (fun hr=>Qqq hn hi hr) (fun k hr hk he=>Qqp (k:=k) hn hi hr hk he) (fun hr hh=>Qoy hn hi hr hh) hn
 obtain ⟨s,hs⟩:=V1 (wNm l i);have hsz':=hsz i;rw [← hs] at d1 hsz' HB9 HHIT HMIS;have HR:=hide (fun w=>refRight_any s w hsz')
 obtain ⟨rb,hrb,R,hR⟩:=V2 (Qj s) (listE (nms l) i);rw [← hR] at HB9 HHIT HMIS ⊢;rw [← hrb] at HR HB9 HHIT HMIS;have i0:=nZ i;have i1:(i:Int) < (n:Int):=by omega
 clear hR hrb hs hcell h hn hsz hsz';cases rb with
 | false =>
  go_enter Tryz.func93,Tryz.ntmps93
  go_wp2_with fail
  refine (HR.out _).mono ?_;rintro e w' ⟨rfl,rfl⟩;go_wp2_with fail
  go_ret
  exact ⟨by rw [HB9.out (by trivial)]; rfl,Ext.rfl' _⟩
 | true =>
  go_enter Tryz.func93,Tryz.ntmps93
  go_wp2_with fail
  refine (HR.out _).mono ?_;rintro e w' ⟨rfl,rfl⟩;go_wp2_with fail
  go_loopw [5] (fun x wr=>∃ k:Nat,k≤i∧x = .int .i64 k∧Ext w wr∧Hid (∀ j,j < k→wNm l j≠s)) (fun x _=>i - (intOf x).toNat)
  case atStart=>exact ⟨0,Nat.zero_le _,rfl,Ext.rfl' _,fun j hj=>absurd hj (by omega)⟩
  case round =>
   obtain ⟨k,hk,rfl,hE,HA⟩:=hrel;by_cases hlt:k < i
   ·have q2:=(hE.cell (p:=⟨b,o + i * 2,none⟩) hbs).trans d1;have q1:=(hE.cell (p:=⟨b,o + k * 2,none⟩) hbs).trans (HC.out k (by rw [← HN.out]; omega)).1
    have HE:=hide hE;have hhit:=HHIT.out k (by trivial) hlt
    have HST:=hide (fun hh=>Q0 HA.out (show wNm l k≠s from hh))
    obtain ⟨y,hy⟩:=V1 (wNm l k);rw [← hy] at q1 hhit HST;have i2:=nZ k;have i3:(k:Int) < (n:Int):=by omega
    by_cases he:y=s
    ·have HX:=hide (hhit he);have hq:(y.toList == s.toList)=true:=by rw [he]; simp
     clear hhit hy hE HST he;go_wp2_with fail
     go_quiet (fail)
     go_wp2_with fail
     go_ret
     exact ⟨by rw [HX.out]; rfl,below_drewN HE.out _⟩
    ·have HA2:=hide (HST.out he);have hq:(y.toList == s.toList)=false:=by rw [Q8]; exact decide_eq_false he
     clear hhit hy hE HST he HA;go_wp2_with fail
     go_quiet (fail)
     go_wp2_with fail
     go_roundw
     case rel=>exact ⟨k + 1,by omega,by go_num,below_drewN HE.out _,HA2.out⟩
     case measure=>simp [intOf]; omega
   ·obtain rfl:k=i:=by omega
    obtain ⟨HX,HE⟩:=Z2 (HMIS.out (by trivial) HA.out) hE
    clear HA hE;go_wp2_with fail
    go_ret
    exact ⟨by rw [HX.out]; rfl,HE.out⟩
set_option maxRecDepth 100000 in
theorem Qis (q:PtH) (t:Ty) (w:World) (vs:List Value) (h:PartAt w w.heap.size q t vs) (hs2:Qi q.cl) :
  Calls Tryz.prog 177 #[.agg vs.toArray] w (fun e w'=>e = .returned (fltV (Qai q))∧Ext w w'):=by
 obtain ⟨Al,cl,Ac,cc,vt,rfl,hl,hc,ht⟩:=h;obtain ⟨x0,x1,x2,x3,x4,x5,x6,x7,x8,rfl⟩:=ht.nine;have hlab:=fun w1 (hE:Ext w w1)=>Qga Ac cc q.cl.length q.cl w1 (hc.ext hE) rfl hs2
 have hx:Qai q=if q.ck=0 then (if q.cn=0∧q.cl.length=0 then (0,0) else (19,q.name.2)) else if q.ck < 0∨3 < q.ck then (14,q.cat) else
  if (q.ck=1∧q.cn < 1)∨(q.ck=2∧(q.cn < 0∨4096 < q.cn))∨(q.ck=3∧q.cn≠0) then (20,q.cat) else Qo q.cl:=rfl
 have hnil:q.cl.length=0→Qo q.cl=(0,0):=fun e=>by rw [List.eq_nil_of_length_eq_zero e]; rfl
 unfold ptV;simp only [List.cons_append,List.nil_append];obtain ⟨nm,hnm,a,ha,br,hbr,nl,hnl,wi,hwi,ck,hck⟩:=V6 (q.name.1) (q.name.2) (q.bare) (q.label.length) (q.wide) (q.ck);obtain ⟨cn,hcn,ca,hca,nc,hnc,L,hL,R,hR⟩:=V5 (q.cn) (q.cat) (q.cl.length) (Qo q.cl) (Qai q);rw [← hR] at hx ⊢;rw [← ha,← hck,← hcn,← hca,← hnc,← hL] at hx;rw [← hnc,← hL] at hnil;rw [← hnc,← hL] at hlab;rw [← hnm,← ha,← hbr,← hnl,← hwi,← hck,← hcn,← hca,← hnc];obtain ⟨L1,L2⟩:=L;have HL:=hide hlab;obtain ⟨w0,hw0⟩:=V1 ((w.alloc (.cells #[.string nm,.int .i64 a,.bool br,.slice Al nl cl,.int .i64 wi,.int .i64 ck,.int .i64 cn,.int .i64 ca,.slice Ac nc cc,x0,x1,x2,x3,x4,x5,x6,x7,x8] 131)).alloc (.cells #[.int .i64 0,.int .i64 0] 34));have hP:Blk w0 w.heap.size 131 #[.string nm,.int .i64 a,.bool br,.slice Al nl cl,.int .i64 wi,.int .i64 ck,.int .i64 cn,.int .i64 ca,.slice Ac nc cc,x0,x1,x2,x3,x4,x5,x6,x7,x8]:=by rw [hw0]; exact (Blk.new _ _ _).alloc _
 have hF:Blk w0 (w.heap.size + 1) 34 #[.int .i64 0,.int .i64 0]:=by
  rw [hw0]; have:=Blk.new (w.alloc (.cells #[.string nm,.int .i64 a,.bool br,.slice Al nl cl,.int .i64 wi,.int .i64 ck,.int .i64 cn,.int .i64 ca,.slice Ac nc cc,x0,x1,x2,x3,x4,x5,x6,x7,x8] 131)) 34 #[.int .i64 0,.int .i64 0]; simpa only [World.size_alloc] using this
 have hE0:Ext w w0:=by rw [hw0]; exact ((Ext.rfl' w).alloc nL _).alloc (by simp only [World.size_alloc]; omega) _
 obtain ⟨w1,hw1⟩:=V1 (w0.alloc (.cells #[.int .i64 ck,.int .i64 cn,.int .i64 ca,.slice Ac nc cc] 129));have hC:=bN hw1;have hP1:Blk w1 w.heap.size 131 #[.string nm,.int .i64 a,.bool br,.slice Al nl cl,.int .i64 wi,.int .i64 ck,.int .i64 cn,.int .i64 ca,.slice Ac nc cc,x0,x1,x2,x3,x4,x5,x6,x7,x8]:=by rw [hw1]; exact hP.alloc _
 have hF1:Blk w1 (w.heap.size + 1) 34 #[.int .i64 0,.int .i64 0]:=by rw [hw1]; exact hF.alloc _
 have hE1:Ext w w1:=by rw [hw1]; exact hE0.alloc hE0.size _
 have hlo:w.heap.size≤w.heap.size + 1:=Nat.le_succ _;obtain ⟨gf,hgf,gc,hgc,gp,hgp⟩:=V3 (w.heap.size + 1) (w0.heap.size) (w.heap.size);rw [← hgf] at hF hF1 hlo;rw [← hgc] at hC;rw [← hgp] at hP hP1;obtain ⟨-,-,-,-,-,q5,q6,q7,q8⟩:=X9 hP;obtain ⟨-,p1⟩:=X2 hP1;obtain ⟨c0,c1,c2,c3⟩:=X4 hC;obtain ⟨b0,b1⟩:=X2 hF1;obtain ⟨f0,f1⟩:=Y2 hF1;obtain ⟨HF,HE,HLO,HX,HNIL,HW0,HW1,HGF⟩:=Z8 hF1 hE1 hlo hx hnil hw0 hw1 hgf;obtain ⟨HGC,HGP⟩:=Z2 hgc hgp;clear hP hF hC hP1 hF1 hE0 hE1 hlo hx hnil hw0 hw1 hgf hgc hgp hR hL hnc hca hcn hck hwi hnl hbr ha hnm hlab hl hc ht hs2;go_enter Tryz.func177,Tryz.ntmps177
 go_upto_region 1 with fail
 rw [← HW0.out,← HGF.out,← HGP.out];go_upto_region 2 with fail
 rw [← HW1.out,← HGC.out];clear q5 q6 q7 q8;by_cases k0:ck=0
 ·by_cases d:cn=0
  ·by_cases d2:nc=0
   ·have hz:=HNIL.out d2;have HR:=hide (show R=(0,0) by rw [HX.out]; rw [if_pos (show ck=0 by omega)]; rw [if_pos (show (cn=0∧nc=0) by omega)])
    subst k0; subst d; subst d2;have HZ:=hide hz;clear hz;go_wp2_with fail
    refine (HL.out _ HE.out).mono ?_;rintro e w5 ⟨rfl,hE5⟩;obtain ⟨HF5,HE5⟩:=Z2 (HF.out.ext hE5) (HE.out.trans' hE5);obtain ⟨b0,b1⟩:=X2 HF5.out;obtain ⟨f0,f1⟩:=Y2 HF5.out;unfold fltV;clear hE5;go_wp2_with fail
    exact Qa (f:=(L1,L2)) (g:=gf) ((HF5.out.set_ 0 _).set_ 1 _) rfl rfl rfl ⟨by rw [HR.out,← HZ.out],ext_two' HE5.out HLO.out _ _⟩
   ·have HR:=hide (show R=(19,a) by rw [HX.out]; rw [if_pos (show ck=0 by omega)]; rw [if_neg (show ¬ (cn=0∧nc=0) by omega)])
    have i0:(0:Int) < (nc:Int):=by omega
    have i1:((nc:Int) == 0)=false:=by simp; omega
    subst k0; subst d;go_wp2_with fail
    refine (Qn 19 a _).mono ?_;rintro e w5 ⟨rfl,hE5⟩;obtain ⟨HF5,HE5⟩:=Z2 (HF.out.ext hE5) (HE.out.trans' hE5);obtain ⟨b0,b1⟩:=X2 HF5.out;obtain ⟨f0,f1⟩:=Y2 HF5.out;unfold fltV;clear hE5;go_wp2_with fail
    exact Qa (f:=(19,a)) (g:=gf) ((HF5.out.set_ 0 _).set_ 1 _) rfl rfl rfl ⟨by rw [HR.out],ext_two' HE5.out HLO.out _ _⟩
  ·have HR:=hide (show R=(19,a) by rw [HX.out]; rw [if_pos (show ck=0 by omega)]; rw [if_neg (show ¬ (cn=0∧nc=0) by omega)])
   have i0:(cn == 0)=false:=by simpa using d
   subst k0;go_wp2_with fail
   refine (Qn 19 a _).mono ?_;rintro e w5 ⟨rfl,hE5⟩;obtain ⟨HF5,HE5⟩:=Z2 (HF.out.ext hE5) (HE.out.trans' hE5);obtain ⟨b0,b1⟩:=X2 HF5.out;obtain ⟨f0,f1⟩:=Y2 HF5.out;unfold fltV;clear hE5;go_wp2_with fail
   exact Qa (f:=(19,a)) (g:=gf) ((HF5.out.set_ 0 _).set_ 1 _) rfl rfl rfl ⟨by rw [HR.out],ext_two' HE5.out HLO.out _ _⟩
 by_cases k1:ck=1
 ·by_cases d:cn < 1
  ·have HR:=hide (show R=(20,ca) by rw [HX.out]; rw [if_neg (show ¬ ck=0 by omega)]; rw [if_neg (show ¬ (ck < 0∨3 < ck) by omega)]; rw [if_pos (show ((ck=1∧cn < 1)∨(ck=2∧(cn < 0∨4096 < cn))∨(ck=3∧cn≠0)) by omega)])
   have i0:¬ 0 < cn:=by omega
   subst k1;go_wp2_with fail
   refine (Qn 20 ca _).mono ?_;rintro e w5 ⟨rfl,hE5⟩;obtain ⟨HF5,HE5⟩:=Z2 (HF.out.ext hE5) (HE.out.trans' hE5);obtain ⟨b0,b1⟩:=X2 HF5.out;obtain ⟨f0,f1⟩:=Y2 HF5.out;unfold fltV;clear hE5;go_wp2_with fail
   exact Qa (f:=(20,ca)) (g:=gf) ((HF5.out.set_ 0 _).set_ 1 _) rfl rfl rfl ⟨by rw [HR.out],ext_two' HE5.out HLO.out _ _⟩
  ·have HR:=hide (show R=(L1,L2) by rw [HX.out]; rw [if_neg (show ¬ ck=0 by omega)]; rw [if_neg (show ¬ (ck < 0∨3 < ck) by omega)]; rw [if_neg (show ¬ ((ck=1∧cn < 1)∨(ck=2∧(cn < 0∨4096 < cn))∨(ck=3∧cn≠0)) by omega)])
   have i0:0 < cn:=by omega
   subst k1;go_wp2_with fail
   refine (HL.out _ HE.out).mono ?_;rintro e w5 ⟨rfl,hE5⟩;obtain ⟨HF5,HE5⟩:=Z2 (HF.out.ext hE5) (HE.out.trans' hE5);obtain ⟨b0,b1⟩:=X2 HF5.out;obtain ⟨f0,f1⟩:=Y2 HF5.out;unfold fltV;clear hE5;go_wp2_with fail
   exact Qa (f:=(L1,L2)) (g:=gf) ((HF5.out.set_ 0 _).set_ 1 _) rfl rfl rfl ⟨by rw [HR.out],ext_two' HE5.out HLO.out _ _⟩
 by_cases k2:ck=2
 ·by_cases d:cn < 0
  ·have HR:=hide (show R=(20,ca) by rw [HX.out]; rw [if_neg (show ¬ ck=0 by omega)]; rw [if_neg (show ¬ (ck < 0∨3 < ck) by omega)]; rw [if_pos (show ((ck=1∧cn < 1)∨(ck=2∧(cn < 0∨4096 < cn))∨(ck=3∧cn≠0)) by omega)])
   have i0:¬ 0≤cn:=by omega
   subst k2;go_wp2_with fail
   refine (Qn 20 ca _).mono ?_;rintro e w5 ⟨rfl,hE5⟩;obtain ⟨HF5,HE5⟩:=Z2 (HF.out.ext hE5) (HE.out.trans' hE5);obtain ⟨b0,b1⟩:=X2 HF5.out;obtain ⟨f0,f1⟩:=Y2 HF5.out;unfold fltV;clear hE5;go_wp2_with fail
   exact Qa (f:=(20,ca)) (g:=gf) ((HF5.out.set_ 0 _).set_ 1 _) rfl rfl rfl ⟨by rw [HR.out],ext_two' HE5.out HLO.out _ _⟩
  by_cases d2:4096 < cn
  ·have HR:=hide (show R=(20,ca) by rw [HX.out]; rw [if_neg (show ¬ ck=0 by omega)]; rw [if_neg (show ¬ (ck < 0∨3 < ck) by omega)]; rw [if_pos (show ((ck=1∧cn < 1)∨(ck=2∧(cn < 0∨4096 < cn))∨(ck=3∧cn≠0)) by omega)])
   have i0:0≤cn:=by omega
   have i1:¬ cn≤4096:=by omega
   subst k2;go_wp2_with fail
   refine (Qn 20 ca _).mono ?_;rintro e w5 ⟨rfl,hE5⟩;obtain ⟨HF5,HE5⟩:=Z2 (HF.out.ext hE5) (HE.out.trans' hE5);obtain ⟨b0,b1⟩:=X2 HF5.out;obtain ⟨f0,f1⟩:=Y2 HF5.out;unfold fltV;clear hE5;go_wp2_with fail
   exact Qa (f:=(20,ca)) (g:=gf) ((HF5.out.set_ 0 _).set_ 1 _) rfl rfl rfl ⟨by rw [HR.out],ext_two' HE5.out HLO.out _ _⟩
  ·have HR:=hide (show R=(L1,L2) by rw [HX.out]; rw [if_neg (show ¬ ck=0 by omega)]; rw [if_neg (show ¬ (ck < 0∨3 < ck) by omega)]; rw [if_neg (show ¬ ((ck=1∧cn < 1)∨(ck=2∧(cn < 0∨4096 < cn))∨(ck=3∧cn≠0)) by omega)])
   have i0:0≤cn:=by omega
   have i1:cn≤4096:=by omega
   subst k2;go_wp2_with fail
   refine (HL.out _ HE.out).mono ?_;rintro e w5 ⟨rfl,hE5⟩;obtain ⟨HF5,HE5⟩:=Z2 (HF.out.ext hE5) (HE.out.trans' hE5);obtain ⟨b0,b1⟩:=X2 HF5.out;obtain ⟨f0,f1⟩:=Y2 HF5.out;unfold fltV;clear hE5;go_wp2_with fail
   exact Qa (f:=(L1,L2)) (g:=gf) ((HF5.out.set_ 0 _).set_ 1 _) rfl rfl rfl ⟨by rw [HR.out],ext_two' HE5.out HLO.out _ _⟩
 by_cases k3:ck=3
 ·by_cases d:cn=0
  ·have HR:=hide (show R=(L1,L2) by rw [HX.out]; rw [if_neg (show ¬ ck=0 by omega)]; rw [if_neg (show ¬ (ck < 0∨3 < ck) by omega)]; rw [if_neg (show ¬ ((ck=1∧cn < 1)∨(ck=2∧(cn < 0∨4096 < cn))∨(ck=3∧cn≠0)) by omega)])
   subst k3; subst d;go_wp2_with fail
   refine (HL.out _ HE.out).mono ?_;rintro e w5 ⟨rfl,hE5⟩;obtain ⟨HF5,HE5⟩:=Z2 (HF.out.ext hE5) (HE.out.trans' hE5);obtain ⟨b0,b1⟩:=X2 HF5.out;obtain ⟨f0,f1⟩:=Y2 HF5.out;unfold fltV;clear hE5;go_wp2_with fail
   exact Qa (f:=(L1,L2)) (g:=gf) ((HF5.out.set_ 0 _).set_ 1 _) rfl rfl rfl ⟨by rw [HR.out],ext_two' HE5.out HLO.out _ _⟩
  ·have HR:=hide (show R=(20,ca) by rw [HX.out]; rw [if_neg (show ¬ ck=0 by omega)]; rw [if_neg (show ¬ (ck < 0∨3 < ck) by omega)]; rw [if_pos (show ((ck=1∧cn < 1)∨(ck=2∧(cn < 0∨4096 < cn))∨(ck=3∧cn≠0)) by omega)])
   have i0:(cn == 0)=false:=by simpa using d
   subst k3;go_wp2_with fail
   refine (Qn 20 ca _).mono ?_;rintro e w5 ⟨rfl,hE5⟩;obtain ⟨HF5,HE5⟩:=Z2 (HF.out.ext hE5) (HE.out.trans' hE5);obtain ⟨b0,b1⟩:=X2 HF5.out;obtain ⟨f0,f1⟩:=Y2 HF5.out;unfold fltV;clear hE5;go_wp2_with fail
   exact Qa (f:=(20,ca)) (g:=gf) ((HF5.out.set_ 0 _).set_ 1 _) rfl rfl rfl ⟨by rw [HR.out],ext_two' HE5.out HLO.out _ _⟩
 have HR:=hide (show R=(14,ca) by rw [HX.out]; rw [if_neg k0]; rw [if_pos (show (ck < 0∨3 < ck) by omega)])
 have j0:(ck == 0)=false:=by simpa using k0
 have j1:(ck == 1)=false:=by simpa using k1
 have j2:(ck == 2)=false:=by simpa using k2
 have j3:(ck == 3)=false:=by simpa using k3
 by_cases d:ck < 0
 ·go_wp2_with fail
  refine (Qn 14 ca _).mono ?_;rintro e w5 ⟨rfl,hE5⟩;obtain ⟨HF5,HE5⟩:=Z2 (HF.out.ext hE5) (HE.out.trans' hE5);obtain ⟨b0,b1⟩:=X2 HF5.out;obtain ⟨f0,f1⟩:=Y2 HF5.out;unfold fltV;clear hE5;go_wp2_with fail
  exact Qa (f:=(14,ca)) (g:=gf) ((HF5.out.set_ 0 _).set_ 1 _) rfl rfl rfl ⟨by rw [HR.out],ext_two' HE5.out HLO.out _ _⟩
 ·have i1:3 < ck:=by omega
  go_wp2_with fail
  refine (Qn 14 ca _).mono ?_;rintro e w5 ⟨rfl,hE5⟩;obtain ⟨HF5,HE5⟩:=Z2 (HF.out.ext hE5) (HE.out.trans' hE5);obtain ⟨b0,b1⟩:=X2 HF5.out;obtain ⟨f0,f1⟩:=Y2 HF5.out;unfold fltV;clear hE5;go_wp2_with fail
  exact Qa (f:=(14,ca)) (g:=gf) ((HF5.out.set_ 0 _).set_ 1 _) rfl rfl rfl ⟨by rw [HR.out],ext_two' HE5.out HLO.out _ _⟩
set_option maxRecDepth 100000 in
theorem Qfw (q:PtH) (t:Ty) (w:World) (vs:List Value) (h:PartAt w w.heap.size q t vs) (hs2:Qi q.cl) :
  Calls Tryz.prog 120 #[.agg vs.toArray] w (fun e w'=>e = .returned (fltV (Qai q))∧Ext w w'):=by
 obtain ⟨Al,cl,Ac,cc,vt,rfl,hl,hc,ht⟩:=h;obtain ⟨x0,x1,x2,x3,x4,x5,x6,x7,x8,rfl⟩:=ht.nine;have hlab:=fun w1 (hE:Ext w w1)=>Qcj Ac cc q.cl.length q.cl w1 (hc.ext hE) rfl hs2
 have hx:Qai q=if q.ck=0 then (if q.cn=0∧q.cl.length=0 then (0,0) else (19,q.name.2)) else if q.ck < 0∨3 < q.ck then (14,q.cat) else
  if (q.ck=1∧q.cn < 1)∨(q.ck=2∧(q.cn < 0∨4096 < q.cn))∨(q.ck=3∧q.cn≠0) then (20,q.cat) else Qo q.cl:=rfl
 have hnil:q.cl.length=0→Qo q.cl=(0,0):=fun e=>by rw [List.eq_nil_of_length_eq_zero e]; rfl
 unfold ptV;simp only [List.cons_append,List.nil_append];obtain ⟨nm,hnm,a,ha,br,hbr,nl,hnl,wi,hwi,ck,hck⟩:=V6 (q.name.1) (q.name.2) (q.bare) (q.label.length) (q.wide) (q.ck);obtain ⟨cn,hcn,ca,hca,nc,hnc,L,hL,R,hR⟩:=V5 (q.cn) (q.cat) (q.cl.length) (Qo q.cl) (Qai q);rw [← hR] at hx ⊢;rw [← ha,← hck,← hcn,← hca,← hnc,← hL] at hx;rw [← hnc,← hL] at hnil;rw [← hnc,← hL] at hlab;rw [← hnm,← ha,← hbr,← hnl,← hwi,← hck,← hcn,← hca,← hnc];obtain ⟨L1,L2⟩:=L;have HL:=hide hlab;obtain ⟨w0,hw0⟩:=V1 ((w.alloc (.cells #[.string nm,.int .i64 a,.bool br,.slice Al nl cl,.int .i64 wi,.int .i64 ck,.int .i64 cn,.int .i64 ca,.slice Ac nc cc,x0,x1,x2,x3,x4,x5,x6,x7,x8] 131)).alloc (.cells #[.int .i64 0,.int .i64 0] 34));have hP:Blk w0 w.heap.size 131 #[.string nm,.int .i64 a,.bool br,.slice Al nl cl,.int .i64 wi,.int .i64 ck,.int .i64 cn,.int .i64 ca,.slice Ac nc cc,x0,x1,x2,x3,x4,x5,x6,x7,x8]:=by rw [hw0]; exact (Blk.new _ _ _).alloc _
 have hF:Blk w0 (w.heap.size + 1) 34 #[.int .i64 0,.int .i64 0]:=by
  rw [hw0]; have:=Blk.new (w.alloc (.cells #[.string nm,.int .i64 a,.bool br,.slice Al nl cl,.int .i64 wi,.int .i64 ck,.int .i64 cn,.int .i64 ca,.slice Ac nc cc,x0,x1,x2,x3,x4,x5,x6,x7,x8] 131)) 34 #[.int .i64 0,.int .i64 0]; simpa only [World.size_alloc] using this
 have hE0:Ext w w0:=by rw [hw0]; exact ((Ext.rfl' w).alloc nL _).alloc (by simp only [World.size_alloc]; omega) _
 obtain ⟨w1,hw1⟩:=V1 (w0.alloc (.cells #[.int .i64 ck,.int .i64 cn,.int .i64 ca,.slice Ac nc cc] 129));have hC:=bN hw1;have hP1:Blk w1 w.heap.size 131 #[.string nm,.int .i64 a,.bool br,.slice Al nl cl,.int .i64 wi,.int .i64 ck,.int .i64 cn,.int .i64 ca,.slice Ac nc cc,x0,x1,x2,x3,x4,x5,x6,x7,x8]:=by rw [hw1]; exact hP.alloc _
 have hF1:Blk w1 (w.heap.size + 1) 34 #[.int .i64 0,.int .i64 0]:=by rw [hw1]; exact hF.alloc _
 have hE1:Ext w w1:=by rw [hw1]; exact hE0.alloc hE0.size _
 have hlo:w.heap.size≤w.heap.size + 1:=Nat.le_succ _;obtain ⟨gf,hgf,gc,hgc,gp,hgp⟩:=V3 (w.heap.size + 1) (w0.heap.size) (w.heap.size);rw [← hgf] at hF hF1 hlo;rw [← hgc] at hC;rw [← hgp] at hP hP1;obtain ⟨-,-,-,-,-,q5,q6,q7,q8⟩:=X9 hP;obtain ⟨-,p1⟩:=X2 hP1;obtain ⟨c0,c1,c2,c3⟩:=X4 hC;obtain ⟨b0,b1⟩:=X2 hF1;obtain ⟨f0,f1⟩:=Y2 hF1;obtain ⟨HF,HE,HLO,HX,HNIL,HW0,HW1,HGF⟩:=Z8 hF1 hE1 hlo hx hnil hw0 hw1 hgf;obtain ⟨HGC,HGP⟩:=Z2 hgc hgp;clear hP hF hC hP1 hF1 hE0 hE1 hlo hx hnil hw0 hw1 hgf hgc hgp hR hL hnc hca hcn hck hwi hnl hbr ha hnm hlab hl hc ht hs2;go_enter Tryz.func120,Tryz.ntmps120
 go_upto_region 1 with fail
 rw [← HW0.out,← HGF.out,← HGP.out];go_upto_region 2 with fail
 rw [← HW1.out,← HGC.out];clear q5 q6 q7 q8;by_cases k0:ck=0
 ·by_cases d:cn=0
  ·by_cases d2:nc=0
   ·have hz:=HNIL.out d2;have HR:=hide (show R=(0,0) by rw [HX.out]; rw [if_pos (show ck=0 by omega)]; rw [if_pos (show (cn=0∧nc=0) by omega)])
    subst k0; subst d; subst d2;clear hz;go_wp2_with fail
    exact Qa (f:=(0,0)) (g:=gf) ((HF.out.set_ 0 _).set_ 1 _) rfl rfl rfl ⟨by rw [HR.out],ext_two' HE.out HLO.out _ _⟩
   ·have HR:=hide (show R=(19,a) by rw [HX.out]; rw [if_pos (show ck=0 by omega)]; rw [if_neg (show ¬ (cn=0∧nc=0) by omega)])
    have i0:(0:Int) < (nc:Int):=by omega
    have i1:((nc:Int) == 0)=false:=by simp; omega
    subst k0; subst d;go_wp2_with fail
    exact Qa (f:=(19,a)) (g:=gf) ((HF.out.set_ 0 _).set_ 1 _) rfl rfl rfl ⟨by rw [HR.out],ext_two' HE.out HLO.out _ _⟩
  ·have HR:=hide (show R=(19,a) by rw [HX.out]; rw [if_pos (show ck=0 by omega)]; rw [if_neg (show ¬ (cn=0∧nc=0) by omega)])
   have i0:(cn == 0)=false:=by simpa using d
   subst k0;go_wp2_with fail
   exact Qa (f:=(19,a)) (g:=gf) ((HF.out.set_ 0 _).set_ 1 _) rfl rfl rfl ⟨by rw [HR.out],ext_two' HE.out HLO.out _ _⟩
 by_cases k1:ck=1
 ·by_cases d:cn < 1
  ·have HR:=hide (show R=(20,ca) by rw [HX.out]; rw [if_neg (show ¬ ck=0 by omega)]; rw [if_neg (show ¬ (ck < 0∨3 < ck) by omega)]; rw [if_pos (show ((ck=1∧cn < 1)∨(ck=2∧(cn < 0∨4096 < cn))∨(ck=3∧cn≠0)) by omega)])
   have i0:¬ 0 < cn:=by omega
   subst k1;go_wp2_with fail
   exact Qa (f:=(20,ca)) (g:=gf) ((HF.out.set_ 0 _).set_ 1 _) rfl rfl rfl ⟨by rw [HR.out],ext_two' HE.out HLO.out _ _⟩
  ·have HR:=hide (show R=(L1,L2) by rw [HX.out]; rw [if_neg (show ¬ ck=0 by omega)]; rw [if_neg (show ¬ (ck < 0∨3 < ck) by omega)]; rw [if_neg (show ¬ ((ck=1∧cn < 1)∨(ck=2∧(cn < 0∨4096 < cn))∨(ck=3∧cn≠0)) by omega)])
   have i0:0 < cn:=by omega
   subst k1;go_wp2_with fail
   refine (HL.out _ HE.out).mono ?_;rintro e w5 ⟨rfl,hE5⟩;obtain ⟨HF5,HE5⟩:=Z2 (HF.out.ext hE5) (HE.out.trans' hE5);obtain ⟨b0,b1⟩:=X2 HF5.out;obtain ⟨f0,f1⟩:=Y2 HF5.out;unfold fltV;clear hE5;go_wp2_with fail
   exact Qa (f:=(L1,L2)) (g:=gf) ((HF5.out.set_ 0 _).set_ 1 _) rfl rfl rfl ⟨by rw [HR.out],ext_two' HE5.out HLO.out _ _⟩
 by_cases k2:ck=2
 ·by_cases d:cn < 0
  ·have HR:=hide (show R=(20,ca) by rw [HX.out]; rw [if_neg (show ¬ ck=0 by omega)]; rw [if_neg (show ¬ (ck < 0∨3 < ck) by omega)]; rw [if_pos (show ((ck=1∧cn < 1)∨(ck=2∧(cn < 0∨4096 < cn))∨(ck=3∧cn≠0)) by omega)])
   have i0:¬ 0≤cn:=by omega
   subst k2;go_wp2_with fail
   exact Qa (f:=(20,ca)) (g:=gf) ((HF.out.set_ 0 _).set_ 1 _) rfl rfl rfl ⟨by rw [HR.out],ext_two' HE.out HLO.out _ _⟩
  by_cases d2:4096 < cn
  ·have HR:=hide (show R=(20,ca) by rw [HX.out]; rw [if_neg (show ¬ ck=0 by omega)]; rw [if_neg (show ¬ (ck < 0∨3 < ck) by omega)]; rw [if_pos (show ((ck=1∧cn < 1)∨(ck=2∧(cn < 0∨4096 < cn))∨(ck=3∧cn≠0)) by omega)])
   have i0:0≤cn:=by omega
   have i1:¬ cn≤4096:=by omega
   subst k2;go_wp2_with fail
   exact Qa (f:=(20,ca)) (g:=gf) ((HF.out.set_ 0 _).set_ 1 _) rfl rfl rfl ⟨by rw [HR.out],ext_two' HE.out HLO.out _ _⟩
  ·have HR:=hide (show R=(L1,L2) by rw [HX.out]; rw [if_neg (show ¬ ck=0 by omega)]; rw [if_neg (show ¬ (ck < 0∨3 < ck) by omega)]; rw [if_neg (show ¬ ((ck=1∧cn < 1)∨(ck=2∧(cn < 0∨4096 < cn))∨(ck=3∧cn≠0)) by omega)])
   have i0:0≤cn:=by omega
   have i1:cn≤4096:=by omega
   subst k2;go_wp2_with fail
   refine (HL.out _ HE.out).mono ?_;rintro e w5 ⟨rfl,hE5⟩;obtain ⟨HF5,HE5⟩:=Z2 (HF.out.ext hE5) (HE.out.trans' hE5);obtain ⟨b0,b1⟩:=X2 HF5.out;obtain ⟨f0,f1⟩:=Y2 HF5.out;unfold fltV;clear hE5;go_wp2_with fail
   exact Qa (f:=(L1,L2)) (g:=gf) ((HF5.out.set_ 0 _).set_ 1 _) rfl rfl rfl ⟨by rw [HR.out],ext_two' HE5.out HLO.out _ _⟩
 by_cases k3:ck=3
 ·by_cases d:cn=0
  ·have HR:=hide (show R=(L1,L2) by rw [HX.out]; rw [if_neg (show ¬ ck=0 by omega)]; rw [if_neg (show ¬ (ck < 0∨3 < ck) by omega)]; rw [if_neg (show ¬ ((ck=1∧cn < 1)∨(ck=2∧(cn < 0∨4096 < cn))∨(ck=3∧cn≠0)) by omega)])
   subst k3; subst d;go_wp2_with fail
   refine (HL.out _ HE.out).mono ?_;rintro e w5 ⟨rfl,hE5⟩;obtain ⟨HF5,HE5⟩:=Z2 (HF.out.ext hE5) (HE.out.trans' hE5);obtain ⟨b0,b1⟩:=X2 HF5.out;obtain ⟨f0,f1⟩:=Y2 HF5.out;unfold fltV;clear hE5;go_wp2_with fail
   exact Qa (f:=(L1,L2)) (g:=gf) ((HF5.out.set_ 0 _).set_ 1 _) rfl rfl rfl ⟨by rw [HR.out],ext_two' HE5.out HLO.out _ _⟩
  ·have HR:=hide (show R=(20,ca) by rw [HX.out]; rw [if_neg (show ¬ ck=0 by omega)]; rw [if_neg (show ¬ (ck < 0∨3 < ck) by omega)]; rw [if_pos (show ((ck=1∧cn < 1)∨(ck=2∧(cn < 0∨4096 < cn))∨(ck=3∧cn≠0)) by omega)])
   have i0:(cn == 0)=false:=by simpa using d
   subst k3;go_wp2_with fail
   exact Qa (f:=(20,ca)) (g:=gf) ((HF.out.set_ 0 _).set_ 1 _) rfl rfl rfl ⟨by rw [HR.out],ext_two' HE.out HLO.out _ _⟩
 have HR:=hide (show R=(14,ca) by rw [HX.out]; rw [if_neg k0]; rw [if_pos (show (ck < 0∨3 < ck) by omega)])
 have j0:(ck == 0)=false:=by simpa using k0
 have j1:(ck == 1)=false:=by simpa using k1
 have j2:(ck == 2)=false:=by simpa using k2
 have j3:(ck == 3)=false:=by simpa using k3
 by_cases d:ck < 0
 ·go_wp2_with fail
  exact Qa (f:=(14,ca)) (g:=gf) ((HF.out.set_ 0 _).set_ 1 _) rfl rfl rfl ⟨by rw [HR.out],ext_two' HE.out HLO.out _ _⟩
 ·have i1:3 < ck:=by omega
  go_wp2_with fail
  exact Qa (f:=(14,ca)) (g:=gf) ((HF.out.set_ 0 _).set_ 1 _) rfl rfl rfl ⟨by rw [HR.out],ext_two' HE.out HLO.out _ _⟩
end Go.Proofs.YtanpljalbijfkaaGreat
