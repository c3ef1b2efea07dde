/- . -/
import Derived.Test.YtanpljalbijfkaaGreatQ14
import Derived.Test.YtanpljalbijfkaaGreatQ15
import Derived.Test.YtanpljalbijfkaaGreatQ19
import Derived.Test.YtanpljalbijfkaaGreatQ20
namespace Go.Proofs.YtanpljalbijfkaaGreat
open Go.RowKit
set_option maxHeartbeats 16000000
def headR' (kd a lo hi mo s1 d m1:Int) (OB RB:Bool) (EN:Flt) (SUB:Wr):Wr :=
 if 24 < d then ((6,a),m1) else if 512 < m1 then ((8,a),m1) else if kd < 1∨9 < kd then ((14,a),m1) else if OB=false then ((19,a),m1) else
 if kd=2 then (if hi < lo then ((20,a),m1) else ((0,0),m1)) else if kd=3 then (if mo < 0∨4096 < mo then ((20,a),m1) else ((0,0),m1)) else
 if kd=4 then (EN,m1) else if kd=5∨kd=6∨kd=7∨kd=8 then SUB else if kd=9 then (if RB=true then ((0,0),m1) else ((9,s1),m1)) else ((0,0),m1)
def WrgC (t:Ty) (d:Int):Prop:=∀ (m:Int) (w:World) (vs:List Value),TyAt w w.heap.size t vs →
 Calls Tryz.prog 57 #[.agg #[.int .i64 0,.int .i64 0,.int .i64 m],.agg vs.toArray,.int .i64 d] w (fun e w'=>e = .returned (wrV (chk t d m))∧Ext w w')
theorem Qn3 {nm:ByteArray} (h:¬ nm=⟨#[]⟩):¬ nm.toList = []:=fun hh=>by
 have e:=Q8 nm ⟨#[]⟩;rw [hh,show (⟨#[]⟩:ByteArray).toList = [] by first | rfl | decide | simp,decide_eq_false h] at e
 cases e
set_option maxRecDepth 100000 in
theorem Qqy (kd a lo hi mo s1 d m m1:Int) (s0:ByteArray) (nn cn n cp:Nat) (An Ap:Option Addr) (w:World) (OB RB:Bool) (EN:Flt) (SUB:Wr) (l:List Wd) (p:Nat→PtH) (t:Nat→Ty) (hm1:m1=IntKind.i64.wrap (m + 1))
  (hl:WdsAt w w.heap.size An l) (hnn:nn=l.length) (hlz:Qi l) (hEN:EN=Qao a l)
  (hP:PartsAt w w.heap.size Ap n p t) (hsz:∀ i,i < n→Qi (p i).label∧Qi (p i).cl)
  (hone:kd=5∨kd=6→SUB=if n=1∧Q3 (p 0) (zPt wd0 false)=true then (if mo < 0∨1024 < mo then ((20,a),m1) else chk (t 0) (IntKind.i64.wrap (d + 1)) m1) else ((19,a),m1)) (hsub:0 < n→WrgC (t 0) (IntKind.i64.wrap (d + 1)))
  (hown:∀ w1,Ext w w1→Calls Tryz.prog 92 #[.agg #[.int .i64 kd,.int .i64 a,.int .i64 lo,.int .i64 hi,.int .i64 mo,.slice An nn cn,.slice Ap n cp,.string s0,.int .i64 s1]] w1 (fun e w'=>e = .returned (.bool OB)∧Ext w1 w'))
  (hparts:kd=7∨kd=8→∀ w1,Ext w w1→Calls Tryz.prog 95 #[.agg #[.int .i64 0,.int .i64 0,.int .i64 m1],.agg #[.int .i64 kd,.int .i64 a,.int .i64 lo,.int .i64 hi,.int .i64 mo,.slice An nn cn,.slice Ap n cp,.string s0,.int .i64 s1],.int .i64 d] w1 (fun e w'=>e = .returned (wrV SUB)∧Ext w1 w'))
  (hright:∀ w1:World,Calls Tryz.prog 86 #[.string s0] w1 (fun e w'=>e = .returned (.bool RB)∧w1=w')) :
  Calls Tryz.prog 57 #[.agg #[.int .i64 0,.int .i64 0,.int .i64 m],.agg #[.int .i64 kd,.int .i64 a,.int .i64 lo,.int .i64 hi,.int .i64 mo,.slice An nn cn,.slice Ap n cp,.string s0,.int .i64 s1],.int .i64 d] w (fun e w'=>e = .returned (wrV (headR' kd a lo hi mo s1 d m1 OB RB EN SUB))∧Ext w w'):=by
 have e1:=IntWalk.i64_left (d + 1);rw [e1] at hone hsub;clear e1;have hx:headR' kd a lo hi mo s1 d m1 OB RB EN SUB=if 24 < d then ((6,a),m1) else if 512 < m1 then ((8,a),m1) else if kd < 1∨9 < kd then ((14,a),m1) else if OB=false then ((19,a),m1) else
  if kd=2 then (if hi < lo then ((20,a),m1) else ((0,0),m1)) else if kd=3 then (if mo < 0∨4096 < mo then ((20,a),m1) else ((0,0),m1)) else
  if kd=4 then (EN,m1) else if kd=5∨kd=6∨kd=7∨kd=8 then SUB else if kd=9 then (if RB=true then ((0,0),m1) else ((9,s1),m1)) else ((0,0),m1):=rfl
 generalize headR' kd a lo hi mo s1 d m1 OB RB EN SUB=R at hx ⊢
 obtain ⟨w0,hw0⟩:=V1 (((w.alloc (.cells #[.int .i64 0,.int .i64 0,.int .i64 m] 124)).alloc (.cells #[.int .i64 kd,.int .i64 a,.int .i64 lo,.int .i64 hi,.int .i64 mo,.slice An nn cn,.slice Ap n cp,.string s0,.int .i64 s1] 29)).alloc (.cells #[.int .i64 0,.int .i64 0,.int .i64 0] 124));have hV:Blk w0 w.heap.size 124 #[.int .i64 0,.int .i64 0,.int .i64 m]:=by rw [hw0]; exact ((Blk.new _ _ _).alloc _).alloc _
 have hT:Blk w0 (w.heap.size + 1) 29 #[.int .i64 kd,.int .i64 a,.int .i64 lo,.int .i64 hi,.int .i64 mo,.slice An nn cn,.slice Ap n cp,.string s0,.int .i64 s1]:=by
  rw [hw0]; have:=Blk.new (w.alloc (.cells #[.int .i64 0,.int .i64 0,.int .i64 m] 124)) 29 #[.int .i64 kd,.int .i64 a,.int .i64 lo,.int .i64 hi,.int .i64 mo,.slice An nn cn,.slice Ap n cp,.string s0,.int .i64 s1]; exact Blk.alloc (by simpa only [World.size_alloc] using this) _
 have hF:Blk w0 (w.heap.size + 2) 124 #[.int .i64 0,.int .i64 0,.int .i64 0]:=by
  rw [hw0]; have:=Blk.new ((w.alloc (.cells #[.int .i64 0,.int .i64 0,.int .i64 m] 124)).alloc (.cells #[.int .i64 kd,.int .i64 a,.int .i64 lo,.int .i64 hi,.int .i64 mo,.slice An nn cn,.slice Ap n cp,.string s0,.int .i64 s1] 29)) 124 #[.int .i64 0,.int .i64 0,.int .i64 0]; simpa only [World.size_alloc] using this
 have hE:Ext w w0:=by rw [hw0]; exact (((Ext.rfl' w).alloc nL _).alloc (by simp only [World.size_alloc]; omega) _).alloc (by simp only [World.size_alloc]; omega) _
 obtain ⟨w1,hw1⟩:=V1 (w0.setCell ⟨w.heap.size,2,none⟩ (.int .i64 m1));have n1:w.heap.size + 1≠w.heap.size:=by omega
 have n2:w.heap.size + 2≠w.heap.size:=by omega
 have hT1:Blk w1 (w.heap.size + 1) 29 #[.int .i64 kd,.int .i64 a,.int .i64 lo,.int .i64 hi,.int .i64 mo,.slice An nn cn,.slice Ap n cp,.string s0,.int .i64 s1]:=by rw [hw1]; exact hT.far n1 _
 have hF1:Blk w1 (w.heap.size + 2) 124 #[.int .i64 0,.int .i64 0,.int .i64 0]:=by rw [hw1]; exact hF.far n2 _
 have hV1:Blk w1 w.heap.size 124 #[.int .i64 0,.int .i64 0,.int .i64 m1]:=by rw [hw1]; exact hV.set_ 2 _
 have hE1:Ext w w1:=by rw [hw1]; exact hE.setCell nL _
 have hlo:w.heap.size≤w.heap.size + 2:=by omega
 obtain ⟨gf,hgf,gt,hgt,gw,hgw⟩:=V3 (w.heap.size + 2) (w.heap.size + 1) (w.heap.size);rw [← hgf] at hF1 hlo;rw [← hgt] at hT1;rw [← hgw] at hV1 hV hw1;obtain ⟨HX,HW,HW1,HGF,HGT,HGW,HF1,HE1⟩:=Z8 hx hw0 hw1 hgf hgt hgw hF1 hE1;obtain ⟨HV1,HT1,HLO⟩:=Z3 hV1 hT1 hlo;have HM:=hide (show m1=wrap64 (m + 1) by rw [hm1]; exact IntWalk.i64_left _)
 obtain ⟨HOWN,HONE,HPARTS,HRIGHT,HL,HNN,HLZ,HEN⟩:=Z8 hown hone hparts hright hl hnn hlz hEN;obtain ⟨HP,HSZ,HSUB⟩:=Z3 hP hsz hsub;obtain ⟨-,-,c2⟩:=X3 hV;have cf:=hV.free 2;clear hx hw0 hw1 hF hF1 hE hE1 hV hV1 hT hT1 n1 n2 hlo hgf hgt hgw hown hone hparts hright hm1 hl hnn hlz hEN hP hsz hsub;go_enter Tryz.func57,Tryz.ntmps57
 go_upto_region 1 with fail
 rw [← HW.out,← HGF.out,← HGT.out,← HGW.out];go_upto_region 2 with fail
 rw [← HM.out,← HW1.out];clear c2 cf;obtain ⟨t0,t1,t2,t3,t4,t5,t6,t7,t8⟩:=X9 HT1.out;obtain ⟨b0,b1,b2⟩:=X3 HF1.out;obtain ⟨f0,f1,f2⟩:=Y3 HF1.out;obtain ⟨c0,c1,c2⟩:=X3 HV1.out;by_cases q1:24 < d
 ·have HR:=hide (show R=((6,a),m1) by rw [HX.out,if_pos q1])
  go_wp2_with fail
  refine (Qm 0 0 m1 6 a _).mono ?_;rintro e w5 ⟨rfl,hE5⟩;obtain ⟨HF5,HV5,HT5,HE5⟩:=Z4 (HF1.out.ext hE5) (HV1.out.ext hE5) (HT1.out.ext hE5) (HE1.out.trans' hE5);obtain ⟨b0,b1,b2⟩:=X3 HF5.out;obtain ⟨f0,f1,f2⟩:=Y3 HF5.out;unfold wrV;clear hE5;go_wp2_with fail
  exact Qh (r:=((6,a),m1)) (g:=gf) (((HF5.out.set_ 0 _).set_ 1 _).set_ 2 _) rfl rfl rfl ⟨by rw [HR.out],((HE5.out.setCell HLO.out _).setCell HLO.out _).setCell HLO.out _⟩
 have HX2:=hide (HX.out.trans (if_neg q1));by_cases q2:512 < m1
 ·have HR:=hide (show R=((8,a),m1) by rw [HX2.out,if_pos q2])
  go_wp2_with fail
  refine (Qm 0 0 m1 8 a _).mono ?_;rintro e w5 ⟨rfl,hE5⟩;obtain ⟨HF5,HV5,HT5,HE5⟩:=Z4 (HF1.out.ext hE5) (HV1.out.ext hE5) (HT1.out.ext hE5) (HE1.out.trans' hE5);obtain ⟨b0,b1,b2⟩:=X3 HF5.out;obtain ⟨f0,f1,f2⟩:=Y3 HF5.out;unfold wrV;clear hE5;go_wp2_with fail
  exact Qh (r:=((8,a),m1)) (g:=gf) (((HF5.out.set_ 0 _).set_ 1 _).set_ 2 _) rfl rfl rfl ⟨by rw [HR.out],((HE5.out.setCell HLO.out _).setCell HLO.out _).setCell HLO.out _⟩
 have HX3:=hide (HX2.out.trans (if_neg q2));by_cases q3:kd < 1
 ·have HR:=hide (show R=((14,a),m1) by rw [HX3.out,if_pos (.inl q3)])
  go_wp2_with fail
  refine (Qm 0 0 m1 14 a _).mono ?_;rintro e w5 ⟨rfl,hE5⟩;obtain ⟨HF5,HV5,HT5,HE5⟩:=Z4 (HF1.out.ext hE5) (HV1.out.ext hE5) (HT1.out.ext hE5) (HE1.out.trans' hE5);obtain ⟨b0,b1,b2⟩:=X3 HF5.out;obtain ⟨f0,f1,f2⟩:=Y3 HF5.out;unfold wrV;clear hE5;go_wp2_with fail
  exact Qh (r:=((14,a),m1)) (g:=gf) (((HF5.out.set_ 0 _).set_ 1 _).set_ 2 _) rfl rfl rfl ⟨by rw [HR.out],((HE5.out.setCell HLO.out _).setCell HLO.out _).setCell HLO.out _⟩
 by_cases q4:9 < kd
 ·have HR:=hide (show R=((14,a),m1) by rw [HX3.out,if_pos (.inr q4)])
  go_wp2_with fail
  refine (Qm 0 0 m1 14 a _).mono ?_;rintro e w5 ⟨rfl,hE5⟩;obtain ⟨HF5,HV5,HT5,HE5⟩:=Z4 (HF1.out.ext hE5) (HV1.out.ext hE5) (HT1.out.ext hE5) (HE1.out.trans' hE5);obtain ⟨b0,b1,b2⟩:=X3 HF5.out;obtain ⟨f0,f1,f2⟩:=Y3 HF5.out;unfold wrV;clear hE5;go_wp2_with fail
  exact Qh (r:=((14,a),m1)) (g:=gf) (((HF5.out.set_ 0 _).set_ 1 _).set_ 2 _) rfl rfl rfl ⟨by rw [HR.out],((HE5.out.setCell HLO.out _).setCell HLO.out _).setCell HLO.out _⟩
 have HX4:=hide (HX3.out.trans (if_neg (fun hh=>hh.elim q3 q4)))
 clear HX HX2 HX3;go_upto_region 8 with fail
 clear c0 c1 c2 f0 f1 f2 b0 b1 b2;go_wp2_with fail
 refine (HOWN.out _ HE1.out).mono ?_;rintro e w3 ⟨rfl,hE3⟩;obtain ⟨HF3,HV3,HT3,HE3⟩:=Z4 (HF1.out.ext hE3) (HV1.out.ext hE3) (HT1.out.ext hE3) (HE1.out.trans' hE3);obtain ⟨t0,t1,t2,t3,t4,t5,t6,t7,t8⟩:=X9 HT3.out;obtain ⟨b0,b1,b2⟩:=X3 HF3.out;obtain ⟨f0,f1,f2⟩:=Y3 HF3.out;obtain ⟨c0,c1,c2⟩:=X3 HV3.out;clear hE3;cases OB with
 | false =>
  have HR:=hide (show R=((19,a),m1) by rw [HX4.out,if_pos rfl])
  go_wp2_with fail
  refine (Qm 0 0 m1 19 a _).mono ?_;rintro e w5 ⟨rfl,hE5⟩;obtain ⟨HF5,HV5,HT5,HE5⟩:=Z4 (HF3.out.ext hE5) (HV3.out.ext hE5) (HT3.out.ext hE5) (HE3.out.trans' hE5);obtain ⟨b0,b1,b2⟩:=X3 HF5.out;obtain ⟨f0,f1,f2⟩:=Y3 HF5.out;unfold wrV;clear hE5;go_wp2_with fail
  exact Qh (r:=((19,a),m1)) (g:=gf) (((HF5.out.set_ 0 _).set_ 1 _).set_ 2 _) rfl rfl rfl ⟨by rw [HR.out],((HE5.out.setCell HLO.out _).setCell HLO.out _).setCell HLO.out _⟩
 | true =>
 have HX5:=hide (HX4.out.trans (if_neg (by decide)))
 clear HX4;go_upto_region 10 with fail
 by_cases k2:kd=2
 ·subst k2;by_cases e1:hi < lo
  ·have HR:=hide (show R=((20,a),m1) by rw [HX5.out,if_pos rfl,if_pos e1])
   go_wp2_with fail
   refine (Qm 0 0 m1 20 a _).mono ?_;rintro e w5 ⟨rfl,hE5⟩;obtain ⟨HF5,HV5,HT5,HE5⟩:=Z4 (HF3.out.ext hE5) (HV3.out.ext hE5) (HT3.out.ext hE5) (HE3.out.trans' hE5);obtain ⟨b0,b1,b2⟩:=X3 HF5.out;obtain ⟨f0,f1,f2⟩:=Y3 HF5.out;unfold wrV;clear hE5;go_wp2_with fail
   exact Qh (r:=((20,a),m1)) (g:=gf) (((HF5.out.set_ 0 _).set_ 1 _).set_ 2 _) rfl rfl rfl ⟨by rw [HR.out],((HE5.out.setCell HLO.out _).setCell HLO.out _).setCell HLO.out _⟩
  ·have HR:=hide (show R=((0,0),m1) by rw [HX5.out,if_pos rfl,if_neg e1])
   go_wp2_with fail
   exact Qh (r:=((0,0),m1)) (g:=gf) (((HF3.out.set_ 0 _).set_ 1 _).set_ 2 _) rfl rfl rfl ⟨by rw [HR.out],((HE3.out.setCell HLO.out _).setCell HLO.out _).setCell HLO.out _⟩
 by_cases k3:kd=3
 ·subst k3;by_cases e1:mo < 0
  ·have HR:=hide (show R=((20,a),m1) by rw [HX5.out,if_neg (by decide),if_pos rfl,if_pos (.inl e1)])
   go_wp2_with fail
   refine (Qm 0 0 m1 20 a _).mono ?_;rintro e w5 ⟨rfl,hE5⟩;obtain ⟨HF5,HV5,HT5,HE5⟩:=Z4 (HF3.out.ext hE5) (HV3.out.ext hE5) (HT3.out.ext hE5) (HE3.out.trans' hE5);obtain ⟨b0,b1,b2⟩:=X3 HF5.out;obtain ⟨f0,f1,f2⟩:=Y3 HF5.out;unfold wrV;clear hE5;go_wp2_with fail
   exact Qh (r:=((20,a),m1)) (g:=gf) (((HF5.out.set_ 0 _).set_ 1 _).set_ 2 _) rfl rfl rfl ⟨by rw [HR.out],((HE5.out.setCell HLO.out _).setCell HLO.out _).setCell HLO.out _⟩
  by_cases e2:4096 < mo
  ·have HR:=hide (show R=((20,a),m1) by rw [HX5.out,if_neg (by decide),if_pos rfl,if_pos (.inr e2)])
   go_wp2_with fail
   refine (Qm 0 0 m1 20 a _).mono ?_;rintro e w5 ⟨rfl,hE5⟩;obtain ⟨HF5,HV5,HT5,HE5⟩:=Z4 (HF3.out.ext hE5) (HV3.out.ext hE5) (HT3.out.ext hE5) (HE3.out.trans' hE5);obtain ⟨b0,b1,b2⟩:=X3 HF5.out;obtain ⟨f0,f1,f2⟩:=Y3 HF5.out;unfold wrV;clear hE5;go_wp2_with fail
   exact Qh (r:=((20,a),m1)) (g:=gf) (((HF5.out.set_ 0 _).set_ 1 _).set_ 2 _) rfl rfl rfl ⟨by rw [HR.out],((HE5.out.setCell HLO.out _).setCell HLO.out _).setCell HLO.out _⟩
  ·have HR:=hide (show R=((0,0),m1) by rw [HX5.out,if_neg (by decide),if_pos rfl,if_neg (fun hh=>hh.elim e1 e2)])
   go_wp2_with fail
   exact Qh (r:=((0,0),m1)) (g:=gf) (((HF3.out.set_ 0 _).set_ 1 _).set_ 2 _) rfl rfl rfl ⟨by rw [HR.out],((HE3.out.setCell HLO.out _).setCell HLO.out _).setCell HLO.out _⟩
 by_cases k9:kd=9
 ·subst k9;cases RB with
  | true =>
   have HR:=hide (show R=((0,0),m1) by rw [HX5.out,if_neg (by decide),if_neg (by decide),if_neg (by decide),if_neg (by decide),if_pos rfl,if_pos rfl])
   go_wp2_with fail
   refine (HRIGHT.out _).mono ?_;rintro e w8 ⟨rfl,rfl⟩;go_wp2_with fail
   exact Qh (r:=((0,0),m1)) (g:=gf) (((HF3.out.set_ 0 _).set_ 1 _).set_ 2 _) rfl rfl rfl ⟨by rw [HR.out],((HE3.out.setCell HLO.out _).setCell HLO.out _).setCell HLO.out _⟩
  | false =>
   have HR:=hide (show R=((9,s1),m1) by rw [HX5.out,if_neg (by decide),if_neg (by decide),if_neg (by decide),if_neg (by decide),if_pos rfl,if_neg (by decide)])
   go_wp2_with fail
   refine (HRIGHT.out _).mono ?_;rintro e w8 ⟨rfl,rfl⟩;go_wp2_with fail
   refine (Qm 0 0 m1 9 s1 _).mono ?_;rintro e w5 ⟨rfl,hE5⟩;obtain ⟨HF5,HV5,HT5,HE5⟩:=Z4 (HF3.out.ext hE5) (HV3.out.ext hE5) (HT3.out.ext hE5) (HE3.out.trans' hE5);obtain ⟨b0,b1,b2⟩:=X3 HF5.out;obtain ⟨f0,f1,f2⟩:=Y3 HF5.out;unfold wrV;clear hE5;go_wp2_with fail
   exact Qh (r:=((9,s1),m1)) (g:=gf) (((HF5.out.set_ 0 _).set_ 1 _).set_ 2 _) rfl rfl rfl ⟨by rw [HR.out],((HE5.out.setCell HLO.out _).setCell HLO.out _).setCell HLO.out _⟩
 by_cases k7:kd=7
 ·subst k7;have HR:=hide (show R=SUB by rw [HX5.out,if_neg (by decide),if_neg (by decide),if_neg (by decide),if_pos (by decide)])
  go_upto_region 32 with fail
  go_wp2_with fail
  refine (HPARTS.out (by decide) _ HE3.out).mono ?_
  rintro e w8 ⟨rfl,hE8⟩;obtain ⟨⟨D1,D2⟩,D3⟩:=SUB;obtain ⟨HF8,HV8,HT8,HE8⟩:=Z4 (HF3.out.ext hE8) (HV3.out.ext hE8) (HT3.out.ext hE8) (HE3.out.trans' hE8);obtain ⟨b0,b1,b2⟩:=X3 HF8.out;obtain ⟨f0,f1,f2⟩:=Y3 HF8.out;unfold wrV;clear hE8;go_wp2_with fail
  exact Qh (r:=((D1,D2),D3)) (g:=gf) (((HF8.out.set_ 0 _).set_ 1 _).set_ 2 _) rfl rfl rfl ⟨by rw [HR.out],((HE8.out.setCell HLO.out _).setCell HLO.out _).setCell HLO.out _⟩
 by_cases k8:kd=8
 ·subst k8;have HR:=hide (show R=SUB by rw [HX5.out,if_neg (by decide),if_neg (by decide),if_neg (by decide),if_pos (by decide)])
  go_upto_region 32 with fail
  go_wp2_with fail
  refine (HPARTS.out (by decide) _ HE3.out).mono ?_
  rintro e w8 ⟨rfl,hE8⟩;obtain ⟨⟨D1,D2⟩,D3⟩:=SUB;obtain ⟨HF8,HV8,HT8,HE8⟩:=Z4 (HF3.out.ext hE8) (HV3.out.ext hE8) (HT3.out.ext hE8) (HE3.out.trans' hE8);obtain ⟨b0,b1,b2⟩:=X3 HF8.out;obtain ⟨f0,f1,f2⟩:=Y3 HF8.out;unfold wrV;clear hE8;go_wp2_with fail
  exact Qh (r:=((D1,D2),D3)) (g:=gf) (((HF8.out.set_ 0 _).set_ 1 _).set_ 2 _) rfl rfl rfl ⟨by rw [HR.out],((HE8.out.setCell HLO.out _).setCell HLO.out _).setCell HLO.out _⟩
 by_cases k4:kd=4
 ·subst k4;have HR1:=hide (show R=(Qao a l,m1) by rw [HX5.out,if_neg (by decide),if_neg (by decide),if_pos rfl,HEN.out])
  clear HX5 HEN HOWN HRIGHT HPARTS HONE HSUB HP HSZ;by_cases z0:nn=0
  ·have HR:=hide (show R=((15,a),m1) by rw [HR1.out]; unfold Qao; rw [if_pos (show l.length=0 by rw [← HNN.out]; exact z0)])
   subst z0;go_wp2_with fail
   refine (Qm 0 0 m1 15 a _).mono ?_;rintro e w5 ⟨rfl,hE5⟩;obtain ⟨HF5,HV5,HT5,HE5⟩:=Z4 (HF3.out.ext hE5) (HV3.out.ext hE5) (HT3.out.ext hE5) (HE3.out.trans' hE5);obtain ⟨b0,b1,b2⟩:=X3 HF5.out;obtain ⟨f0,f1,f2⟩:=Y3 HF5.out;unfold wrV;clear hE5;go_wp2_with fail
   exact Qh (r:=((15,a),m1)) (g:=gf) (((HF5.out.set_ 0 _).set_ 1 _).set_ 2 _) rfl rfl rfl ⟨by rw [HR.out],((HE5.out.setCell HLO.out _).setCell HLO.out _).setCell HLO.out _⟩
  by_cases z1:64 < nn
  ·have HR:=hide (show R=((8,wPl l 64),m1) by rw [HR1.out]; unfold Qao; rw [if_neg (show ¬ l.length=0 by rw [← HNN.out]; exact z0),if_pos (show 64 < l.length by rw [← HNN.out]; exact z1)])
   obtain ⟨b,o,rfl,hbs,hcell⟩:=(HL.out.ext HE3.out).cell (by rw [← HNN.out]; omega)
   have d1:=(hcell 64 (by rw [← HNN.out]; exact z1)).2
   obtain ⟨x,hx⟩:=V1 (wPl l 64);rw [← hx] at d1 HR;have i0:((nn:Int) == 0)=false:=by simp; omega
   have i1:(64:Int) < (nn:Int):=by omega
   clear hx hcell;go_upto_region 18 with fail
   go_still_tail 6,(by kernel_rfl)
   change wpList _ _ _ _ _ w3.drew
   go_wp2_with fail
   refine (Qm 0 0 m1 8 x _).mono ?_;rintro e w5 ⟨rfl,hE5'⟩;have hE5:=((Ext.rfl' w3).drew').trans' hE5';obtain ⟨HF5,HV5,HT5,HE5⟩:=Z4 (HF3.out.ext hE5) (HV3.out.ext hE5) (HT3.out.ext hE5) (HE3.out.trans' hE5);obtain ⟨b0,b1,b2⟩:=X3 HF5.out;obtain ⟨f0,f1,f2⟩:=Y3 HF5.out;unfold wrV;clear hE5;go_wp2_with fail
   exact Qh (r:=((8,x),m1)) (g:=gf) (((HF5.out.set_ 0 _).set_ 1 _).set_ 2 _) rfl rfl rfl ⟨by rw [HR.out],((HE5.out.setCell HLO.out _).setCell HLO.out _).setCell HLO.out _⟩
  obtain ⟨HIT,HMI⟩:=Z2 (fun k (hk:k < nn) hh hb=>Qj1 (a:=a) (k:=k) HNN.out z1 hk hh hb) (fun hh=>Qit (a:=a) HNN.out z0 z1 hh)
  obtain ⟨EF,hEF⟩:=V1 (Qao a l);rw [← hEF] at HIT HMI HR1;have i0:((nn:Int) == 0)=false:=by simp; omega
  have i1:¬ (64:Int) < (nn:Int):=by omega
  have HZ1:=hide z1;clear hEF z0 z1;clear f0 f1 f2 b0 b1 b2;go_wp2_with fail
  go_loopw [7] (fun x wr=>∃ k:Nat,k≤nn∧x = .int .i64 k∧Ext w3 wr∧Hid (∀ j,j < k→listE (nms l) j=0)) (fun x _=>nn - (intOf x).toNat)
  case atStart=>exact ⟨0,Nat.zero_le _,rfl,Ext.rfl' _,fun j hj=>absurd hj (by omega)⟩
  case round =>
   obtain ⟨k,hk,rfl,hE4,HA⟩:=hrel;obtain ⟨HE4x,HF4,HV4,HT4,HE4⟩:=Z5 hE4 (HF3.out.ext hE4) (HV3.out.ext hE4) (HT3.out.ext hE4) (HE3.out.trans' hE4);obtain ⟨t0,t1,t2,t3,t4,t5,t6,t7,t8⟩:=X9 HT4.out;obtain ⟨b0,b1,b2⟩:=X3 HF4.out;obtain ⟨f0,f1,f2⟩:=Y3 HF4.out;obtain ⟨c0,c1,c2⟩:=X3 HV4.out;by_cases hlt:k < nn
   ·obtain ⟨b,o,rfl,hbs,hcell⟩:=(HL.out.ext HE4.out).cell (by rw [← HNN.out]; omega)
    have d1:=(hcell k (by rw [← HNN.out]; exact hlt)).2
    have hli:=Qdb (some ⟨b,o,none⟩) cn nn k l wr (HL.out.ext HE4.out) HNN.out hlt (by have:=HZ1.out; omega) HLZ.out.2
    have hhit:=HIT.out k hlt HA.out;have HST:=hide (fun hh=>Q0 HA.out (show listE (nms l) k=0 from hh))
    obtain ⟨x,hx,ev,hev⟩:=V2 (wPl l k) (listE (nms l) k);rw [← hev] at hli hhit HST;rw [← hx] at d1 hhit;have HLI:=hide hli;have i2:=nZ k;have i3:(k:Int) < (nn:Int):=by omega
    obtain ⟨HBS,HD1⟩:=Z2 hbs d1;clear hcell hx hev hli HIT HMI hE4;by_cases he:ev=0
    ·have HA2:=hide (HST.out he);subst he;clear hhit HST HA d1;go_wp2_with fail
     refine HLI.out.mono ?_;rintro e w6 ⟨rfl,hE6⟩;have HE6:=hide hE6;clear hE6;go_wp2_with fail
     go_roundw
     case rel=>exact ⟨k + 1,by omega,by go_num,HE4x.out.trans' HE6.out,HA2.out⟩
     case measure=>simp [intOf]; omega
    ·have HHIT:=hide (hhit he);have HR:=hide (show R=((ev,x),m1) by rw [HR1.out,HHIT.out])
     have j0:(ev == 0)=false:=by simpa using he
     clear hhit HST HA he;go_wp2_with fail
     refine HLI.out.mono ?_;rintro e w6 ⟨rfl,hE6⟩;obtain ⟨HF6,HV6,HT6,HE6⟩:=Z4 (HF4.out.ext hE6) (HV4.out.ext hE6) (HT4.out.ext hE6) (HE4.out.trans' hE6);obtain ⟨t0,t1,t2,t3,t4,t5,t6,t7,t8⟩:=X9 HT6.out;obtain ⟨b0,b1,b2⟩:=X3 HF6.out;obtain ⟨f0,f1,f2⟩:=Y3 HF6.out;obtain ⟨c0,c1,c2⟩:=X3 HV6.out;have d1:=(hE6.cell (p:=⟨b,o + k * 2 + 1,none⟩) HBS.out).trans HD1.out;clear hE6;go_upto_region 24 with fail
     go_still_tail 8,(by kernel_rfl)
     change wpList _ _ _ _ _ w6.drew
     go_wp2_with fail
     refine (Qm 0 0 m1 ev x _).mono ?_;rintro e w5 ⟨rfl,hE5'⟩;have hE5:=((Ext.rfl' w6).drew').trans' hE5';obtain ⟨HF5,HV5,HT5,HE5⟩:=Z4 (HF6.out.ext hE5) (HV6.out.ext hE5) (HT6.out.ext hE5) (HE6.out.trans' hE5);obtain ⟨b0,b1,b2⟩:=X3 HF5.out;obtain ⟨f0,f1,f2⟩:=Y3 HF5.out;unfold wrV;clear hE5;go_wp2_with fail
     exact Qh (r:=((ev,x),m1)) (g:=gf) (((HF5.out.set_ 0 _).set_ 1 _).set_ 2 _) rfl rfl rfl ⟨by rw [HR.out],((HE5.out.setCell HLO.out _).setCell HLO.out _).setCell HLO.out _⟩
   ·obtain rfl:k=nn:=by omega
    have HX:=hide (HMI.out HA.out);have HR:=hide (show R=((0,0),m1) by rw [HR1.out,HX.out])
    clear HA hE4 HIT HMI;go_wp2_with fail
    exact Qh (r:=((0,0),m1)) (g:=gf) (((HF4.out.set_ 0 _).set_ 1 _).set_ 2 _) rfl rfl rfl ⟨by rw [HR.out],((HE4.out.setCell HLO.out _).setCell HLO.out _).setCell HLO.out _⟩
 by_cases k5:kd=5
 ·subst k5;have HR1:=hide (show R=SUB by rw [HX5.out,if_neg (by decide),if_neg (by decide),if_neg (by decide),if_pos (by decide)])
  have HS1:=hide (HONE.out (by decide))
  clear HX5 HEN HOWN HRIGHT HPARTS HONE HL HLZ HNN;by_cases hn:n=1
  ·subst hn;have HS2:=hide (HS1.out);obtain ⟨b,o,rfl,hb,hc⟩:=HP.out (by omega)
   obtain ⟨vs,r0,hpa⟩:=hc 0 (by omega)
   rw [Nat.zero_mul,Nat.add_zero] at r0;have hs:=HSZ.out 0 (by omega)
   have hsb:=HSUB.out (by omega)
   have hp3:PartAt w3 w3.heap.size (p 0) (t 0) vs:=hpa.ext HE3.out;have hpl:=Qc4 (p 0) (zPt wd0 false) (t 0) zTy w3 vs (ptV (zPt wd0 false) none 0 none 0 ++ zCells) hp3 (Qd4 _ _ _ _) hs.1 hs.2;obtain ⟨Al,cl,Ac,cc,vt,hvs,hlb,hcc,htt⟩:=id hpa;have hchk:=fun (w1:World) (hE:Ext w w1)=>hsb m1 w1 vt (htt.ext hE)
   have hvl:vs.length=18:=hp3.len;have htl:vt.length=9:=by obtain ⟨y0,y1,y2,y3,y4,y5,y6,y7,y8,e⟩:=htt.nine; rw [e]; rfl
   have hr1:w3.rangeAt b o vs:=fun j v hv=>(HE3.out.cell (p:=⟨b,o + j,none⟩) hb).trans (r0 j v hv)
   have hrt:w3.rangeAt b (o + 9) vt:=fun j v hv=>by
    have:=hr1 (9 + j) v (by rw [hvs,List.getElem?_append_right (by show 9≤9 + j; omega)]; rw [show 9 + j - (ptV (p 0) Al cl Ac cc).length=j by show 9 + j - 9=j; omega]; exact hv)
    rwa [← Nat.add_assoc] at this
   have d0:w3.cell? ⟨b,o,none⟩=some (.string (p 0).name.1):=hr1 0 _ (by rw [hvs]; rfl)
   have hpe:Q3 (p 0) (zPt wd0 false)=(decide ((p 0).name.1=⟨#[]⟩) && Q5 (p 0) (zPt wd0 false)):=rfl;rw [hpe] at HS2;generalize Q5 (p 0) (zPt wd0 false)=PB at hpl HS2
   generalize chk (t 0) (wrap64 (d + 1)) m1=CK at hchk HS2
   obtain ⟨nm,hnm⟩:=V1 ((p 0).name.1);rw [← hnm] at d0 HS2;by_cases hnm0:nm=⟨#[]⟩
   ·subst hnm0;have HS3:=hide (show SUB=if PB=true then (if mo < 0∨1024 < mo then ((20,a),m1) else CK) else ((19,a),m1) by rw [HS2.out]; cases PB <;> simp)
    obtain ⟨y0,y1,y2,y3,y4,y5,y6,y7,y8,hvt⟩:=htt.nine;have HPL:=hide (show Calls Tryz.prog 94 #[.agg vs.toArray,.agg #[.string ⟨#[]⟩,.int .i64 0,.bool false,.slice none 0 0,.int .i64 0,.int .i64 0,.int .i64 0,.int .i64 0,.slice none 0 0,.int .i64 0,.int .i64 0,.int .i64 0,.int .i64 0,.int .i64 0,.slice none 0 0,.slice none 0 0,.string ⟨#[]⟩,.int .i64 0]] w3 (fun e w'=>e = .returned (.bool PB)∧Ext w3 w') from hpl)
    have HCHK:=hide (show ∀ (w1:World),Ext w w1→Calls Tryz.prog 57 #[.agg #[.int .i64 0,.int .i64 0,.int .i64 m1],.agg #[y0,y1,y2,y3,y4,y5,y6,y7,y8],.int .i64 (wrap64 (d + 1))] w1 (fun e w'=>e = .returned (wrV CK)∧Ext w1 w') from fun w1 hE=>by have:=hchk w1 hE; rw [hvt] at this; exact this)
    obtain ⟨HVL,HR0⟩:=Z2 hvl hr1;have HRT:=hide (show w3.rangeAt b (o + 9) [y0,y1,y2,y3,y4,y5,y6,y7,y8] from hvt ▸ hrt)
    have HB:=hide (Nat.lt_of_lt_of_le hb HE3.out.size);clear hpl hchk hvl hr1 hrt hb hc r0 hpa hs hsb hp3 hvs hlb hcc htt htl hpe HS2 HS1 hvt hnm HP HSZ HSUB;go_upto_region 26 with fail
    refine wp_region_lit ?_;refine wpList_plain rfl fun K1 hK1=>?_
    go_simp;refine hK1 _ _ ?_;refine wpList_plain rfl fun K2 hK2=>?_
    go_simp;refine hK2 _ _ ?_;refine wpList_plain rfl fun K3 hK3=>?_
    go_simp;refine hK3 _ _ ?_;refine wpList_plain rfl fun K4 hK4=>?_
    go_simp;refine hK4 _ _ ?_;refine wpList_plain rfl fun K5 hK5=>?_
    go_simp;refine hK5 _ _ ?_;refine wpList_unguard' (by rfl) ?_
    refine wpList_plain rfl fun K6 hK6=>?_
    go_simp;refine hK6 _ _ ?_;refine wpList_unguard' (by rfl) ?_
    refine wpList_plain rfl fun K7 hK7=>?_
    go_simp;refine hK7 _ _ ?_;refine wpList_unguard' (by rfl) ?_
    refine wpList_plain rfl fun K8 hK8=>?_
    go_simp;refine hK8 _ _ ?_;refine wpList_unguard' (by rfl) ?_
    refine wpList_plain rfl fun K9 hK9=>?_
    go_simp;refine hK9 _ _ ?_;refine wpList_unguard' (by rfl) ?_
    refine wpList_plain rfl fun K10 hK10=>?_
    go_simp;refine hK10 _ _ ?_;refine wpList_unguard' (by rfl) ?_
    refine wpList_plain rfl fun K11 hK11=>?_
    go_simp;refine hK11 _ _ ?_;refine wpList_unguard' (by rfl) ?_
    refine wpList_plain rfl fun K12 hK12=>?_
    go_simp;refine hK12 _ _ ?_;refine wpList_plain rfl fun K13 hK13=>?_
    go_simp;refine hK13 _ _ ?_;refine wpList_plain rfl fun K14 hK14=>?_
    go_simp;refine hK14 _ _ ?_;refine wpList_unguard' (by rfl) ?_
    refine wpList_plain rfl fun K15 hK15=>?_
    go_simp;refine hK15 _ _ ?_;refine wpList_unguard' (by rfl) ?_
    refine wpList_plain rfl fun K16 hK16=>?_
    go_simp;refine hK16 _ _ ?_;refine wpList_unguard' (by rfl) ?_
    refine wpList_plain rfl fun K17 hK17=>?_
    go_simp;refine hK17 _ _ ?_;refine wpList_unguard' (by rfl) ?_
    refine wpList_load_mid rfl 131 _ rfl b o rfl vs _ HR0.out Tryz.underlying131 rfl (infoPart' HVL.out) ?_;go_wp2_with fail
    refine HPL.out.mono ?_;rintro e w6 ⟨rfl,hE6⟩;obtain ⟨HF6,HV6,HT6,HE6⟩:=Z4 (HF3.out.ext hE6) (HV3.out.ext hE6) (HT3.out.ext hE6) (HE3.out.trans' hE6);obtain ⟨t0,t1,t2,t3,t4,t5,t6,t7,t8⟩:=X9 HT6.out;obtain ⟨b0,b1,b2⟩:=X3 HF6.out;obtain ⟨f0,f1,f2⟩:=Y3 HF6.out;obtain ⟨c0,c1,c2⟩:=X3 HV6.out;have hrt6:w6.rangeAt b (o + 9) [y0,y1,y2,y3,y4,y5,y6,y7,y8]:=fun j v hv=>(hE6.cell (p:=⟨b,o + 9 + j,none⟩) HB.out).trans (HRT.out j v hv)
    have z0:=hrt6 0 _ rfl;have z1:=hrt6 1 _ rfl;have z2:=hrt6 2 _ rfl;have z3:=hrt6 3 _ rfl;have z4:=hrt6 4 _ rfl;have z5:=hrt6 5 _ rfl;have z6:=hrt6 6 _ rfl;have z7:=hrt6 7 _ rfl;have z8:=hrt6 8 _ rfl;clear hE6 d0 hrt6;cases PB with
    | false =>
     have HR:=hide (show R=((19,a),m1) by rw [HR1.out,HS3.out,if_neg (by decide)])
     go_wp2_with fail
     refine (Qm 0 0 m1 19 a _).mono ?_;rintro e w5 ⟨rfl,hE5⟩;obtain ⟨HF5,HV5,HT5,HE5⟩:=Z4 (HF6.out.ext hE5) (HV6.out.ext hE5) (HT6.out.ext hE5) (HE6.out.trans' hE5);obtain ⟨b0,b1,b2⟩:=X3 HF5.out;obtain ⟨f0,f1,f2⟩:=Y3 HF5.out;unfold wrV;clear hE5;go_wp2_with fail
     exact Qh (r:=((19,a),m1)) (g:=gf) (((HF5.out.set_ 0 _).set_ 1 _).set_ 2 _) rfl rfl rfl ⟨by rw [HR.out],((HE5.out.setCell HLO.out _).setCell HLO.out _).setCell HLO.out _⟩
    | true =>
    have HS4:=hide (HS3.out.trans (if_pos rfl));by_cases e1:mo < 0
    ·have HR:=hide (show R=((20,a),m1) by rw [HR1.out,HS4.out,if_pos (.inl e1)])
     go_wp2_with fail
     refine (Qm 0 0 m1 20 a _).mono ?_;rintro e w5 ⟨rfl,hE5⟩;obtain ⟨HF5,HV5,HT5,HE5⟩:=Z4 (HF6.out.ext hE5) (HV6.out.ext hE5) (HT6.out.ext hE5) (HE6.out.trans' hE5);obtain ⟨b0,b1,b2⟩:=X3 HF5.out;obtain ⟨f0,f1,f2⟩:=Y3 HF5.out;unfold wrV;clear hE5;go_wp2_with fail
     exact Qh (r:=((20,a),m1)) (g:=gf) (((HF5.out.set_ 0 _).set_ 1 _).set_ 2 _) rfl rfl rfl ⟨by rw [HR.out],((HE5.out.setCell HLO.out _).setCell HLO.out _).setCell HLO.out _⟩
    by_cases e2:1024 < mo
    ·have HR:=hide (show R=((20,a),m1) by rw [HR1.out,HS4.out,if_pos (.inr e2)])
     go_wp2_with fail
     refine (Qm 0 0 m1 20 a _).mono ?_;rintro e w5 ⟨rfl,hE5⟩;obtain ⟨HF5,HV5,HT5,HE5⟩:=Z4 (HF6.out.ext hE5) (HV6.out.ext hE5) (HT6.out.ext hE5) (HE6.out.trans' hE5);obtain ⟨b0,b1,b2⟩:=X3 HF5.out;obtain ⟨f0,f1,f2⟩:=Y3 HF5.out;unfold wrV;clear hE5;go_wp2_with fail
     exact Qh (r:=((20,a),m1)) (g:=gf) (((HF5.out.set_ 0 _).set_ 1 _).set_ 2 _) rfl rfl rfl ⟨by rw [HR.out],((HE5.out.setCell HLO.out _).setCell HLO.out _).setCell HLO.out _⟩
    have HR:=hide (show R=CK by rw [HR1.out,HS4.out,if_neg (fun hh=>hh.elim e1 e2)])
    clear HR1 HS4 HS3;go_upto_region 30 with fail
    go_still_tail 8,(by kernel_rfl)
    change wpList _ _ _ _ _ w6.drew
    go_wp2_with fail
    refine (HCHK.out _ HE6.out.drew').mono ?_;rintro e w8 ⟨rfl,hE8'⟩;have hE8:=((Ext.rfl' w6).drew').trans' hE8';obtain ⟨⟨D1,D2⟩,D3⟩:=CK;obtain ⟨HF8,HV8,HT8,HE8⟩:=Z4 (HF6.out.ext hE8) (HV6.out.ext hE8) (HT6.out.ext hE8) (HE6.out.trans' hE8);obtain ⟨b0,b1,b2⟩:=X3 HF8.out;obtain ⟨f0,f1,f2⟩:=Y3 HF8.out;unfold wrV;clear hE8;go_wp2_with fail
    exact Qh (r:=((D1,D2),D3)) (g:=gf) (((HF8.out.set_ 0 _).set_ 1 _).set_ 2 _) rfl rfl rfl ⟨by rw [HR.out],((HE8.out.setCell HLO.out _).setCell HLO.out _).setCell HLO.out _⟩
   ·have hq0:¬ nm.toList = []:=Qn3 hnm0;have HR:=hide (show R=((19,a),m1) by rw [HR1.out,HS2.out,decide_eq_false hnm0,Bool.false_and,if_neg (fun hh=>by cases hh.2)])
    clear hpl hchk hvl hr1 hrt hb hc r0 hpa hs hsb hp3 hvs hlb hcc htt htl hpe HS2 HS1 HR1 hnm HP HSZ HSUB;go_wp2_with fail
    refine (Qm 0 0 m1 19 a _).mono ?_;rintro e w5 ⟨rfl,hE5⟩;obtain ⟨HF5,HV5,HT5,HE5⟩:=Z4 (HF3.out.ext hE5) (HV3.out.ext hE5) (HT3.out.ext hE5) (HE3.out.trans' hE5);obtain ⟨b0,b1,b2⟩:=X3 HF5.out;obtain ⟨f0,f1,f2⟩:=Y3 HF5.out;unfold wrV;clear hE5;go_wp2_with fail
    exact Qh (r:=((19,a),m1)) (g:=gf) (((HF5.out.set_ 0 _).set_ 1 _).set_ 2 _) rfl rfl rfl ⟨by rw [HR.out],((HE5.out.setCell HLO.out _).setCell HLO.out _).setCell HLO.out _⟩
  ·have HR:=hide (show R=((19,a),m1) by rw [HR1.out,HS1.out,if_neg (fun hh=>hn hh.1)])
   have i0:((n:Int) != 1)=true:=by simp; omega
   go_wp2_with fail
   refine (Qm 0 0 m1 19 a _).mono ?_;rintro e w5 ⟨rfl,hE5⟩;obtain ⟨HF5,HV5,HT5,HE5⟩:=Z4 (HF3.out.ext hE5) (HV3.out.ext hE5) (HT3.out.ext hE5) (HE3.out.trans' hE5);obtain ⟨b0,b1,b2⟩:=X3 HF5.out;obtain ⟨f0,f1,f2⟩:=Y3 HF5.out;unfold wrV;clear hE5;go_wp2_with fail
   exact Qh (r:=((19,a),m1)) (g:=gf) (((HF5.out.set_ 0 _).set_ 1 _).set_ 2 _) rfl rfl rfl ⟨by rw [HR.out],((HE5.out.setCell HLO.out _).setCell HLO.out _).setCell HLO.out _⟩
 by_cases k6:kd=6
 ·subst k6;have HR1:=hide (show R=SUB by rw [HX5.out,if_neg (by decide),if_neg (by decide),if_neg (by decide),if_pos (by decide)])
  have HS1:=hide (HONE.out (by decide))
  clear HX5 HEN HOWN HRIGHT HPARTS HONE HL HLZ HNN;by_cases hn:n=1
  ·subst hn;have HS2:=hide (HS1.out);obtain ⟨b,o,rfl,hb,hc⟩:=HP.out (by omega)
   obtain ⟨vs,r0,hpa⟩:=hc 0 (by omega)
   rw [Nat.zero_mul,Nat.add_zero] at r0;have hs:=HSZ.out 0 (by omega)
   have hsb:=HSUB.out (by omega)
   have hp3:PartAt w3 w3.heap.size (p 0) (t 0) vs:=hpa.ext HE3.out;have hpl:=Qc4 (p 0) (zPt wd0 false) (t 0) zTy w3 vs (ptV (zPt wd0 false) none 0 none 0 ++ zCells) hp3 (Qd4 _ _ _ _) hs.1 hs.2;obtain ⟨Al,cl,Ac,cc,vt,hvs,hlb,hcc,htt⟩:=id hpa;have hchk:=fun (w1:World) (hE:Ext w w1)=>hsb m1 w1 vt (htt.ext hE)
   have hvl:vs.length=18:=hp3.len;have htl:vt.length=9:=by obtain ⟨y0,y1,y2,y3,y4,y5,y6,y7,y8,e⟩:=htt.nine; rw [e]; rfl
   have hr1:w3.rangeAt b o vs:=fun j v hv=>(HE3.out.cell (p:=⟨b,o + j,none⟩) hb).trans (r0 j v hv)
   have hrt:w3.rangeAt b (o + 9) vt:=fun j v hv=>by
    have:=hr1 (9 + j) v (by rw [hvs,List.getElem?_append_right (by show 9≤9 + j; omega)]; rw [show 9 + j - (ptV (p 0) Al cl Ac cc).length=j by show 9 + j - 9=j; omega]; exact hv)
    rwa [← Nat.add_assoc] at this
   have d0:w3.cell? ⟨b,o,none⟩=some (.string (p 0).name.1):=hr1 0 _ (by rw [hvs]; rfl)
   have hpe:Q3 (p 0) (zPt wd0 false)=(decide ((p 0).name.1=⟨#[]⟩) && Q5 (p 0) (zPt wd0 false)):=rfl;rw [hpe] at HS2;generalize Q5 (p 0) (zPt wd0 false)=PB at hpl HS2
   generalize chk (t 0) (wrap64 (d + 1)) m1=CK at hchk HS2
   obtain ⟨nm,hnm⟩:=V1 ((p 0).name.1);rw [← hnm] at d0 HS2;by_cases hnm0:nm=⟨#[]⟩
   ·subst hnm0;have HS3:=hide (show SUB=if PB=true then (if mo < 0∨1024 < mo then ((20,a),m1) else CK) else ((19,a),m1) by rw [HS2.out]; cases PB <;> simp)
    obtain ⟨y0,y1,y2,y3,y4,y5,y6,y7,y8,hvt⟩:=htt.nine;have HPL:=hide (show Calls Tryz.prog 94 #[.agg vs.toArray,.agg #[.string ⟨#[]⟩,.int .i64 0,.bool false,.slice none 0 0,.int .i64 0,.int .i64 0,.int .i64 0,.int .i64 0,.slice none 0 0,.int .i64 0,.int .i64 0,.int .i64 0,.int .i64 0,.int .i64 0,.slice none 0 0,.slice none 0 0,.string ⟨#[]⟩,.int .i64 0]] w3 (fun e w'=>e = .returned (.bool PB)∧Ext w3 w') from hpl)
    have HCHK:=hide (show ∀ (w1:World),Ext w w1→Calls Tryz.prog 57 #[.agg #[.int .i64 0,.int .i64 0,.int .i64 m1],.agg #[y0,y1,y2,y3,y4,y5,y6,y7,y8],.int .i64 (wrap64 (d + 1))] w1 (fun e w'=>e = .returned (wrV CK)∧Ext w1 w') from fun w1 hE=>by have:=hchk w1 hE; rw [hvt] at this; exact this)
    obtain ⟨HVL,HR0⟩:=Z2 hvl hr1;have HRT:=hide (show w3.rangeAt b (o + 9) [y0,y1,y2,y3,y4,y5,y6,y7,y8] from hvt ▸ hrt)
    have HB:=hide (Nat.lt_of_lt_of_le hb HE3.out.size);clear hpl hchk hvl hr1 hrt hb hc r0 hpa hs hsb hp3 hvs hlb hcc htt htl hpe HS2 HS1 hvt hnm HP HSZ HSUB;go_upto_region 26 with fail
    refine wp_region_lit ?_;refine wpList_plain rfl fun K1 hK1=>?_
    go_simp;refine hK1 _ _ ?_;refine wpList_plain rfl fun K2 hK2=>?_
    go_simp;refine hK2 _ _ ?_;refine wpList_plain rfl fun K3 hK3=>?_
    go_simp;refine hK3 _ _ ?_;refine wpList_plain rfl fun K4 hK4=>?_
    go_simp;refine hK4 _ _ ?_;refine wpList_plain rfl fun K5 hK5=>?_
    go_simp;refine hK5 _ _ ?_;refine wpList_unguard' (by rfl) ?_
    refine wpList_plain rfl fun K6 hK6=>?_
    go_simp;refine hK6 _ _ ?_;refine wpList_unguard' (by rfl) ?_
    refine wpList_plain rfl fun K7 hK7=>?_
    go_simp;refine hK7 _ _ ?_;refine wpList_unguard' (by rfl) ?_
    refine wpList_plain rfl fun K8 hK8=>?_
    go_simp;refine hK8 _ _ ?_;refine wpList_unguard' (by rfl) ?_
    refine wpList_plain rfl fun K9 hK9=>?_
    go_simp;refine hK9 _ _ ?_;refine wpList_unguard' (by rfl) ?_
    refine wpList_plain rfl fun K10 hK10=>?_
    go_simp;refine hK10 _ _ ?_;refine wpList_unguard' (by rfl) ?_
    refine wpList_plain rfl fun K11 hK11=>?_
    go_simp;refine hK11 _ _ ?_;refine wpList_unguard' (by rfl) ?_
    refine wpList_plain rfl fun K12 hK12=>?_
    go_simp;refine hK12 _ _ ?_;refine wpList_plain rfl fun K13 hK13=>?_
    go_simp;refine hK13 _ _ ?_;refine wpList_plain rfl fun K14 hK14=>?_
    go_simp;refine hK14 _ _ ?_;refine wpList_unguard' (by rfl) ?_
    refine wpList_plain rfl fun K15 hK15=>?_
    go_simp;refine hK15 _ _ ?_;refine wpList_unguard' (by rfl) ?_
    refine wpList_plain rfl fun K16 hK16=>?_
    go_simp;refine hK16 _ _ ?_;refine wpList_unguard' (by rfl) ?_
    refine wpList_plain rfl fun K17 hK17=>?_
    go_simp;refine hK17 _ _ ?_;refine wpList_unguard' (by rfl) ?_
    refine wpList_load_mid rfl 131 _ rfl b o rfl vs _ HR0.out Tryz.underlying131 rfl (infoPart' HVL.out) ?_;go_wp2_with fail
    refine HPL.out.mono ?_;rintro e w6 ⟨rfl,hE6⟩;obtain ⟨HF6,HV6,HT6,HE6⟩:=Z4 (HF3.out.ext hE6) (HV3.out.ext hE6) (HT3.out.ext hE6) (HE3.out.trans' hE6);obtain ⟨t0,t1,t2,t3,t4,t5,t6,t7,t8⟩:=X9 HT6.out;obtain ⟨b0,b1,b2⟩:=X3 HF6.out;obtain ⟨f0,f1,f2⟩:=Y3 HF6.out;obtain ⟨c0,c1,c2⟩:=X3 HV6.out;have hrt6:w6.rangeAt b (o + 9) [y0,y1,y2,y3,y4,y5,y6,y7,y8]:=fun j v hv=>(hE6.cell (p:=⟨b,o + 9 + j,none⟩) HB.out).trans (HRT.out j v hv)
    have z0:=hrt6 0 _ rfl;have z1:=hrt6 1 _ rfl;have z2:=hrt6 2 _ rfl;have z3:=hrt6 3 _ rfl;have z4:=hrt6 4 _ rfl;have z5:=hrt6 5 _ rfl;have z6:=hrt6 6 _ rfl;have z7:=hrt6 7 _ rfl;have z8:=hrt6 8 _ rfl;clear hE6 d0 hrt6;cases PB with
    | false =>
     have HR:=hide (show R=((19,a),m1) by rw [HR1.out,HS3.out,if_neg (by decide)])
     go_wp2_with fail
     refine (Qm 0 0 m1 19 a _).mono ?_;rintro e w5 ⟨rfl,hE5⟩;obtain ⟨HF5,HV5,HT5,HE5⟩:=Z4 (HF6.out.ext hE5) (HV6.out.ext hE5) (HT6.out.ext hE5) (HE6.out.trans' hE5);obtain ⟨b0,b1,b2⟩:=X3 HF5.out;obtain ⟨f0,f1,f2⟩:=Y3 HF5.out;unfold wrV;clear hE5;go_wp2_with fail
     exact Qh (r:=((19,a),m1)) (g:=gf) (((HF5.out.set_ 0 _).set_ 1 _).set_ 2 _) rfl rfl rfl ⟨by rw [HR.out],((HE5.out.setCell HLO.out _).setCell HLO.out _).setCell HLO.out _⟩
    | true =>
    have HS4:=hide (HS3.out.trans (if_pos rfl));by_cases e1:mo < 0
    ·have HR:=hide (show R=((20,a),m1) by rw [HR1.out,HS4.out,if_pos (.inl e1)])
     go_wp2_with fail
     refine (Qm 0 0 m1 20 a _).mono ?_;rintro e w5 ⟨rfl,hE5⟩;obtain ⟨HF5,HV5,HT5,HE5⟩:=Z4 (HF6.out.ext hE5) (HV6.out.ext hE5) (HT6.out.ext hE5) (HE6.out.trans' hE5);obtain ⟨b0,b1,b2⟩:=X3 HF5.out;obtain ⟨f0,f1,f2⟩:=Y3 HF5.out;unfold wrV;clear hE5;go_wp2_with fail
     exact Qh (r:=((20,a),m1)) (g:=gf) (((HF5.out.set_ 0 _).set_ 1 _).set_ 2 _) rfl rfl rfl ⟨by rw [HR.out],((HE5.out.setCell HLO.out _).setCell HLO.out _).setCell HLO.out _⟩
    by_cases e2:1024 < mo
    ·have HR:=hide (show R=((20,a),m1) by rw [HR1.out,HS4.out,if_pos (.inr e2)])
     go_wp2_with fail
     refine (Qm 0 0 m1 20 a _).mono ?_;rintro e w5 ⟨rfl,hE5⟩;obtain ⟨HF5,HV5,HT5,HE5⟩:=Z4 (HF6.out.ext hE5) (HV6.out.ext hE5) (HT6.out.ext hE5) (HE6.out.trans' hE5);obtain ⟨b0,b1,b2⟩:=X3 HF5.out;obtain ⟨f0,f1,f2⟩:=Y3 HF5.out;unfold wrV;clear hE5;go_wp2_with fail
     exact Qh (r:=((20,a),m1)) (g:=gf) (((HF5.out.set_ 0 _).set_ 1 _).set_ 2 _) rfl rfl rfl ⟨by rw [HR.out],((HE5.out.setCell HLO.out _).setCell HLO.out _).setCell HLO.out _⟩
    have HR:=hide (show R=CK by rw [HR1.out,HS4.out,if_neg (fun hh=>hh.elim e1 e2)])
    clear HR1 HS4 HS3;go_upto_region 30 with fail
    go_still_tail 8,(by kernel_rfl)
    change wpList _ _ _ _ _ w6.drew
    go_wp2_with fail
    refine (HCHK.out _ HE6.out.drew').mono ?_;rintro e w8 ⟨rfl,hE8'⟩;have hE8:=((Ext.rfl' w6).drew').trans' hE8';obtain ⟨⟨D1,D2⟩,D3⟩:=CK;obtain ⟨HF8,HV8,HT8,HE8⟩:=Z4 (HF6.out.ext hE8) (HV6.out.ext hE8) (HT6.out.ext hE8) (HE6.out.trans' hE8);obtain ⟨b0,b1,b2⟩:=X3 HF8.out;obtain ⟨f0,f1,f2⟩:=Y3 HF8.out;unfold wrV;clear hE8;go_wp2_with fail
    exact Qh (r:=((D1,D2),D3)) (g:=gf) (((HF8.out.set_ 0 _).set_ 1 _).set_ 2 _) rfl rfl rfl ⟨by rw [HR.out],((HE8.out.setCell HLO.out _).setCell HLO.out _).setCell HLO.out _⟩
   ·have hq0:¬ nm.toList = []:=Qn3 hnm0;have HR:=hide (show R=((19,a),m1) by rw [HR1.out,HS2.out,decide_eq_false hnm0,Bool.false_and,if_neg (fun hh=>by cases hh.2)])
    clear hpl hchk hvl hr1 hrt hb hc r0 hpa hs hsb hp3 hvs hlb hcc htt htl hpe HS2 HS1 HR1 hnm HP HSZ HSUB;go_wp2_with fail
    refine (Qm 0 0 m1 19 a _).mono ?_;rintro e w5 ⟨rfl,hE5⟩;obtain ⟨HF5,HV5,HT5,HE5⟩:=Z4 (HF3.out.ext hE5) (HV3.out.ext hE5) (HT3.out.ext hE5) (HE3.out.trans' hE5);obtain ⟨b0,b1,b2⟩:=X3 HF5.out;obtain ⟨f0,f1,f2⟩:=Y3 HF5.out;unfold wrV;clear hE5;go_wp2_with fail
    exact Qh (r:=((19,a),m1)) (g:=gf) (((HF5.out.set_ 0 _).set_ 1 _).set_ 2 _) rfl rfl rfl ⟨by rw [HR.out],((HE5.out.setCell HLO.out _).setCell HLO.out _).setCell HLO.out _⟩
  ·have HR:=hide (show R=((19,a),m1) by rw [HR1.out,HS1.out,if_neg (fun hh=>hn hh.1)])
   have i0:((n:Int) != 1)=true:=by simp; omega
   go_wp2_with fail
   refine (Qm 0 0 m1 19 a _).mono ?_;rintro e w5 ⟨rfl,hE5⟩;obtain ⟨HF5,HV5,HT5,HE5⟩:=Z4 (HF3.out.ext hE5) (HV3.out.ext hE5) (HT3.out.ext hE5) (HE3.out.trans' hE5);obtain ⟨b0,b1,b2⟩:=X3 HF5.out;obtain ⟨f0,f1,f2⟩:=Y3 HF5.out;unfold wrV;clear hE5;go_wp2_with fail
   exact Qh (r:=((19,a),m1)) (g:=gf) (((HF5.out.set_ 0 _).set_ 1 _).set_ 2 _) rfl rfl rfl ⟨by rw [HR.out],((HE5.out.setCell HLO.out _).setCell HLO.out _).setCell HLO.out _⟩
 obtain rfl:kd=1:=by omega
 have HR:=hide (show R=((0,0),m1) by rw [HX5.out,if_neg (by decide),if_neg (by decide),if_neg (by decide),if_neg (by decide),if_neg (by decide)])
 go_wp2_with fail
 exact Qh (r:=((0,0),m1)) (g:=gf) (((HF3.out.set_ 0 _).set_ 1 _).set_ 2 _) rfl rfl rfl ⟨by rw [HR.out],((HE3.out.setCell HLO.out _).setCell HLO.out _).setCell HLO.out _⟩
theorem Qe {gc:Nat} {w w':World} (h:Grw gc w w') (hg:w.heap.size≤gc):Ext w w' :=
 ext_of_grown ⟨h.os,h.tape,h.output,h.size,fun i hi _=>h.block i hi (fun e=>by cases e; exact absurd hi (Nat.not_lt.2 hg))⟩
set_option maxRecDepth 100000 in
theorem Qsx (a lo hi mo s1:Int) (s0:ByteArray) (nn cn cp n:Nat) (An Ap:Option Addr) (p:Nat→PtH) (t:Nat→Ty) (d m:Int) (w:World) (hP:PartsAt w w.heap.size Ap n p t) (hsz:∀ i,i < n→(p i).name.1.size≤maxLen∧Qi (p i).label∧Qi (p i).cl∧Qr (t i)) (hsub:∀ i,i < n→WrgC (t i) (IntKind.i64.wrap (d + 1))) :
  Calls Tryz.prog 95 #[.agg #[.int .i64 0,.int .i64 0,.int .i64 m],.agg #[.int .i64 7,.int .i64 a,.int .i64 lo,.int .i64 hi,.int .i64 mo,.slice An nn cn,.slice Ap n cp,.string s0,.int .i64 s1],.int .i64 d] w (fun e w'=>e = .returned (wrV (if 64 < n then ((8,(p 64).name.2),m) else goTo (stepF 7 n p t (fun i m'=>chk (t i) (IntKind.i64.wrap (d + 1)) m')) n m))∧Ext w w'):=by
 have e1:=IntWalk.i64_left (d + 1);rw [e1] at hsub ⊢;clear e1;obtain ⟨w0,hw0⟩:=V1 (((w.alloc (.cells #[.int .i64 0,.int .i64 0,.int .i64 m] 124)).alloc (.cells #[.int .i64 7,.int .i64 a,.int .i64 lo,.int .i64 hi,.int .i64 mo,.slice An nn cn,.slice Ap n cp,.string s0,.int .i64 s1] 29)).alloc (.cells #[.int .i64 0,.int .i64 0,.int .i64 0] 124));have hV:Blk w0 w.heap.size 124 #[.int .i64 0,.int .i64 0,.int .i64 m]:=by rw [hw0]; exact ((Blk.new _ _ _).alloc _).alloc _
 have hT:Blk w0 (w.heap.size + 1) 29 #[.int .i64 7,.int .i64 a,.int .i64 lo,.int .i64 hi,.int .i64 mo,.slice An nn cn,.slice Ap n cp,.string s0,.int .i64 s1]:=by
  rw [hw0]; have:=Blk.new (w.alloc (.cells #[.int .i64 0,.int .i64 0,.int .i64 m] 124)) 29 #[.int .i64 7,.int .i64 a,.int .i64 lo,.int .i64 hi,.int .i64 mo,.slice An nn cn,.slice Ap n cp,.string s0,.int .i64 s1]; exact Blk.alloc (by simpa only [World.size_alloc] using this) _
 have hF:Blk w0 (w.heap.size + 2) 124 #[.int .i64 0,.int .i64 0,.int .i64 0]:=by
  rw [hw0]; have:=Blk.new ((w.alloc (.cells #[.int .i64 0,.int .i64 0,.int .i64 m] 124)).alloc (.cells #[.int .i64 7,.int .i64 a,.int .i64 lo,.int .i64 hi,.int .i64 mo,.slice An nn cn,.slice Ap n cp,.string s0,.int .i64 s1] 29)) 124 #[.int .i64 0,.int .i64 0,.int .i64 0]; simpa only [World.size_alloc] using this
 have hE:Ext w w0:=by rw [hw0]; exact (((Ext.rfl' w).alloc nL _).alloc (by simp only [World.size_alloc]; omega) _).alloc (by simp only [World.size_alloc]; omega) _
 have hs0:w0.heap.size=w.heap.size + 3:=by rw [hw0]; simp only [World.size_alloc]
 have n1:w.heap.size + 2≠w.heap.size:=by omega
 have n2:w.heap.size + 1≠w.heap.size:=by omega
 have hlo:w.heap.size≤w.heap.size + 2:=by omega
 have hgl:w.heap.size≤w.heap.size:=Nat.le_refl _;have hP0:=hP.ext hE;obtain ⟨gf,hgf,gt,hgt,gw,hgw⟩:=V3 (w.heap.size + 2) (w.heap.size + 1) (w.heap.size);rw [← hgf] at hF hlo n1;rw [← hgt] at hT n2;have hgl2:gw < w0.heap.size:=by omega
 rw [← hgw] at hV;have n1':gf≠gw:=by rw [hgw]; exact n1
 have n2':gt≠gw:=by rw [hgw]; exact n2
 have hgl':w.heap.size≤gw:=by rw [hgw]; exact hgl
 obtain ⟨HW,HGF,HGT,HGW,HF,HE,HW0,HT⟩:=Z8 hw0 hgf hgt hgw hF hE hV hT;obtain ⟨HN,HN2,HLO,HGL,HGL2⟩:=Z5 n1' n2' hlo hgl' hgl2;have HG0:=hide (show Grw gw w0 w0 from .of_ext (Ext.rfl' _))
 have HF0:=HF;have HT0:=HT;obtain ⟨b0,b1,b2⟩:=X3 HF0.out;obtain ⟨c0,c1,c2⟩:=X3 HW0.out;obtain ⟨t0,t1,-,-,-,-,t6⟩:=X7 HT0.out;obtain ⟨f0,f1,f2⟩:=Y3 HF0.out;obtain ⟨g0,g1,g2⟩:=Y3 HW0.out;clear hw0 hF hE hV hT n1 n2 n1' n2' hlo hgf hgt hgw hgl hgl' hgl2 hs0;by_cases z1:64 < n
 ·obtain ⟨R,hR⟩:∃ R:Wr,R=((8,(p 64).name.2),m):=⟨_,rfl⟩;rw [if_pos z1,← hR];obtain ⟨b,o,rfl,hbs,_⟩:=hP0 (by omega)
  obtain ⟨_,d1⟩:=Qc5 hP0 rfl z1;obtain ⟨x,hx⟩:=V1 ((p 64).name.2);rw [← hx] at d1 hR;have HR:=hide hR;have i0:((n:Int) == 0)=false:=by simp; omega
  have i1:(64:Int) < (n:Int):=by omega
  clear hP hP0 hsz hsub hR hx hbs;go_enter Tryz.func95,Tryz.ntmps95
  go_upto_region 1 with fail
  rw [← HW.out,← HGF.out,← HGT.out,← HGW.out];go_upto_region 4 with fail
  go_still_tail 7,(by kernel_rfl)
  change wpList _ _ _ _ _ w0.drew
  go_wp2_with fail
  refine (Qm 0 0 m 8 x _).mono ?_;rintro e w5 ⟨rfl,hE5'⟩;have hE5:=((Ext.rfl' w0).drew').trans' hE5';obtain ⟨HG5,HW5⟩:=Z2 (HG0.out.ext hE5) (HW0.out.ext hE5);obtain ⟨HF5,HT5⟩:=Z2 (HG5.out.blk HF.out HN.out) (HG5.out.blk HT.out HN2.out);obtain ⟨b0,b1,b2⟩:=X3 HF5.out;obtain ⟨c0,c1,c2⟩:=X3 HW5.out;obtain ⟨t0,t1,-,-,-,-,t6⟩:=X7 HT5.out;obtain ⟨f0,f1,f2⟩:=Y3 HF5.out;obtain ⟨g0,g1,g2⟩:=Y3 HW5.out;unfold wrV;clear hE5;go_wp2_with fail
  exact Qh (r:=((8,x),m)) (g:=gf) (((HF5.out.set_ 0 _).set_ 1 _).set_ 2 _) rfl rfl rfl ⟨by rw [HR.out],(((Qe ((Grw.of_ext HE.out).trans HG5.out) HGL.out).setCell HLO.out _).setCell HLO.out _).setCell HLO.out _⟩
 rw [if_neg z1];obtain ⟨g,hg⟩:=V1 (stepF 7 n p t (fun i m'=>chk (t i) (wrap64 (d + 1)) m'))
 rw [← hg];obtain ⟨HSTEP,HBAD⟩:=Z2 (fun k m' (hl:listE (Qd n p) k=0)=>(show g k m'=Qag false (p k) (t k) (fun m=>chk (t k) (wrap64 (d + 1)) m) m' by rw [hg]; exact Qcl false (by decide) hl)) (fun k m' (hl:listE (Qd n p) k≠0)=>(show g k m'=((listE (Qd n p) k,(p k).name.2),m') by rw [hg]; exact Qc6 hl))
 have hz:∀ i m',i < n→(g i m').1.1=0→(g i m').1=(0,0):=fun i m' _ e=>by rw [hg] at e ⊢; exact Qdn e
 obtain ⟨HZ,HPP,HSZ,HSUB⟩:=Z4 (fun (h:(goTo g n m).1.1=0)=>Qc2 hz nL h) hP hsz hsub
 have i0:((n:Int) == 0)=false∨n=0:=by by_cases h:n=0; exact .inr h; exact .inl (by simp; omega)
 have i1:¬ (64:Int) < (n:Int):=by omega
 have H64:=hide z1;clear hg hz hP hP0 hsz hsub z1;clear i0;go_enter Tryz.func95,Tryz.ntmps95
 go_upto_region 1 with fail
 rw [← HW.out,← HGF.out,← HGT.out,← HGW.out];go_wp2_with fail
 clear b0 b1 b2 f0 f1 f2 c0 c1 c2 g0 g1 g2 t0 t1 t6;go_loopw [7] (fun i wr=>∃ k:Nat,k≤n∧i = .int .i64 k∧Grw gw w0 wr∧(goTo g k m).1.1=0∧Blk wr gw 124 #[.int .i64 0,.int .i64 0,.int .i64 (goTo g k m).2]) (fun i _=>n - (intOf i).toNat)
 case atStart=>exact ⟨0,Nat.zero_le _,rfl,.of_ext (Ext.rfl' _),rfl,HW0.out⟩
 case round =>
  obtain ⟨k,hk,rfl,hG,hgo,hWk⟩:=hrel;have HG4:=hide hG;have hEw:Ext w wr:=Qe ((Grw.of_ext HE.out).trans hG) HGL.out;by_cases hlt:k < n
  ·obtain ⟨b,o,rfl,hbs,hcell⟩:=HPP.out (by omega)
   obtain ⟨vs,hr0,hpa⟩:=hcell k hlt;have hs:=HSZ.out k hlt;have hr1:wr.rangeAt b (o + k * 18) vs:=fun j v hv=>(hEw.cell (p:=⟨b,o + k * 18 + j,none⟩) hbs).trans (hr0 j v hv)
   have hvl:vs.length=18:=hpa.len;have hvo:vs.toArray.all (·.oneCell')=true:=hpa.one;obtain ⟨Al,cl,Ac,cc,vt,hvs,hlb,hcc,htt⟩:=id hpa;have hv0:vs[0]? = some (.string (p k).name.1):=by rw [hvs]; rfl
   have hv1:vs[1]? = some (.int .i64 (p k).name.2):=by rw [hvs]; rfl
   have hv2:vs[2]? = some (.bool (p k).bare):=by rw [hvs]; rfl
   have hv3:vs[3]? = some (.slice Al (p k).label.length cl):=by rw [hvs]; rfl
   have hv4:vs[4]? = some (.int .i64 (p k).wide):=by rw [hvs]; rfl
   have htl:vt.length=9:=by obtain ⟨y0,y1,y2,y3,y4,y5,y6,y7,y8,e⟩:=htt.nine; rw [e]; rfl
   have hrg:∀ w1 gv,Blk w1 gv 131 vs.toArray→w1.rangeAt gv 9 vt:=fun w1 gv hB j v hv=>by
    have:=Qv hB (9 + j) v (by rw [hvs,List.getElem?_append_right (by show 9≤9 + j; omega)]; rw [show 9 + j - (ptV (p k) Al cl Ac cc).length=j by show 9 + j - 9=j; omega]; exact hv)
    rwa [Nat.zero_add] at this
   have hnms:=fun (w1:World) (hE:Ext w w1)=>Qgc (some ⟨b,o,none⟩) cp n p t w1 (PartsAt.ext (fun h=>HPP.out h) hE) (by have:=H64.out; omega)
   have hlst:=fun (w1:World) (A:Option Addr) (c:Nat) (h:WdsAt w1 w1.heap.size A (Qbw n p))=>Qdb A c n k (Qbw n p) w1 h (Qby n p).symm hlt (by have:=H64.out; omega) (fun j=>by
    unfold wNm;rcases Nat.lt_or_ge j n with hj | hj
    ·rw [Qn1 hj]; exact (HSZ.out j hj).1
    ·rw [List.getD_eq_getElem?_getD,List.getElem?_eq_none (by rw [Qby]; exact hj)]; exact Nat.zero_le _)
   have hlab:=fun w1 (hE:Ext w w1)=>Qcj Al cl (p k).label.length (p k).label w1 (hlb.ext hE) rfl hs.2.1
   have hco:=fun w1 (hE:Ext w w1)=>Qfw (p k) (t k) w1 vs (hpa.ext hE) hs.2.2.1
   have hzero:=fun w1 (hE:Ext w w1)=>Qlj (t k) w1 vt (htt.ext hE) hs.2.2.2
   have hpl:=fun w1 (hE:Ext w w1)=>Qc4 (p k) (zPt wd0 true) (t k) zTy w1 vs (ptV (zPt wd0 true) none 0 none 0 ++ zCells) (hpa.ext hE) (Qd4 _ _ _ _) hs.2.1 hs.2.2.1
   have hwrg:=fun w1 (hE:Ext w w1)=>HSUB.out k hlt (goTo g k m).2 w1 vt (htt.ext hE)
   have hbad:=fun hh=>HBAD.out k (goTo g k m).2 hh
   have hstp:=fun hh=>HSTEP.out k (goTo g k m).2 hh
   have hnx:goTo g (k + 1) m=g k (goTo g k m).2:=Qae hgo;have hstk:(goTo g (k + 1) m).1.1≠0→goTo g n m=goTo g (k + 1) m:=Qa1 hlt;have hpr:Qag false (p k) (t k) (fun m=>chk (t k) (wrap64 (d + 1)) m) (goTo g k m).2=if (p k).bare=true then (if false=true∧(Q5 (p k) (zPt wd0 true) && Qu (t k) zTy)=true then ((0,0),(goTo g k m).2) else ((19,(p k).name.2),(goTo g k m).2)) else if (Qaf (p k)).1≠0 then (Qaf (p k),(goTo g k m).2) else chk (t k) (wrap64 (d + 1)) (goTo g k m).2:=by
    unfold Qag;rw [show Qbb (p k) (t k)=(Q5 (p k) (zPt wd0 true) && Qu (t k) zTy) by unfold Qbb Q3; rw [show decide ((p k).name.1=(zPt (p k).name true).name.1)=true from decide_eq_true rfl,Bool.true_and]; rfl]
   have hckz:∀ {m'},(chk (t k) (wrap64 (d + 1)) m').1.1=0→(chk (t k) (wrap64 (d + 1)) m').1=(0,0):=fun e=>Qhq (t k) e
   have hckz:=@hckz (goTo g k m).2;have hpf:Qaf (p k)=if (p k).wide < 0∨64 < (p k).wide then (20,(p k).name.2) else if (Qo (p k).label).1=0 then Qai (p k) else Qo (p k).label:=rfl;rw [Qll] at hlst;rw [hpr] at hstp;generalize Q5 (p k) (zPt wd0 true)=PB at hpl hstp
   generalize Qu (t k) zTy=ZB at hzero hstp
   generalize Qaf (p k)=PF at hstp hpf
   generalize Qo (p k).label=LF at hlab hpf
   generalize Qai (p k)=CF at hco hpf
   generalize chk (t k) (wrap64 (d + 1)) (goTo g k m).2=CK at hstp hwrg hckz
   obtain ⟨NX,hNX,R,hRn⟩:=V2 (goTo g (k + 1) m) (goTo g n m);rw [← hNX] at hnx hstk;rw [← hRn] at hstk;obtain ⟨HNXE,HRN⟩:=Z2 hNX hRn;clear hNX hRn hpr;generalize (goTo g k m).2=mk at hWk hbad hstp hnx hwrg
   obtain ⟨y,hy,x,hx,br,hbr,wi,hwi,nl,hnl,ev,hev⟩:=V6 ((p k).name.2) ((p k).name.1) ((p k).bare) ((p k).wide) ((p k).label.length) (listE (Qd n p) k);rw [← hx] at hv0;rw [← hy] at hbad hv1 hstp hpf;rw [← hbr] at hv2 hstp;rw [← hnl] at hv3 hlab;rw [← hwi] at hv4 hpf;rw [← hev] at hbad hstp hlst;obtain ⟨w1,hw1⟩:=V1 (wr.alloc (.cells vs.toArray 131));have hE1:Ext wr w1:=by rw [hw1]; exact (Ext.rfl' wr).alloc nL _
   have hB1:Blk w1 wr.heap.size 131 vs.toArray:=by rw [hw1]; exact Blk.new _ _ _
   obtain ⟨gv,hgv⟩:=V1 (wr.heap.size);rw [← hgv] at hB1;obtain ⟨HV0,HV1,HV2,HV3,HV4,HP1,HW4,HG1⟩:=Z8 hv0 hv1 hv2 hv3 hv4 hB1 hWk (HG4.out.ext hE1);obtain ⟨HW1,HF1,HT1⟩:=Z3 (HW4.out.ext hE1) (HG1.out.blk HF.out HN.out) (HG1.out.blk HT.out HN2.out);have ht6:=(HG4.out.blk HT.out HN2.out).cell 6;simp only [gA,gH,gS] at ht6;obtain ⟨b0,b1,b2⟩:=X3 HF1.out;obtain ⟨c0,c1,c2⟩:=X3 HW1.out;obtain ⟨t0,t1,-,-,-,-,t6⟩:=X7 HT1.out;obtain ⟨f0,f1,f2⟩:=Y3 HF1.out;obtain ⟨g0,g1,g2⟩:=Y3 HW1.out;have v0:=blk_at HP1.out HV0.out;have v1:=blk_at HP1.out HV1.out;have v2:=blk_at HP1.out HV2.out;have v3:=blk_at HP1.out HV3.out;have v4:=blk_at HP1.out HV4.out;obtain ⟨HAL,HAG,HNMS,HLST,HLAB,HCO,HZERO⟩:=Z7 hw1 hgv hnms hlst hlab hco hzero;have HPL:=hide (show ∀ w1,Ext w w1→Calls Tryz.prog 94 #[.agg vs.toArray,.agg #[.string ⟨#[]⟩,.int .i64 0,.bool true,.slice none 0 0,.int .i64 0,.int .i64 0,.int .i64 0,.int .i64 0,.slice none 0 0,.int .i64 0,.int .i64 0,.int .i64 0,.int .i64 0,.int .i64 0,.slice none 0 0,.slice none 0 0,.string ⟨#[]⟩,.int .i64 0]] w1 (fun e w'=>e = .returned (.bool PB)∧Ext w1 w') from hpl)
   obtain ⟨HWRG,HBADK,HSTP,HNX,HSTK,HCKZ,HPF,HVL⟩:=Z8 hwrg hbad hstp hnx hstk hckz hpf hvl;obtain ⟨HVO,HTL,HR1,HRG⟩:=Z4 hvo htl hr1 hrg;have i2:=nZ k;have i3:(k:Int) < (n:Int):=by omega
   clear hw1 hE1 hB1 hgv hnms hlst hlab hco hzero hpl hwrg hbad hstp hnx hstk hckz hpf hvl hvo htl hr1 hr0 hrg hv0 hv1 hv2 hv3 hv4 hpa hlb hcc htt hvs hcell hs hgo hWk hG hEw hx hy hbr hwi hnl hev HZ hbs;have t6:=ht6;go_upto_region 8 with fail
   refine wp_region_lit ?_;refine wpList_plain rfl fun K1 hK1=>?_
   go_simp;refine hK1 _ _ ?_;refine wpList_plain rfl fun K2 hK2=>?_
   go_simp;refine hK2 _ _ ?_;refine wpList_plain rfl fun K3 hK3=>?_
   go_simp;refine hK3 _ _ ?_;refine wpList_plain rfl fun K4 hK4=>?_
   go_simp;refine hK4 _ _ ?_;refine wpList_load_mid rfl 131 _ rfl b (o + k * 18) rfl vs _ HR1.out Tryz.underlying131 rfl (infoPart' HVL.out) ?_;refine wpList_plain rfl fun K5 hK5=>?_
   go_simp;refine hK5 _ _ ?_;refine Qc rfl 131 _ _ rfl _ vs.toArray rfl rfl (Qan HVL.out) (by show _=vs.length; rw [HVL.out]; rfl) HVO.out ?_
   go_upto_region 9 with fail
   rw [← HAL.out,← HAG.out];obtain ⟨-,-,-,-,-,-,t6⟩:=X7 HT1.out;clear ht6;go_wp2_with fail
   refine (HNMS.out _ (Qe ((Grw.of_ext HE.out).trans HG1.out) HGL.out)).mono ?_;rintro e w2 ⟨A,c,rfl,hA,hE2⟩;have hE2g:=hE2;obtain ⟨HG2,HW2,HP2,HLI⟩:=Z4 (HG1.out.ext hE2) (HW1.out.ext hE2) (HP1.out.ext hE2) (HLST.out w2 A c hA);clear hA hE2 hE2g b0 b1 b2 f0 f1 f2 c0 c1 c2 g0 g1 g2 t0 t1 t6 v0 v1 v2 v3 v4;go_wp2_with fail
   refine HLI.out.mono ?_;rintro e w3 ⟨rfl,hE3⟩;obtain ⟨HG3,HW3⟩:=Z2 (HG2.out.ext hE3) (HW2.out.ext hE3);obtain ⟨HF3,HT3,HP3⟩:=Z3 (HG3.out.blk HF.out HN.out) (HG3.out.blk HT.out HN2.out) (HP2.out.ext hE3);obtain ⟨b0,b1,b2⟩:=X3 HF3.out;obtain ⟨c0,c1,c2⟩:=X3 HW3.out;obtain ⟨t0,t1,-,-,-,-,t6⟩:=X7 HT3.out;obtain ⟨f0,f1,f2⟩:=Y3 HF3.out;obtain ⟨g0,g1,g2⟩:=Y3 HW3.out;have v0:=blk_at HP3.out HV0.out;have v1:=blk_at HP3.out HV1.out;have v2:=blk_at HP3.out HV2.out;have v3:=blk_at HP3.out HV3.out;have v4:=blk_at HP3.out HV4.out;clear hE3;by_cases he:ev=0
   ·have HPR:=hide (HSTP.out he);subst he;clear HBADK HSTP;cases br with
    | true =>
     have HPR2:=hide (show g k mk=((19,y),mk) by rw [HPR.out,if_pos rfl,if_neg (fun hh=>by cases hh.1)])
     have HR:=hide (show R=((19,y),mk) by rw [HSTK.out (by rw [HNX.out,HPR2.out]; show (19:Int)≠0; decide),HNX.out,HPR2.out])
     clear HSTK HNX HPR HPR2;go_wp2_with fail
     refine (Qm 0 0 mk 19 y _).mono ?_;rintro e w5 ⟨rfl,hE5⟩;obtain ⟨HG5,HW5⟩:=Z2 (HG3.out.ext hE5) (HW3.out.ext hE5);obtain ⟨HF5,HT5,HP5⟩:=Z3 (HG5.out.blk HF.out HN.out) (HG5.out.blk HT.out HN2.out) (HP3.out.ext hE5);obtain ⟨b0,b1,b2⟩:=X3 HF5.out;obtain ⟨c0,c1,c2⟩:=X3 HW5.out;obtain ⟨t0,t1,-,-,-,-,t6⟩:=X7 HT5.out;obtain ⟨f0,f1,f2⟩:=Y3 HF5.out;obtain ⟨g0,g1,g2⟩:=Y3 HW5.out;have v0:=blk_at HP5.out HV0.out;have v1:=blk_at HP5.out HV1.out;have v2:=blk_at HP5.out HV2.out;have v3:=blk_at HP5.out HV3.out;have v4:=blk_at HP5.out HV4.out;unfold wrV;clear hE5;go_wp2_with fail
     exact Qh (r:=((19,y),mk)) (g:=gf) (((HF5.out.set_ 0 _).set_ 1 _).set_ 2 _) rfl rfl rfl ⟨by rw [← HRN.out,HR.out],(((Qe ((Grw.of_ext HE.out).trans HG5.out) HGL.out).setCell HLO.out _).setCell HLO.out _).setCell HLO.out _⟩
    | false =>
     have HPR1:=hide (show g k mk=if PF.1≠0 then (PF,mk) else CK by rw [HPR.out,if_neg (by decide)])
     clear HPR;obtain ⟨w6,hw6⟩:=V1 (w3.alloc (.cells #[.int .i64 0,.int .i64 0] 34));have hE6:Ext w3 w6:=by rw [hw6]; exact (Ext.rfl' w3).alloc nL _
     have hz6:=bN hw6;obtain ⟨gz,hgz⟩:=V1 (w3.heap.size);rw [← hgz] at hz6;have hzn:gz≠gw:=by have:=HG3.out.sz; have:=HGL2.out; omega
     have hzf:gz≠gf:=by have:=HG3.out.sz; have:=HF.out.lt; omega
     have hzl:w.heap.size≤gz:=by have:=HG3.out.sz; have:=HGL2.out; have:=HGL.out; omega
     have hzl0:w0.heap.size≤gz:=by have:=HG3.out.sz; omega
     have hzv:gv≠gz:=by have:=HP3.out.lt; omega
     obtain ⟨HZV,HZB6,HZN,HZF,HZL0,HAL6,HAG6,HG6⟩:=Z8 hzv hz6 hzn hzf hzl0 hw6 hgz (HG3.out.ext hE6);obtain ⟨HW6,HF6,HT6,HP6⟩:=Z4 (HW3.out.ext hE6) (HG6.out.blk HF.out HN.out) (HG6.out.blk HT.out HN2.out) (HP3.out.ext hE6);obtain ⟨b0,b1,b2⟩:=X3 HF6.out;obtain ⟨c0,c1,c2⟩:=X3 HW6.out;obtain ⟨t0,t1,-,-,-,-,t6⟩:=X7 HT6.out;obtain ⟨f0,f1,f2⟩:=Y3 HF6.out;obtain ⟨g0,g1,g2⟩:=Y3 HW6.out;have v0:=blk_at HP6.out HV0.out;have v1:=blk_at HP6.out HV1.out;have v2:=blk_at HP6.out HV2.out;have v3:=blk_at HP6.out HV3.out;have v4:=blk_at HP6.out HV4.out;obtain ⟨u0,u1⟩:=X2 HZB6.out;obtain ⟨x0,x1⟩:=Y2 HZB6.out;clear hw6 hE6 hz6 hgz hzv hzn hzf hzl hzl0;go_upto_region 16 with fail
     rw [← HAL6.out,← HAG6.out];by_cases e1:wi < 0
     ·have HPF2:=hide (show PF=(20,y) by rw [HPF.out,if_pos (.inl e1)])
      have HPR2:=hide (show g k mk=((20,y),mk) by rw [HPR1.out,HPF2.out]; rfl)
      have HR:=hide (show R=((20,y),mk) by rw [HSTK.out (by rw [HNX.out,HPR2.out]; show (20:Int)≠0; decide),HNX.out,HPR2.out])
      clear HSTK HNX HPR1 HPR2 HPF HPF2;go_upto_region 17 with fail
      obtain ⟨w7,hw7⟩:=V1 ((w6.setCell ⟨gz,0,none⟩ (.int .i64 20)).setCell ⟨gz,1,none⟩ (.int .i64 y));have HG7:=hide (show Grw gw w0 w7 by rw [hw7]; exact (HG6.out.set (.inl HZL0.out) _).set (.inl HZL0.out) _)
      have HW7:=hide (show Blk w7 gw 124 #[.int .i64 0,.int .i64 0,.int .i64 mk] by rw [hw7]; exact (HW6.out.far HZN.out.symm _).far HZN.out.symm _)
      have HP7:=hide (show Blk w7 gv 131 vs.toArray by rw [hw7]; exact (HP6.out.far HZV.out _).far HZV.out _)
      have HZB7:=hide (show Blk w7 gz 34 #[.int .i64 20,.int .i64 y] by rw [hw7]; exact (HZB6.out.set_ 0 _).set_ 1 _)
      obtain ⟨HF7,HT7,HS7⟩:=Z3 (HG7.out.blk HF.out HN.out) (HG7.out.blk HT.out HN2.out) hw7;obtain ⟨u0,u1⟩:=X2 HZB6.out;obtain ⟨x0,x1⟩:=Y2 HZB6.out;clear hw7;go_upto_region 18 with fail
      rw [← HS7.out];obtain ⟨u0,u1⟩:=X2 HZB7.out;obtain ⟨x0,x1⟩:=Y2 HZB7.out;obtain ⟨b0,b1,b2⟩:=X3 HF7.out;obtain ⟨c0,c1,c2⟩:=X3 HW7.out;obtain ⟨t0,t1,-,-,-,-,t6⟩:=X7 HT7.out;obtain ⟨f0,f1,f2⟩:=Y3 HF7.out;obtain ⟨g0,g1,g2⟩:=Y3 HW7.out;have v0:=blk_at HP7.out HV0.out;have v1:=blk_at HP7.out HV1.out;have v2:=blk_at HP7.out HV2.out;have v3:=blk_at HP7.out HV3.out;have v4:=blk_at HP7.out HV4.out;go_wp2_with fail
      exact Qh (r:=((20,y),mk)) (g:=gf) (((HF7.out.set_ 0 _).set_ 1 _).set_ 2 _) rfl rfl rfl ⟨by rw [← HRN.out,HR.out],(((Qe ((Grw.of_ext HE.out).trans HG7.out) HGL.out).setCell HLO.out _).setCell HLO.out _).setCell HLO.out _⟩
     by_cases e2:64 < wi
     ·have HPF2:=hide (show PF=(20,y) by rw [HPF.out,if_pos (.inr e2)])
      have HPR2:=hide (show g k mk=((20,y),mk) by rw [HPR1.out,HPF2.out]; rfl)
      have HR:=hide (show R=((20,y),mk) by rw [HSTK.out (by rw [HNX.out,HPR2.out]; show (20:Int)≠0; decide),HNX.out,HPR2.out])
      clear HSTK HNX HPR1 HPR2 HPF HPF2;go_upto_region 17 with fail
      obtain ⟨w7,hw7⟩:=V1 ((w6.setCell ⟨gz,0,none⟩ (.int .i64 20)).setCell ⟨gz,1,none⟩ (.int .i64 y));have HG7:=hide (show Grw gw w0 w7 by rw [hw7]; exact (HG6.out.set (.inl HZL0.out) _).set (.inl HZL0.out) _)
      have HW7:=hide (show Blk w7 gw 124 #[.int .i64 0,.int .i64 0,.int .i64 mk] by rw [hw7]; exact (HW6.out.far HZN.out.symm _).far HZN.out.symm _)
      have HP7:=hide (show Blk w7 gv 131 vs.toArray by rw [hw7]; exact (HP6.out.far HZV.out _).far HZV.out _)
      have HZB7:=hide (show Blk w7 gz 34 #[.int .i64 20,.int .i64 y] by rw [hw7]; exact (HZB6.out.set_ 0 _).set_ 1 _)
      obtain ⟨HF7,HT7,HS7⟩:=Z3 (HG7.out.blk HF.out HN.out) (HG7.out.blk HT.out HN2.out) hw7;obtain ⟨u0,u1⟩:=X2 HZB6.out;obtain ⟨x0,x1⟩:=Y2 HZB6.out;clear hw7;go_upto_region 18 with fail
      rw [← HS7.out];obtain ⟨u0,u1⟩:=X2 HZB7.out;obtain ⟨x0,x1⟩:=Y2 HZB7.out;obtain ⟨b0,b1,b2⟩:=X3 HF7.out;obtain ⟨c0,c1,c2⟩:=X3 HW7.out;obtain ⟨t0,t1,-,-,-,-,t6⟩:=X7 HT7.out;obtain ⟨f0,f1,f2⟩:=Y3 HF7.out;obtain ⟨g0,g1,g2⟩:=Y3 HW7.out;have v0:=blk_at HP7.out HV0.out;have v1:=blk_at HP7.out HV1.out;have v2:=blk_at HP7.out HV2.out;have v3:=blk_at HP7.out HV3.out;have v4:=blk_at HP7.out HV4.out;go_wp2_with fail
      exact Qh (r:=((20,y),mk)) (g:=gf) (((HF7.out.set_ 0 _).set_ 1 _).set_ 2 _) rfl rfl rfl ⟨by rw [← HRN.out,HR.out],(((Qe ((Grw.of_ext HE.out).trans HG7.out) HGL.out).setCell HLO.out _).setCell HLO.out _).setCell HLO.out _⟩
     have HPF2:=hide (show PF=if LF.1=0 then CF else LF by rw [HPF.out,if_neg (fun hh=>hh.elim e1 e2)])
     clear HPF;go_upto_region 19 with fail
     clear b0 b1 b2 f0 f1 f2 c0 c1 c2 g0 g1 g2 t0 t1 t6 u0 u1 x0 x1;go_wp2_with fail
     refine (HLAB.out _ (Qe ((Grw.of_ext HE.out).trans HG6.out) HGL.out)).mono ?_;rintro e w7 ⟨rfl,hE7⟩;obtain ⟨L1,L2⟩:=LF;obtain ⟨HG7,HW7,HP7,HZB7⟩:=Z4 (HG6.out.ext hE7) (HW6.out.ext hE7) (HP6.out.ext hE7) (HZB6.out.ext hE7);obtain ⟨w8,hw8⟩:=V1 ((w7.setCell ⟨gz,0,none⟩ (.int .i64 L1)).setCell ⟨gz,1,none⟩ (.int .i64 L2));have HG8:=hide (show Grw gw w0 w8 by rw [hw8]; exact (HG7.out.set (.inl HZL0.out) _).set (.inl HZL0.out) _)
     have HW8:=hide (show Blk w8 gw 124 #[.int .i64 0,.int .i64 0,.int .i64 mk] by rw [hw8]; exact (HW7.out.far HZN.out.symm _).far HZN.out.symm _)
     have HP8:=hide (show Blk w8 gv 131 vs.toArray by rw [hw8]; exact (HP7.out.far HZV.out _).far HZV.out _)
     have HZB8:=hide (show Blk w8 gz 34 #[.int .i64 L1,.int .i64 L2] by rw [hw8]; exact (HZB7.out.set_ 0 _).set_ 1 _)
     obtain ⟨HF8,HT8,HS8⟩:=Z3 (HG8.out.blk HF.out HN.out) (HG8.out.blk HT.out HN2.out) hw8;obtain ⟨u0,u1⟩:=X2 HZB7.out;obtain ⟨x0,x1⟩:=Y2 HZB7.out;clear hw8 hE7;unfold fltV;go_upto_region 20 with fail
     rw [← HS8.out];obtain ⟨u0,u1⟩:=X2 HZB8.out;obtain ⟨x0,x1⟩:=Y2 HZB8.out;obtain ⟨b0,b1,b2⟩:=X3 HF8.out;obtain ⟨c0,c1,c2⟩:=X3 HW8.out;obtain ⟨t0,t1,-,-,-,-,t6⟩:=X7 HT8.out;obtain ⟨f0,f1,f2⟩:=Y3 HF8.out;obtain ⟨g0,g1,g2⟩:=Y3 HW8.out;have v0:=blk_at HP8.out HV0.out;have v1:=blk_at HP8.out HV1.out;have v2:=blk_at HP8.out HV2.out;have v3:=blk_at HP8.out HV3.out;have v4:=blk_at HP8.out HV4.out;by_cases l1:L1=0
     ·subst l1;have HPF3:=hide (show PF=CF by rw [HPF2.out]; rfl)
      clear HPF2;go_upto_region 21 with fail
      refine wp_region_lit ?_;refine wpList_load_mid rfl 131 _ rfl gv 0 rfl vs _ (Qv HP8.out) Tryz.underlying131 rfl (infoPart' HVL.out) ?_;clear b0 b1 b2 f0 f1 f2 c0 c1 c2 g0 g1 g2 t0 t1 t6 u0 u1 x0 x1 v0 v1 v2 v3 v4;go_wp2_with fail
      refine (HCO.out _ (Qe ((Grw.of_ext HE.out).trans HG8.out) HGL.out)).mono ?_;rintro e w9 ⟨rfl,hE9⟩;obtain ⟨C1,C2⟩:=CF;obtain ⟨HG9,HW9,HP9,HZB9⟩:=Z4 (HG8.out.ext hE9) (HW8.out.ext hE9) (HP8.out.ext hE9) (HZB8.out.ext hE9);obtain ⟨w10,hw10⟩:=V1 ((w9.setCell ⟨gz,0,none⟩ (.int .i64 C1)).setCell ⟨gz,1,none⟩ (.int .i64 C2));have HG10:=hide (show Grw gw w0 w10 by rw [hw10]; exact (HG9.out.set (.inl HZL0.out) _).set (.inl HZL0.out) _)
      have HW10:=hide (show Blk w10 gw 124 #[.int .i64 0,.int .i64 0,.int .i64 mk] by rw [hw10]; exact (HW9.out.far HZN.out.symm _).far HZN.out.symm _)
      have HP10:=hide (show Blk w10 gv 131 vs.toArray by rw [hw10]; exact (HP9.out.far HZV.out _).far HZV.out _)
      have HZB10:=hide (show Blk w10 gz 34 #[.int .i64 C1,.int .i64 C2] by rw [hw10]; exact (HZB9.out.set_ 0 _).set_ 1 _)
      obtain ⟨HF10,HT10,HS10⟩:=Z3 (HG10.out.blk HF.out HN.out) (HG10.out.blk HT.out HN2.out) hw10;obtain ⟨u0,u1⟩:=X2 HZB9.out;obtain ⟨x0,x1⟩:=Y2 HZB9.out;clear hw10 hE9;unfold fltV;go_upto_region 22 with fail
      rw [← HS10.out];obtain ⟨u0,u1⟩:=X2 HZB10.out;obtain ⟨x0,x1⟩:=Y2 HZB10.out;obtain ⟨b0,b1,b2⟩:=X3 HF10.out;obtain ⟨c0,c1,c2⟩:=X3 HW10.out;obtain ⟨t0,t1,-,-,-,-,t6⟩:=X7 HT10.out;obtain ⟨f0,f1,f2⟩:=Y3 HF10.out;obtain ⟨g0,g1,g2⟩:=Y3 HW10.out;have v0:=blk_at HP10.out HV0.out;have v1:=blk_at HP10.out HV1.out;have v2:=blk_at HP10.out HV2.out;have v3:=blk_at HP10.out HV3.out;have v4:=blk_at HP10.out HV4.out;by_cases l2:C1=0
      ·subst l2;have HPR2:=hide (show g k mk=CK by rw [HPR1.out,HPF3.out]; rfl)
       clear HPR1 HPF3;go_upto_region 24 with fail
       refine wp_region_lit ?_;refine wpList_plain rfl fun K31 hK31=>?_
       go_simp;refine hK31 _ _ ?_;refine wpList_plain rfl fun K32 hK32=>?_
       go_simp;refine hK32 _ _ ?_;refine wpList_load_mid rfl 29 _ rfl gv 9 rfl vt _ (HRG.out _ _ HP10.out) Tryz.underlying29 rfl (infoTy' HTL.out) ?_;clear b0 b1 b2 f0 f1 f2 t0 t1 t6 u0 u1 x0 x1 v0 v1 v2 v3 v4;go_wp2_with fail
       refine (HWRG.out _ (Qe ((Grw.of_ext HE.out).trans HG10.out) HGL.out)).mono ?_;rintro e w11 ⟨rfl,hE11⟩;obtain ⟨⟨D1,D2⟩,D3⟩:=CK;obtain ⟨HG11,HW11⟩:=Z2 (HG10.out.ext hE11) (HW10.out.ext hE11);obtain ⟨w12,hw12⟩:=V1 (((w11.setCell ⟨gw,0,none⟩ (.int .i64 D1)).setCell ⟨gw,1,none⟩ (.int .i64 D2)).setCell ⟨gw,2,none⟩ (.int .i64 D3));have HG12:=hide (show Grw gw w0 w12 by rw [hw12]; exact ((HG11.out.set (.inr rfl) _).set (.inr rfl) _).set (.inr rfl) _)
       have HW12:=hide (show Blk w12 gw 124 #[.int .i64 D1,.int .i64 D2,.int .i64 D3] by rw [hw12]; exact ((HW11.out.set_ 0 _).set_ 1 _).set_ 2 _)
       obtain ⟨HF12,HT12,HS12⟩:=Z3 (HG12.out.blk HF.out HN.out) (HG12.out.blk HT.out HN2.out) hw12;obtain ⟨c0,c1,c2⟩:=X3 HW11.out;obtain ⟨g0,g1,g2⟩:=Y3 HW11.out;clear hw12 hE11;unfold wrV;go_upto_region 25 with fail
       rw [← HS12.out];obtain ⟨b0,b1,b2⟩:=X3 HF12.out;obtain ⟨c0,c1,c2⟩:=X3 HW12.out;obtain ⟨t0,t1,-,-,-,-,t6⟩:=X7 HT12.out;obtain ⟨f0,f1,f2⟩:=Y3 HF12.out;obtain ⟨g0,g1,g2⟩:=Y3 HW12.out;by_cases l3:D1=0
       ·have hcz:=HCKZ.out l3;have h2:D2=0:=congrArg Prod.snd hcz;clear hcz;subst l3 h2;have HNX2:=hide (show NX.1.1=0 by rw [HNX.out,HPR2.out])
        have HNX3:=hide (show NX.2=D3 by rw [HNX.out,HPR2.out])
        clear HSTK HNX HPR2 HCKZ;go_wp2_with fail
        go_roundw
        case rel=>exact ⟨k + 1,by omega,by go_num,HG12.out,by rw [← HNXE.out]; exact HNX2.out,by rw [← HNXE.out,HNX3.out]; exact HW12.out⟩
        case measure=>simp [intOf]; omega
       ·have HR:=hide (show R=((D1,D2),D3) by rw [HSTK.out (by rw [HNX.out,HPR2.out]; exact l3),HNX.out,HPR2.out])
        have j0:(D1 == 0)=false:=by simpa using l3
        clear HSTK HNX HPR2 HCKZ l3;go_wp2_with fail
        exact Qh (r:=((D1,D2),D3)) (g:=gf) (((HF12.out.set_ 0 _).set_ 1 _).set_ 2 _) rfl rfl rfl ⟨by rw [← HRN.out,HR.out],(((Qe ((Grw.of_ext HE.out).trans HG12.out) HGL.out).setCell HLO.out _).setCell HLO.out _).setCell HLO.out _⟩
      ·have HPR2:=hide (show g k mk=((C1,C2),mk) by rw [HPR1.out,HPF3.out]; exact if_pos l2)
       have HR:=hide (show R=((C1,C2),mk) by rw [HSTK.out (by rw [HNX.out,HPR2.out]; exact l2),HNX.out,HPR2.out])
       have j0:(C1 == 0)=false:=by simpa using l2
       clear HSTK HNX HPR1 HPR2 HPF3 l2;go_wp2_with fail
       exact Qh (r:=((C1,C2),mk)) (g:=gf) (((HF10.out.set_ 0 _).set_ 1 _).set_ 2 _) rfl rfl rfl ⟨by rw [← HRN.out,HR.out],(((Qe ((Grw.of_ext HE.out).trans HG10.out) HGL.out).setCell HLO.out _).setCell HLO.out _).setCell HLO.out _⟩
     ·have HPF3:=hide (show PF=(L1,L2) by rw [HPF2.out]; exact if_neg l1)
      have HPR2:=hide (show g k mk=((L1,L2),mk) by rw [HPR1.out,HPF3.out]; exact if_pos l1)
      have HR:=hide (show R=((L1,L2),mk) by rw [HSTK.out (by rw [HNX.out,HPR2.out]; exact l1),HNX.out,HPR2.out])
      have j0:(L1 == 0)=false:=by simpa using l1
      clear HSTK HNX HPR1 HPR2 HPF2 HPF3 l1;go_wp2_with fail
      exact Qh (r:=((L1,L2),mk)) (g:=gf) (((HF8.out.set_ 0 _).set_ 1 _).set_ 2 _) rfl rfl rfl ⟨by rw [← HRN.out,HR.out],(((Qe ((Grw.of_ext HE.out).trans HG8.out) HGL.out).setCell HLO.out _).setCell HLO.out _).setCell HLO.out _⟩
   ·have HGK:=hide (HBADK.out he);have HR:=hide (show R=((ev,y),mk) by rw [HSTK.out (by rw [HNX.out,HGK.out]; exact he),HNX.out,HGK.out])
    have j0:(ev == 0)=false:=by simpa using he
    clear HBADK HSTP HSTK HNX HGK he;go_wp2_with fail
    refine (Qm 0 0 mk ev y _).mono ?_;rintro e w5 ⟨rfl,hE5⟩;obtain ⟨HG5,HW5⟩:=Z2 (HG3.out.ext hE5) (HW3.out.ext hE5);obtain ⟨HF5,HT5,HP5⟩:=Z3 (HG5.out.blk HF.out HN.out) (HG5.out.blk HT.out HN2.out) (HP3.out.ext hE5);obtain ⟨b0,b1,b2⟩:=X3 HF5.out;obtain ⟨c0,c1,c2⟩:=X3 HW5.out;obtain ⟨t0,t1,-,-,-,-,t6⟩:=X7 HT5.out;obtain ⟨f0,f1,f2⟩:=Y3 HF5.out;obtain ⟨g0,g1,g2⟩:=Y3 HW5.out;have v0:=blk_at HP5.out HV0.out;have v1:=blk_at HP5.out HV1.out;have v2:=blk_at HP5.out HV2.out;have v3:=blk_at HP5.out HV3.out;have v4:=blk_at HP5.out HV4.out;unfold wrV;clear hE5;go_wp2_with fail
    exact Qh (r:=((ev,y),mk)) (g:=gf) (((HF5.out.set_ 0 _).set_ 1 _).set_ 2 _) rfl rfl rfl ⟨by rw [← HRN.out,HR.out],(((Qe ((Grw.of_ext HE.out).trans HG5.out) HGL.out).setCell HLO.out _).setCell HLO.out _).setCell HLO.out _⟩
  ·obtain rfl:k=n:=by omega
   obtain ⟨HX,HWr⟩:=Z2 (HZ.out hgo) hWk;have HGr:=HG4;obtain ⟨HFr,HTr⟩:=Z2 (HGr.out.blk HF.out HN.out) (HGr.out.blk HT.out HN2.out);obtain ⟨b0,b1,b2⟩:=X3 HFr.out;obtain ⟨c0,c1,c2⟩:=X3 HWr.out;obtain ⟨t0,t1,-,-,-,-,t6⟩:=X7 HTr.out;obtain ⟨f0,f1,f2⟩:=Y3 HFr.out;obtain ⟨g0,g1,g2⟩:=Y3 HWr.out;clear hG hgo hWk hEw;go_wp2_with fail
   exact Qh (r:=((0,0),(goTo g k m).2)) (g:=gf) (((HFr.out.set_ 0 _).set_ 1 _).set_ 2 _) rfl rfl rfl ⟨by unfold wrV; rw [HX.out],(((Qe ((Grw.of_ext HE.out).trans HGr.out) HGL.out).setCell HLO.out _).setCell HLO.out _).setCell HLO.out _⟩
set_option maxRecDepth 100000 in
theorem Qsy (a lo hi mo s1:Int) (s0:ByteArray) (nn cn cp n:Nat) (An Ap:Option Addr) (p:Nat→PtH) (t:Nat→Ty) (d m:Int) (w:World) (hP:PartsAt w w.heap.size Ap n p t) (hsz:∀ i,i < n→(p i).name.1.size≤maxLen∧Qi (p i).label∧Qi (p i).cl∧Qr (t i)) (hsub:∀ i,i < n→WrgC (t i) (IntKind.i64.wrap (d + 1))) :
  Calls Tryz.prog 95 #[.agg #[.int .i64 0,.int .i64 0,.int .i64 m],.agg #[.int .i64 8,.int .i64 a,.int .i64 lo,.int .i64 hi,.int .i64 mo,.slice An nn cn,.slice Ap n cp,.string s0,.int .i64 s1],.int .i64 d] w (fun e w'=>e = .returned (wrV (if n=0 then ((15,a),m) else if 64 < n then ((8,(p 64).name.2),m) else goTo (stepF 8 n p t (fun i m'=>chk (t i) (IntKind.i64.wrap (d + 1)) m')) n m))∧Ext w w'):=by
 have e1:=IntWalk.i64_left (d + 1);rw [e1] at hsub ⊢;clear e1;obtain ⟨w0,hw0⟩:=V1 (((w.alloc (.cells #[.int .i64 0,.int .i64 0,.int .i64 m] 124)).alloc (.cells #[.int .i64 8,.int .i64 a,.int .i64 lo,.int .i64 hi,.int .i64 mo,.slice An nn cn,.slice Ap n cp,.string s0,.int .i64 s1] 29)).alloc (.cells #[.int .i64 0,.int .i64 0,.int .i64 0] 124));have hV:Blk w0 w.heap.size 124 #[.int .i64 0,.int .i64 0,.int .i64 m]:=by rw [hw0]; exact ((Blk.new _ _ _).alloc _).alloc _
 have hT:Blk w0 (w.heap.size + 1) 29 #[.int .i64 8,.int .i64 a,.int .i64 lo,.int .i64 hi,.int .i64 mo,.slice An nn cn,.slice Ap n cp,.string s0,.int .i64 s1]:=by
  rw [hw0]; have:=Blk.new (w.alloc (.cells #[.int .i64 0,.int .i64 0,.int .i64 m] 124)) 29 #[.int .i64 8,.int .i64 a,.int .i64 lo,.int .i64 hi,.int .i64 mo,.slice An nn cn,.slice Ap n cp,.string s0,.int .i64 s1]; exact Blk.alloc (by simpa only [World.size_alloc] using this) _
 have hF:Blk w0 (w.heap.size + 2) 124 #[.int .i64 0,.int .i64 0,.int .i64 0]:=by
  rw [hw0]; have:=Blk.new ((w.alloc (.cells #[.int .i64 0,.int .i64 0,.int .i64 m] 124)).alloc (.cells #[.int .i64 8,.int .i64 a,.int .i64 lo,.int .i64 hi,.int .i64 mo,.slice An nn cn,.slice Ap n cp,.string s0,.int .i64 s1] 29)) 124 #[.int .i64 0,.int .i64 0,.int .i64 0]; simpa only [World.size_alloc] using this
 have hE:Ext w w0:=by rw [hw0]; exact (((Ext.rfl' w).alloc nL _).alloc (by simp only [World.size_alloc]; omega) _).alloc (by simp only [World.size_alloc]; omega) _
 have hs0:w0.heap.size=w.heap.size + 3:=by rw [hw0]; simp only [World.size_alloc]
 have n1:w.heap.size + 2≠w.heap.size:=by omega
 have n2:w.heap.size + 1≠w.heap.size:=by omega
 have hlo:w.heap.size≤w.heap.size + 2:=by omega
 have hgl:w.heap.size≤w.heap.size:=Nat.le_refl _;have hP0:=hP.ext hE;obtain ⟨gf,hgf,gt,hgt,gw,hgw⟩:=V3 (w.heap.size + 2) (w.heap.size + 1) (w.heap.size);rw [← hgf] at hF hlo n1;rw [← hgt] at hT n2;have hgl2:gw < w0.heap.size:=by omega
 rw [← hgw] at hV;have n1':gf≠gw:=by rw [hgw]; exact n1
 have n2':gt≠gw:=by rw [hgw]; exact n2
 have hgl':w.heap.size≤gw:=by rw [hgw]; exact hgl
 obtain ⟨HW,HGF,HGT,HGW,HF,HE,HW0,HT⟩:=Z8 hw0 hgf hgt hgw hF hE hV hT;obtain ⟨HN,HN2,HLO,HGL,HGL2⟩:=Z5 n1' n2' hlo hgl' hgl2;have HG0:=hide (show Grw gw w0 w0 from .of_ext (Ext.rfl' _))
 have HF0:=HF;have HT0:=HT;obtain ⟨b0,b1,b2⟩:=X3 HF0.out;obtain ⟨c0,c1,c2⟩:=X3 HW0.out;obtain ⟨t0,t1,-,-,-,-,t6⟩:=X7 HT0.out;obtain ⟨f0,f1,f2⟩:=Y3 HF0.out;obtain ⟨g0,g1,g2⟩:=Y3 HW0.out;clear hw0 hF hE hV hT n1 n2 n1' n2' hlo hgf hgt hgw hgl hgl' hgl2 hs0;by_cases z0:n=0
 ·obtain ⟨R,hR⟩:∃ R:Wr,R=((15,a),m):=⟨_,rfl⟩;have HR:=hide hR;rw [if_pos z0,← hR];subst z0;clear hP hP0 hsz hsub hR;go_enter Tryz.func95,Tryz.ntmps95
  go_upto_region 1 with fail
  rw [← HW.out,← HGF.out,← HGT.out,← HGW.out];go_wp2_with fail
  refine (Qm 0 0 m 15 a _).mono ?_;rintro e w5 ⟨rfl,hE5⟩;obtain ⟨HG5,HW5⟩:=Z2 (HG0.out.ext hE5) (HW0.out.ext hE5);obtain ⟨HF5,HT5⟩:=Z2 (HG5.out.blk HF.out HN.out) (HG5.out.blk HT.out HN2.out);obtain ⟨b0,b1,b2⟩:=X3 HF5.out;obtain ⟨c0,c1,c2⟩:=X3 HW5.out;obtain ⟨t0,t1,-,-,-,-,t6⟩:=X7 HT5.out;obtain ⟨f0,f1,f2⟩:=Y3 HF5.out;obtain ⟨g0,g1,g2⟩:=Y3 HW5.out;unfold wrV;clear hE5;go_wp2_with fail
  exact Qh (r:=((15,a),m)) (g:=gf) (((HF5.out.set_ 0 _).set_ 1 _).set_ 2 _) rfl rfl rfl ⟨by rw [HR.out],(((Qe ((Grw.of_ext HE.out).trans HG5.out) HGL.out).setCell HLO.out _).setCell HLO.out _).setCell HLO.out _⟩
 rw [if_neg z0];by_cases z1:64 < n
 ·obtain ⟨R,hR⟩:∃ R:Wr,R=((8,(p 64).name.2),m):=⟨_,rfl⟩;rw [if_pos z1,← hR];obtain ⟨b,o,rfl,hbs,_⟩:=hP0 (by omega)
  obtain ⟨_,d1⟩:=Qc5 hP0 rfl z1;obtain ⟨x,hx⟩:=V1 ((p 64).name.2);rw [← hx] at d1 hR;have HR:=hide hR;have i0:((n:Int) == 0)=false:=by simp; omega
  have i1:(64:Int) < (n:Int):=by omega
  clear hP hP0 hsz hsub hR hx hbs;go_enter Tryz.func95,Tryz.ntmps95
  go_upto_region 1 with fail
  rw [← HW.out,← HGF.out,← HGT.out,← HGW.out];go_upto_region 4 with fail
  go_still_tail 7,(by kernel_rfl)
  change wpList _ _ _ _ _ w0.drew
  go_wp2_with fail
  refine (Qm 0 0 m 8 x _).mono ?_;rintro e w5 ⟨rfl,hE5'⟩;have hE5:=((Ext.rfl' w0).drew').trans' hE5';obtain ⟨HG5,HW5⟩:=Z2 (HG0.out.ext hE5) (HW0.out.ext hE5);obtain ⟨HF5,HT5⟩:=Z2 (HG5.out.blk HF.out HN.out) (HG5.out.blk HT.out HN2.out);obtain ⟨b0,b1,b2⟩:=X3 HF5.out;obtain ⟨c0,c1,c2⟩:=X3 HW5.out;obtain ⟨t0,t1,-,-,-,-,t6⟩:=X7 HT5.out;obtain ⟨f0,f1,f2⟩:=Y3 HF5.out;obtain ⟨g0,g1,g2⟩:=Y3 HW5.out;unfold wrV;clear hE5;go_wp2_with fail
  exact Qh (r:=((8,x),m)) (g:=gf) (((HF5.out.set_ 0 _).set_ 1 _).set_ 2 _) rfl rfl rfl ⟨by rw [HR.out],(((Qe ((Grw.of_ext HE.out).trans HG5.out) HGL.out).setCell HLO.out _).setCell HLO.out _).setCell HLO.out _⟩
 rw [if_neg z1];obtain ⟨g,hg⟩:=V1 (stepF 8 n p t (fun i m'=>chk (t i) (wrap64 (d + 1)) m'))
 rw [← hg];obtain ⟨HSTEP,HBAD⟩:=Z2 (fun k m' (hl:listE (Qd n p) k=0)=>(show g k m'=Qag true (p k) (t k) (fun m=>chk (t k) (wrap64 (d + 1)) m) m' by rw [hg]; exact Qcl true (by decide) hl)) (fun k m' (hl:listE (Qd n p) k≠0)=>(show g k m'=((listE (Qd n p) k,(p k).name.2),m') by rw [hg]; exact Qc6 hl))
 have hz:∀ i m',i < n→(g i m').1.1=0→(g i m').1=(0,0):=fun i m' _ e=>by rw [hg] at e ⊢; exact Qdn e
 obtain ⟨HZ,HPP,HSZ,HSUB⟩:=Z4 (fun (h:(goTo g n m).1.1=0)=>Qc2 hz nL h) hP hsz hsub
 have i0:((n:Int) == 0)=false∨n=0:=by by_cases h:n=0; exact .inr h; exact .inl (by simp; omega)
 have i1:¬ (64:Int) < (n:Int):=by omega
 have H64:=hide z1;clear hg hz hP hP0 hsz hsub z1;replace i0:=i0.resolve_right z0
 clear z0;go_enter Tryz.func95,Tryz.ntmps95
 go_upto_region 1 with fail
 rw [← HW.out,← HGF.out,← HGT.out,← HGW.out];go_wp2_with fail
 clear b0 b1 b2 f0 f1 f2 c0 c1 c2 g0 g1 g2 t0 t1 t6;go_loopw [7] (fun i wr=>∃ k:Nat,k≤n∧i = .int .i64 k∧Grw gw w0 wr∧(goTo g k m).1.1=0∧Blk wr gw 124 #[.int .i64 0,.int .i64 0,.int .i64 (goTo g k m).2]) (fun i _=>n - (intOf i).toNat)
 case atStart=>exact ⟨0,Nat.zero_le _,rfl,.of_ext (Ext.rfl' _),rfl,HW0.out⟩
 case round =>
  obtain ⟨k,hk,rfl,hG,hgo,hWk⟩:=hrel;have HG4:=hide hG;have hEw:Ext w wr:=Qe ((Grw.of_ext HE.out).trans hG) HGL.out;by_cases hlt:k < n
  ·obtain ⟨b,o,rfl,hbs,hcell⟩:=HPP.out (by omega)
   obtain ⟨vs,hr0,hpa⟩:=hcell k hlt;have hs:=HSZ.out k hlt;have hr1:wr.rangeAt b (o + k * 18) vs:=fun j v hv=>(hEw.cell (p:=⟨b,o + k * 18 + j,none⟩) hbs).trans (hr0 j v hv)
   have hvl:vs.length=18:=hpa.len;have hvo:vs.toArray.all (·.oneCell')=true:=hpa.one;obtain ⟨Al,cl,Ac,cc,vt,hvs,hlb,hcc,htt⟩:=id hpa;have hv0:vs[0]? = some (.string (p k).name.1):=by rw [hvs]; rfl
   have hv1:vs[1]? = some (.int .i64 (p k).name.2):=by rw [hvs]; rfl
   have hv2:vs[2]? = some (.bool (p k).bare):=by rw [hvs]; rfl
   have hv3:vs[3]? = some (.slice Al (p k).label.length cl):=by rw [hvs]; rfl
   have hv4:vs[4]? = some (.int .i64 (p k).wide):=by rw [hvs]; rfl
   have htl:vt.length=9:=by obtain ⟨y0,y1,y2,y3,y4,y5,y6,y7,y8,e⟩:=htt.nine; rw [e]; rfl
   have hrg:∀ w1 gv,Blk w1 gv 131 vs.toArray→w1.rangeAt gv 9 vt:=fun w1 gv hB j v hv=>by
    have:=Qv hB (9 + j) v (by rw [hvs,List.getElem?_append_right (by show 9≤9 + j; omega)]; rw [show 9 + j - (ptV (p k) Al cl Ac cc).length=j by show 9 + j - 9=j; omega]; exact hv)
    rwa [Nat.zero_add] at this
   have hnms:=fun (w1:World) (hE:Ext w w1)=>Qgc (some ⟨b,o,none⟩) cp n p t w1 (PartsAt.ext (fun h=>HPP.out h) hE) (by have:=H64.out; omega)
   have hlst:=fun (w1:World) (A:Option Addr) (c:Nat) (h:WdsAt w1 w1.heap.size A (Qbw n p))=>Qdb A c n k (Qbw n p) w1 h (Qby n p).symm hlt (by have:=H64.out; omega) (fun j=>by
    unfold wNm;rcases Nat.lt_or_ge j n with hj | hj
    ·rw [Qn1 hj]; exact (HSZ.out j hj).1
    ·rw [List.getD_eq_getElem?_getD,List.getElem?_eq_none (by rw [Qby]; exact hj)]; exact Nat.zero_le _)
   have hlab:=fun w1 (hE:Ext w w1)=>Qcj Al cl (p k).label.length (p k).label w1 (hlb.ext hE) rfl hs.2.1
   have hco:=fun w1 (hE:Ext w w1)=>Qfw (p k) (t k) w1 vs (hpa.ext hE) hs.2.2.1
   have hzero:=fun w1 (hE:Ext w w1)=>Qlj (t k) w1 vt (htt.ext hE) hs.2.2.2
   have hpl:=fun w1 (hE:Ext w w1)=>Qc4 (p k) (zPt wd0 true) (t k) zTy w1 vs (ptV (zPt wd0 true) none 0 none 0 ++ zCells) (hpa.ext hE) (Qd4 _ _ _ _) hs.2.1 hs.2.2.1
   have hwrg:=fun w1 (hE:Ext w w1)=>HSUB.out k hlt (goTo g k m).2 w1 vt (htt.ext hE)
   have hbad:=fun hh=>HBAD.out k (goTo g k m).2 hh
   have hstp:=fun hh=>HSTEP.out k (goTo g k m).2 hh
   have hnx:goTo g (k + 1) m=g k (goTo g k m).2:=Qae hgo;have hstk:(goTo g (k + 1) m).1.1≠0→goTo g n m=goTo g (k + 1) m:=Qa1 hlt;have hpr:Qag true (p k) (t k) (fun m=>chk (t k) (wrap64 (d + 1)) m) (goTo g k m).2=if (p k).bare=true then (if true=true∧(Q5 (p k) (zPt wd0 true) && Qu (t k) zTy)=true then ((0,0),(goTo g k m).2) else ((19,(p k).name.2),(goTo g k m).2)) else if (Qaf (p k)).1≠0 then (Qaf (p k),(goTo g k m).2) else chk (t k) (wrap64 (d + 1)) (goTo g k m).2:=by
    unfold Qag;rw [show Qbb (p k) (t k)=(Q5 (p k) (zPt wd0 true) && Qu (t k) zTy) by unfold Qbb Q3; rw [show decide ((p k).name.1=(zPt (p k).name true).name.1)=true from decide_eq_true rfl,Bool.true_and]; rfl]
   have hckz:∀ {m'},(chk (t k) (wrap64 (d + 1)) m').1.1=0→(chk (t k) (wrap64 (d + 1)) m').1=(0,0):=fun e=>Qhq (t k) e
   have hckz:=@hckz (goTo g k m).2;have hpf:Qaf (p k)=if (p k).wide < 0∨64 < (p k).wide then (20,(p k).name.2) else if (Qo (p k).label).1=0 then Qai (p k) else Qo (p k).label:=rfl;rw [Qll] at hlst;rw [hpr] at hstp;generalize Q5 (p k) (zPt wd0 true)=PB at hpl hstp
   generalize Qu (t k) zTy=ZB at hzero hstp
   generalize Qaf (p k)=PF at hstp hpf
   generalize Qo (p k).label=LF at hlab hpf
   generalize Qai (p k)=CF at hco hpf
   generalize chk (t k) (wrap64 (d + 1)) (goTo g k m).2=CK at hstp hwrg hckz
   obtain ⟨NX,hNX,R,hRn⟩:=V2 (goTo g (k + 1) m) (goTo g n m);rw [← hNX] at hnx hstk;rw [← hRn] at hstk;obtain ⟨HNXE,HRN⟩:=Z2 hNX hRn;clear hNX hRn hpr;generalize (goTo g k m).2=mk at hWk hbad hstp hnx hwrg
   obtain ⟨y,hy,x,hx,br,hbr,wi,hwi,nl,hnl,ev,hev⟩:=V6 ((p k).name.2) ((p k).name.1) ((p k).bare) ((p k).wide) ((p k).label.length) (listE (Qd n p) k);rw [← hx] at hv0;rw [← hy] at hbad hv1 hstp hpf;rw [← hbr] at hv2 hstp;rw [← hnl] at hv3 hlab;rw [← hwi] at hv4 hpf;rw [← hev] at hbad hstp hlst;obtain ⟨w1,hw1⟩:=V1 (wr.alloc (.cells vs.toArray 131));have hE1:Ext wr w1:=by rw [hw1]; exact (Ext.rfl' wr).alloc nL _
   have hB1:Blk w1 wr.heap.size 131 vs.toArray:=by rw [hw1]; exact Blk.new _ _ _
   obtain ⟨gv,hgv⟩:=V1 (wr.heap.size);rw [← hgv] at hB1;obtain ⟨HV0,HV1,HV2,HV3,HV4,HP1,HW4,HG1⟩:=Z8 hv0 hv1 hv2 hv3 hv4 hB1 hWk (HG4.out.ext hE1);obtain ⟨HW1,HF1,HT1⟩:=Z3 (HW4.out.ext hE1) (HG1.out.blk HF.out HN.out) (HG1.out.blk HT.out HN2.out);have ht6:=(HG4.out.blk HT.out HN2.out).cell 6;simp only [gA,gH,gS] at ht6;obtain ⟨b0,b1,b2⟩:=X3 HF1.out;obtain ⟨c0,c1,c2⟩:=X3 HW1.out;obtain ⟨t0,t1,-,-,-,-,t6⟩:=X7 HT1.out;obtain ⟨f0,f1,f2⟩:=Y3 HF1.out;obtain ⟨g0,g1,g2⟩:=Y3 HW1.out;have v0:=blk_at HP1.out HV0.out;have v1:=blk_at HP1.out HV1.out;have v2:=blk_at HP1.out HV2.out;have v3:=blk_at HP1.out HV3.out;have v4:=blk_at HP1.out HV4.out;obtain ⟨HAL,HAG,HNMS,HLST,HLAB,HCO,HZERO⟩:=Z7 hw1 hgv hnms hlst hlab hco hzero;have HPL:=hide (show ∀ w1,Ext w w1→Calls Tryz.prog 94 #[.agg vs.toArray,.agg #[.string ⟨#[]⟩,.int .i64 0,.bool true,.slice none 0 0,.int .i64 0,.int .i64 0,.int .i64 0,.int .i64 0,.slice none 0 0,.int .i64 0,.int .i64 0,.int .i64 0,.int .i64 0,.int .i64 0,.slice none 0 0,.slice none 0 0,.string ⟨#[]⟩,.int .i64 0]] w1 (fun e w'=>e = .returned (.bool PB)∧Ext w1 w') from hpl)
   obtain ⟨HWRG,HBADK,HSTP,HNX,HSTK,HCKZ,HPF,HVL⟩:=Z8 hwrg hbad hstp hnx hstk hckz hpf hvl;obtain ⟨HVO,HTL,HR1,HRG⟩:=Z4 hvo htl hr1 hrg;have i2:=nZ k;have i3:(k:Int) < (n:Int):=by omega
   clear hw1 hE1 hB1 hgv hnms hlst hlab hco hzero hpl hwrg hbad hstp hnx hstk hckz hpf hvl hvo htl hr1 hr0 hrg hv0 hv1 hv2 hv3 hv4 hpa hlb hcc htt hvs hcell hs hgo hWk hG hEw hx hy hbr hwi hnl hev HZ hbs;have t6:=ht6;go_upto_region 8 with fail
   refine wp_region_lit ?_;refine wpList_plain rfl fun K1 hK1=>?_
   go_simp;refine hK1 _ _ ?_;refine wpList_plain rfl fun K2 hK2=>?_
   go_simp;refine hK2 _ _ ?_;refine wpList_plain rfl fun K3 hK3=>?_
   go_simp;refine hK3 _ _ ?_;refine wpList_plain rfl fun K4 hK4=>?_
   go_simp;refine hK4 _ _ ?_;refine wpList_load_mid rfl 131 _ rfl b (o + k * 18) rfl vs _ HR1.out Tryz.underlying131 rfl (infoPart' HVL.out) ?_;refine wpList_plain rfl fun K5 hK5=>?_
   go_simp;refine hK5 _ _ ?_;refine Qc rfl 131 _ _ rfl _ vs.toArray rfl rfl (Qan HVL.out) (by show _=vs.length; rw [HVL.out]; rfl) HVO.out ?_
   go_upto_region 9 with fail
   rw [← HAL.out,← HAG.out];obtain ⟨-,-,-,-,-,-,t6⟩:=X7 HT1.out;clear ht6;go_wp2_with fail
   refine (HNMS.out _ (Qe ((Grw.of_ext HE.out).trans HG1.out) HGL.out)).mono ?_;rintro e w2 ⟨A,c,rfl,hA,hE2⟩;have hE2g:=hE2;obtain ⟨HG2,HW2,HP2,HLI⟩:=Z4 (HG1.out.ext hE2) (HW1.out.ext hE2) (HP1.out.ext hE2) (HLST.out w2 A c hA);clear hA hE2 hE2g b0 b1 b2 f0 f1 f2 c0 c1 c2 g0 g1 g2 t0 t1 t6 v0 v1 v2 v3 v4;go_wp2_with fail
   refine HLI.out.mono ?_;rintro e w3 ⟨rfl,hE3⟩;obtain ⟨HG3,HW3⟩:=Z2 (HG2.out.ext hE3) (HW2.out.ext hE3);obtain ⟨HF3,HT3,HP3⟩:=Z3 (HG3.out.blk HF.out HN.out) (HG3.out.blk HT.out HN2.out) (HP2.out.ext hE3);obtain ⟨b0,b1,b2⟩:=X3 HF3.out;obtain ⟨c0,c1,c2⟩:=X3 HW3.out;obtain ⟨t0,t1,-,-,-,-,t6⟩:=X7 HT3.out;obtain ⟨f0,f1,f2⟩:=Y3 HF3.out;obtain ⟨g0,g1,g2⟩:=Y3 HW3.out;have v0:=blk_at HP3.out HV0.out;have v1:=blk_at HP3.out HV1.out;have v2:=blk_at HP3.out HV2.out;have v3:=blk_at HP3.out HV3.out;have v4:=blk_at HP3.out HV4.out;clear hE3;by_cases he:ev=0
   ·have HPR:=hide (HSTP.out he);subst he;clear HBADK HSTP;cases br with
    | true =>
     have HPR1:=hide (show g k mk=if (PB && ZB)=true then ((0,0),mk) else ((19,y),mk) by rw [HPR.out,if_pos rfl]; cases PB <;> cases ZB <;> rfl)
     clear HPR;go_upto_region 13 with fail
     refine wp_region_lit ?_;refine wpList_plain rfl fun K11 hK11=>?_
     go_simp;refine hK11 _ _ ?_;refine wpList_plain rfl fun K12 hK12=>?_
     go_simp;refine hK12 _ _ ?_;refine wpList_plain rfl fun K13 hK13=>?_
     go_simp;refine hK13 _ _ ?_;refine wpList_plain rfl fun K14 hK14=>?_
     go_simp;refine hK14 _ _ ?_;refine wpList_unguard' (by rfl) ?_
     refine wpList_plain rfl fun K15 hK15=>?_
     go_simp;refine hK15 _ _ ?_;refine wpList_unguard' (by rfl) ?_
     refine wpList_load_mid rfl 29 _ rfl gv 9 rfl vt _ (HRG.out _ _ HP3.out) Tryz.underlying29 rfl (infoTy' HTL.out) ?_;clear b0 b1 b2 f0 f1 f2 c0 c1 c2 g0 g1 g2 t0 t1 t6 v0 v1 v2 v3 v4;go_wp2_with fail
     refine (HZERO.out _ (Qe ((Grw.of_ext HE.out).trans HG3.out) HGL.out)).mono ?_;rintro e w6 ⟨rfl,hE6⟩;obtain ⟨HG6,HW6⟩:=Z2 (HG3.out.ext hE6) (HW3.out.ext hE6);obtain ⟨HF6,HT6,HP6⟩:=Z3 (HG6.out.blk HF.out HN.out) (HG6.out.blk HT.out HN2.out) (HP3.out.ext hE6);obtain ⟨b0,b1,b2⟩:=X3 HF6.out;obtain ⟨c0,c1,c2⟩:=X3 HW6.out;obtain ⟨t0,t1,-,-,-,-,t6⟩:=X7 HT6.out;obtain ⟨f0,f1,f2⟩:=Y3 HF6.out;obtain ⟨g0,g1,g2⟩:=Y3 HW6.out;have v0:=blk_at HP6.out HV0.out;have v1:=blk_at HP6.out HV1.out;have v2:=blk_at HP6.out HV2.out;have v3:=blk_at HP6.out HV3.out;have v4:=blk_at HP6.out HV4.out;clear hE6;cases ZB with
     | false =>
      have HPR2:=hide (show g k mk=((19,y),mk) by rw [HPR1.out,Bool.and_false]; rfl)
      have HR:=hide (show R=((19,y),mk) by rw [HSTK.out (by rw [HNX.out,HPR2.out]; show (19:Int)≠0; decide),HNX.out,HPR2.out])
      clear HSTK HNX HPR1 HPR2;go_wp2_with fail
      refine (Qm 0 0 mk 19 y _).mono ?_;rintro e w5 ⟨rfl,hE5⟩;obtain ⟨HG5,HW5⟩:=Z2 (HG6.out.ext hE5) (HW6.out.ext hE5);obtain ⟨HF5,HT5,HP5⟩:=Z3 (HG5.out.blk HF.out HN.out) (HG5.out.blk HT.out HN2.out) (HP6.out.ext hE5);obtain ⟨b0,b1,b2⟩:=X3 HF5.out;obtain ⟨c0,c1,c2⟩:=X3 HW5.out;obtain ⟨t0,t1,-,-,-,-,t6⟩:=X7 HT5.out;obtain ⟨f0,f1,f2⟩:=Y3 HF5.out;obtain ⟨g0,g1,g2⟩:=Y3 HW5.out;have v0:=blk_at HP5.out HV0.out;have v1:=blk_at HP5.out HV1.out;have v2:=blk_at HP5.out HV2.out;have v3:=blk_at HP5.out HV3.out;have v4:=blk_at HP5.out HV4.out;unfold wrV;clear hE5;go_wp2_with fail
      exact Qh (r:=((19,y),mk)) (g:=gf) (((HF5.out.set_ 0 _).set_ 1 _).set_ 2 _) rfl rfl rfl ⟨by rw [← HRN.out,HR.out],(((Qe ((Grw.of_ext HE.out).trans HG5.out) HGL.out).setCell HLO.out _).setCell HLO.out _).setCell HLO.out _⟩
     | true =>
      simp only [];rename_i Kz hKz
      refine hKz _ _ ?_;refine wpList_unguard' (by rfl) ?_
      refine wpList_plain rfl fun K21 hK21=>?_
      go_simp;refine hK21 _ _ ?_;refine wpList_plain rfl fun K22 hK22=>?_
      go_simp;refine hK22 _ _ ?_;refine wpList_plain rfl fun K23 hK23=>?_
      go_simp;refine hK23 _ _ ?_;refine wpList_unguard' (by rfl) ?_
      refine wpList_load_mid rfl 131 _ rfl gv 0 rfl vs _ (Qv HP6.out) Tryz.underlying131 rfl (infoPart' HVL.out) ?_;clear b0 b1 b2 f0 f1 f2 c0 c1 c2 g0 g1 g2 t0 t1 t6 v0 v1 v2 v3 v4;go_wp2_with fail
      refine (HPL.out _ (Qe ((Grw.of_ext HE.out).trans HG6.out) HGL.out)).mono ?_;rintro e w7 ⟨rfl,hE7⟩;obtain ⟨HG7,HW7⟩:=Z2 (HG6.out.ext hE7) (HW6.out.ext hE7);obtain ⟨HF7,HT7,HP7⟩:=Z3 (HG7.out.blk HF.out HN.out) (HG7.out.blk HT.out HN2.out) (HP6.out.ext hE7);obtain ⟨b0,b1,b2⟩:=X3 HF7.out;obtain ⟨c0,c1,c2⟩:=X3 HW7.out;obtain ⟨t0,t1,-,-,-,-,t6⟩:=X7 HT7.out;obtain ⟨f0,f1,f2⟩:=Y3 HF7.out;obtain ⟨g0,g1,g2⟩:=Y3 HW7.out;have v0:=blk_at HP7.out HV0.out;have v1:=blk_at HP7.out HV1.out;have v2:=blk_at HP7.out HV2.out;have v3:=blk_at HP7.out HV3.out;have v4:=blk_at HP7.out HV4.out;clear hE7
    
      cases PB with
      | false =>
       have HPR2:=hide (show g k mk=((19,y),mk) by rw [HPR1.out]; rfl)
       have HR:=hide (show R=((19,y),mk) by rw [HSTK.out (by rw [HNX.out,HPR2.out]; show (19:Int)≠0; decide),HNX.out,HPR2.out])
       clear HSTK HNX HPR1 HPR2;go_wp2_with fail
       refine (Qm 0 0 mk 19 y _).mono ?_;rintro e w5 ⟨rfl,hE5⟩;obtain ⟨HG5,HW5⟩:=Z2 (HG7.out.ext hE5) (HW7.out.ext hE5);obtain ⟨HF5,HT5,HP5⟩:=Z3 (HG5.out.blk HF.out HN.out) (HG5.out.blk HT.out HN2.out) (HP7.out.ext hE5);obtain ⟨b0,b1,b2⟩:=X3 HF5.out;obtain ⟨c0,c1,c2⟩:=X3 HW5.out;obtain ⟨t0,t1,-,-,-,-,t6⟩:=X7 HT5.out;obtain ⟨f0,f1,f2⟩:=Y3 HF5.out;obtain ⟨g0,g1,g2⟩:=Y3 HW5.out;have v0:=blk_at HP5.out HV0.out;have v1:=blk_at HP5.out HV1.out;have v2:=blk_at HP5.out HV2.out;have v3:=blk_at HP5.out HV3.out;have v4:=blk_at HP5.out HV4.out;unfold wrV;clear hE5;go_wp2_with fail
       exact Qh (r:=((19,y),mk)) (g:=gf) (((HF5.out.set_ 0 _).set_ 1 _).set_ 2 _) rfl rfl rfl ⟨by rw [← HRN.out,HR.out],(((Qe ((Grw.of_ext HE.out).trans HG5.out) HGL.out).setCell HLO.out _).setCell HLO.out _).setCell HLO.out _⟩
      | true =>
       have HPR2:=hide (show g k mk=((0,0),mk) by rw [HPR1.out]; rfl)
       have HNX2:=hide (show NX.1.1=0 by rw [HNX.out,HPR2.out])
       have HNX3:=hide (show NX.2=mk by rw [HNX.out,HPR2.out])
       clear HSTK HNX HPR1 HPR2;go_wp2_with fail
       go_roundw
       case rel=>exact ⟨k + 1,by omega,by go_num,HG7.out,by rw [← HNXE.out]; exact HNX2.out,by rw [← HNXE.out,HNX3.out]; exact HW7.out⟩
       case measure=>simp [intOf]; omega
    | false =>
     have HPR1:=hide (show g k mk=if PF.1≠0 then (PF,mk) else CK by rw [HPR.out,if_neg (by decide)])
     clear HPR;obtain ⟨w6,hw6⟩:=V1 (w3.alloc (.cells #[.int .i64 0,.int .i64 0] 34));have hE6:Ext w3 w6:=by rw [hw6]; exact (Ext.rfl' w3).alloc nL _
     have hz6:=bN hw6;obtain ⟨gz,hgz⟩:=V1 (w3.heap.size);rw [← hgz] at hz6;have hzn:gz≠gw:=by have:=HG3.out.sz; have:=HGL2.out; omega
     have hzf:gz≠gf:=by have:=HG3.out.sz; have:=HF.out.lt; omega
     have hzl:w.heap.size≤gz:=by have:=HG3.out.sz; have:=HGL2.out; have:=HGL.out; omega
     have hzl0:w0.heap.size≤gz:=by have:=HG3.out.sz; omega
     have hzv:gv≠gz:=by have:=HP3.out.lt; omega
     obtain ⟨HZV,HZB6,HZN,HZF,HZL0,HAL6,HAG6,HG6⟩:=Z8 hzv hz6 hzn hzf hzl0 hw6 hgz (HG3.out.ext hE6);obtain ⟨HW6,HF6,HT6,HP6⟩:=Z4 (HW3.out.ext hE6) (HG6.out.blk HF.out HN.out) (HG6.out.blk HT.out HN2.out) (HP3.out.ext hE6);obtain ⟨b0,b1,b2⟩:=X3 HF6.out;obtain ⟨c0,c1,c2⟩:=X3 HW6.out;obtain ⟨t0,t1,-,-,-,-,t6⟩:=X7 HT6.out;obtain ⟨f0,f1,f2⟩:=Y3 HF6.out;obtain ⟨g0,g1,g2⟩:=Y3 HW6.out;have v0:=blk_at HP6.out HV0.out;have v1:=blk_at HP6.out HV1.out;have v2:=blk_at HP6.out HV2.out;have v3:=blk_at HP6.out HV3.out;have v4:=blk_at HP6.out HV4.out;obtain ⟨u0,u1⟩:=X2 HZB6.out;obtain ⟨x0,x1⟩:=Y2 HZB6.out;clear hw6 hE6 hz6 hgz hzv hzn hzf hzl hzl0;go_upto_region 16 with fail
     rw [← HAL6.out,← HAG6.out];by_cases e1:wi < 0
     ·have HPF2:=hide (show PF=(20,y) by rw [HPF.out,if_pos (.inl e1)])
      have HPR2:=hide (show g k mk=((20,y),mk) by rw [HPR1.out,HPF2.out]; rfl)
      have HR:=hide (show R=((20,y),mk) by rw [HSTK.out (by rw [HNX.out,HPR2.out]; show (20:Int)≠0; decide),HNX.out,HPR2.out])
      clear HSTK HNX HPR1 HPR2 HPF HPF2;go_upto_region 17 with fail
      obtain ⟨w7,hw7⟩:=V1 ((w6.setCell ⟨gz,0,none⟩ (.int .i64 20)).setCell ⟨gz,1,none⟩ (.int .i64 y));have HG7:=hide (show Grw gw w0 w7 by rw [hw7]; exact (HG6.out.set (.inl HZL0.out) _).set (.inl HZL0.out) _)
      have HW7:=hide (show Blk w7 gw 124 #[.int .i64 0,.int .i64 0,.int .i64 mk] by rw [hw7]; exact (HW6.out.far HZN.out.symm _).far HZN.out.symm _)
      have HP7:=hide (show Blk w7 gv 131 vs.toArray by rw [hw7]; exact (HP6.out.far HZV.out _).far HZV.out _)
      have HZB7:=hide (show Blk w7 gz 34 #[.int .i64 20,.int .i64 y] by rw [hw7]; exact (HZB6.out.set_ 0 _).set_ 1 _)
      obtain ⟨HF7,HT7,HS7⟩:=Z3 (HG7.out.blk HF.out HN.out) (HG7.out.blk HT.out HN2.out) hw7;obtain ⟨u0,u1⟩:=X2 HZB6.out;obtain ⟨x0,x1⟩:=Y2 HZB6.out;clear hw7;go_upto_region 18 with fail
      rw [← HS7.out];obtain ⟨u0,u1⟩:=X2 HZB7.out;obtain ⟨x0,x1⟩:=Y2 HZB7.out;obtain ⟨b0,b1,b2⟩:=X3 HF7.out;obtain ⟨c0,c1,c2⟩:=X3 HW7.out;obtain ⟨t0,t1,-,-,-,-,t6⟩:=X7 HT7.out;obtain ⟨f0,f1,f2⟩:=Y3 HF7.out;obtain ⟨g0,g1,g2⟩:=Y3 HW7.out;have v0:=blk_at HP7.out HV0.out;have v1:=blk_at HP7.out HV1.out;have v2:=blk_at HP7.out HV2.out;have v3:=blk_at HP7.out HV3.out;have v4:=blk_at HP7.out HV4.out;go_wp2_with fail
      exact Qh (r:=((20,y),mk)) (g:=gf) (((HF7.out.set_ 0 _).set_ 1 _).set_ 2 _) rfl rfl rfl ⟨by rw [← HRN.out,HR.out],(((Qe ((Grw.of_ext HE.out).trans HG7.out) HGL.out).setCell HLO.out _).setCell HLO.out _).setCell HLO.out _⟩
     by_cases e2:64 < wi
     ·have HPF2:=hide (show PF=(20,y) by rw [HPF.out,if_pos (.inr e2)])
      have HPR2:=hide (show g k mk=((20,y),mk) by rw [HPR1.out,HPF2.out]; rfl)
      have HR:=hide (show R=((20,y),mk) by rw [HSTK.out (by rw [HNX.out,HPR2.out]; show (20:Int)≠0; decide),HNX.out,HPR2.out])
      clear HSTK HNX HPR1 HPR2 HPF HPF2;go_upto_region 17 with fail
      obtain ⟨w7,hw7⟩:=V1 ((w6.setCell ⟨gz,0,none⟩ (.int .i64 20)).setCell ⟨gz,1,none⟩ (.int .i64 y));have HG7:=hide (show Grw gw w0 w7 by rw [hw7]; exact (HG6.out.set (.inl HZL0.out) _).set (.inl HZL0.out) _)
      have HW7:=hide (show Blk w7 gw 124 #[.int .i64 0,.int .i64 0,.int .i64 mk] by rw [hw7]; exact (HW6.out.far HZN.out.symm _).far HZN.out.symm _)
      have HP7:=hide (show Blk w7 gv 131 vs.toArray by rw [hw7]; exact (HP6.out.far HZV.out _).far HZV.out _)
      have HZB7:=hide (show Blk w7 gz 34 #[.int .i64 20,.int .i64 y] by rw [hw7]; exact (HZB6.out.set_ 0 _).set_ 1 _)
      obtain ⟨HF7,HT7,HS7⟩:=Z3 (HG7.out.blk HF.out HN.out) (HG7.out.blk HT.out HN2.out) hw7;obtain ⟨u0,u1⟩:=X2 HZB6.out;obtain ⟨x0,x1⟩:=Y2 HZB6.out;clear hw7;go_upto_region 18 with fail
      rw [← HS7.out];obtain ⟨u0,u1⟩:=X2 HZB7.out;obtain ⟨x0,x1⟩:=Y2 HZB7.out;obtain ⟨b0,b1,b2⟩:=X3 HF7.out;obtain ⟨c0,c1,c2⟩:=X3 HW7.out;obtain ⟨t0,t1,-,-,-,-,t6⟩:=X7 HT7.out;obtain ⟨f0,f1,f2⟩:=Y3 HF7.out;obtain ⟨g0,g1,g2⟩:=Y3 HW7.out;have v0:=blk_at HP7.out HV0.out;have v1:=blk_at HP7.out HV1.out;have v2:=blk_at HP7.out HV2.out;have v3:=blk_at HP7.out HV3.out;have v4:=blk_at HP7.out HV4.out;go_wp2_with fail
      exact Qh (r:=((20,y),mk)) (g:=gf) (((HF7.out.set_ 0 _).set_ 1 _).set_ 2 _) rfl rfl rfl ⟨by rw [← HRN.out,HR.out],(((Qe ((Grw.of_ext HE.out).trans HG7.out) HGL.out).setCell HLO.out _).setCell HLO.out _).setCell HLO.out _⟩
     have HPF2:=hide (show PF=if LF.1=0 then CF else LF by rw [HPF.out,if_neg (fun hh=>hh.elim e1 e2)])
     clear HPF;go_upto_region 19 with fail
     clear b0 b1 b2 f0 f1 f2 c0 c1 c2 g0 g1 g2 t0 t1 t6 u0 u1 x0 x1;go_wp2_with fail
     refine (HLAB.out _ (Qe ((Grw.of_ext HE.out).trans HG6.out) HGL.out)).mono ?_;rintro e w7 ⟨rfl,hE7⟩;obtain ⟨L1,L2⟩:=LF;obtain ⟨HG7,HW7,HP7,HZB7⟩:=Z4 (HG6.out.ext hE7) (HW6.out.ext hE7) (HP6.out.ext hE7) (HZB6.out.ext hE7);obtain ⟨w8,hw8⟩:=V1 ((w7.setCell ⟨gz,0,none⟩ (.int .i64 L1)).setCell ⟨gz,1,none⟩ (.int .i64 L2));have HG8:=hide (show Grw gw w0 w8 by rw [hw8]; exact (HG7.out.set (.inl HZL0.out) _).set (.inl HZL0.out) _)
     have HW8:=hide (show Blk w8 gw 124 #[.int .i64 0,.int .i64 0,.int .i64 mk] by rw [hw8]; exact (HW7.out.far HZN.out.symm _).far HZN.out.symm _)
     have HP8:=hide (show Blk w8 gv 131 vs.toArray by rw [hw8]; exact (HP7.out.far HZV.out _).far HZV.out _)
     have HZB8:=hide (show Blk w8 gz 34 #[.int .i64 L1,.int .i64 L2] by rw [hw8]; exact (HZB7.out.set_ 0 _).set_ 1 _)
     obtain ⟨HF8,HT8,HS8⟩:=Z3 (HG8.out.blk HF.out HN.out) (HG8.out.blk HT.out HN2.out) hw8;obtain ⟨u0,u1⟩:=X2 HZB7.out;obtain ⟨x0,x1⟩:=Y2 HZB7.out;clear hw8 hE7;unfold fltV;go_upto_region 20 with fail
     rw [← HS8.out];obtain ⟨u0,u1⟩:=X2 HZB8.out;obtain ⟨x0,x1⟩:=Y2 HZB8.out;obtain ⟨b0,b1,b2⟩:=X3 HF8.out;obtain ⟨c0,c1,c2⟩:=X3 HW8.out;obtain ⟨t0,t1,-,-,-,-,t6⟩:=X7 HT8.out;obtain ⟨f0,f1,f2⟩:=Y3 HF8.out;obtain ⟨g0,g1,g2⟩:=Y3 HW8.out;have v0:=blk_at HP8.out HV0.out;have v1:=blk_at HP8.out HV1.out;have v2:=blk_at HP8.out HV2.out;have v3:=blk_at HP8.out HV3.out;have v4:=blk_at HP8.out HV4.out;by_cases l1:L1=0
     ·subst l1;have HPF3:=hide (show PF=CF by rw [HPF2.out]; rfl)
      clear HPF2;go_upto_region 21 with fail
      refine wp_region_lit ?_;refine wpList_load_mid rfl 131 _ rfl gv 0 rfl vs _ (Qv HP8.out) Tryz.underlying131 rfl (infoPart' HVL.out) ?_;clear b0 b1 b2 f0 f1 f2 c0 c1 c2 g0 g1 g2 t0 t1 t6 u0 u1 x0 x1 v0 v1 v2 v3 v4;go_wp2_with fail
      refine (HCO.out _ (Qe ((Grw.of_ext HE.out).trans HG8.out) HGL.out)).mono ?_;rintro e w9 ⟨rfl,hE9⟩;obtain ⟨C1,C2⟩:=CF;obtain ⟨HG9,HW9,HP9,HZB9⟩:=Z4 (HG8.out.ext hE9) (HW8.out.ext hE9) (HP8.out.ext hE9) (HZB8.out.ext hE9);obtain ⟨w10,hw10⟩:=V1 ((w9.setCell ⟨gz,0,none⟩ (.int .i64 C1)).setCell ⟨gz,1,none⟩ (.int .i64 C2));have HG10:=hide (show Grw gw w0 w10 by rw [hw10]; exact (HG9.out.set (.inl HZL0.out) _).set (.inl HZL0.out) _)
      have HW10:=hide (show Blk w10 gw 124 #[.int .i64 0,.int .i64 0,.int .i64 mk] by rw [hw10]; exact (HW9.out.far HZN.out.symm _).far HZN.out.symm _)
      have HP10:=hide (show Blk w10 gv 131 vs.toArray by rw [hw10]; exact (HP9.out.far HZV.out _).far HZV.out _)
      have HZB10:=hide (show Blk w10 gz 34 #[.int .i64 C1,.int .i64 C2] by rw [hw10]; exact (HZB9.out.set_ 0 _).set_ 1 _)
      obtain ⟨HF10,HT10,HS10⟩:=Z3 (HG10.out.blk HF.out HN.out) (HG10.out.blk HT.out HN2.out) hw10;obtain ⟨u0,u1⟩:=X2 HZB9.out;obtain ⟨x0,x1⟩:=Y2 HZB9.out;clear hw10 hE9;unfold fltV;go_upto_region 22 with fail
      rw [← HS10.out];obtain ⟨u0,u1⟩:=X2 HZB10.out;obtain ⟨x0,x1⟩:=Y2 HZB10.out;obtain ⟨b0,b1,b2⟩:=X3 HF10.out;obtain ⟨c0,c1,c2⟩:=X3 HW10.out;obtain ⟨t0,t1,-,-,-,-,t6⟩:=X7 HT10.out;obtain ⟨f0,f1,f2⟩:=Y3 HF10.out;obtain ⟨g0,g1,g2⟩:=Y3 HW10.out;have v0:=blk_at HP10.out HV0.out;have v1:=blk_at HP10.out HV1.out;have v2:=blk_at HP10.out HV2.out;have v3:=blk_at HP10.out HV3.out;have v4:=blk_at HP10.out HV4.out;by_cases l2:C1=0
      ·subst l2;have HPR2:=hide (show g k mk=CK by rw [HPR1.out,HPF3.out]; rfl)
       clear HPR1 HPF3;go_upto_region 24 with fail
       refine wp_region_lit ?_;refine wpList_plain rfl fun K31 hK31=>?_
       go_simp;refine hK31 _ _ ?_;refine wpList_plain rfl fun K32 hK32=>?_
       go_simp;refine hK32 _ _ ?_;refine wpList_load_mid rfl 29 _ rfl gv 9 rfl vt _ (HRG.out _ _ HP10.out) Tryz.underlying29 rfl (infoTy' HTL.out) ?_;clear b0 b1 b2 f0 f1 f2 t0 t1 t6 u0 u1 x0 x1 v0 v1 v2 v3 v4;go_wp2_with fail
       refine (HWRG.out _ (Qe ((Grw.of_ext HE.out).trans HG10.out) HGL.out)).mono ?_;rintro e w11 ⟨rfl,hE11⟩;obtain ⟨⟨D1,D2⟩,D3⟩:=CK;obtain ⟨HG11,HW11⟩:=Z2 (HG10.out.ext hE11) (HW10.out.ext hE11);obtain ⟨w12,hw12⟩:=V1 (((w11.setCell ⟨gw,0,none⟩ (.int .i64 D1)).setCell ⟨gw,1,none⟩ (.int .i64 D2)).setCell ⟨gw,2,none⟩ (.int .i64 D3));have HG12:=hide (show Grw gw w0 w12 by rw [hw12]; exact ((HG11.out.set (.inr rfl) _).set (.inr rfl) _).set (.inr rfl) _)
       have HW12:=hide (show Blk w12 gw 124 #[.int .i64 D1,.int .i64 D2,.int .i64 D3] by rw [hw12]; exact ((HW11.out.set_ 0 _).set_ 1 _).set_ 2 _)
       obtain ⟨HF12,HT12,HS12⟩:=Z3 (HG12.out.blk HF.out HN.out) (HG12.out.blk HT.out HN2.out) hw12;obtain ⟨c0,c1,c2⟩:=X3 HW11.out;obtain ⟨g0,g1,g2⟩:=Y3 HW11.out;clear hw12 hE11;unfold wrV;go_upto_region 25 with fail
       rw [← HS12.out];obtain ⟨b0,b1,b2⟩:=X3 HF12.out;obtain ⟨c0,c1,c2⟩:=X3 HW12.out;obtain ⟨t0,t1,-,-,-,-,t6⟩:=X7 HT12.out;obtain ⟨f0,f1,f2⟩:=Y3 HF12.out;obtain ⟨g0,g1,g2⟩:=Y3 HW12.out;by_cases l3:D1=0
       ·have hcz:=HCKZ.out l3;have h2:D2=0:=congrArg Prod.snd hcz;clear hcz;subst l3 h2;have HNX2:=hide (show NX.1.1=0 by rw [HNX.out,HPR2.out])
        have HNX3:=hide (show NX.2=D3 by rw [HNX.out,HPR2.out])
        clear HSTK HNX HPR2 HCKZ;go_wp2_with fail
        go_roundw
        case rel=>exact ⟨k + 1,by omega,by go_num,HG12.out,by rw [← HNXE.out]; exact HNX2.out,by rw [← HNXE.out,HNX3.out]; exact HW12.out⟩
        case measure=>simp [intOf]; omega
       ·have HR:=hide (show R=((D1,D2),D3) by rw [HSTK.out (by rw [HNX.out,HPR2.out]; exact l3),HNX.out,HPR2.out])
        have j0:(D1 == 0)=false:=by simpa using l3
        clear HSTK HNX HPR2 HCKZ l3;go_wp2_with fail
        exact Qh (r:=((D1,D2),D3)) (g:=gf) (((HF12.out.set_ 0 _).set_ 1 _).set_ 2 _) rfl rfl rfl ⟨by rw [← HRN.out,HR.out],(((Qe ((Grw.of_ext HE.out).trans HG12.out) HGL.out).setCell HLO.out _).setCell HLO.out _).setCell HLO.out _⟩
      ·have HPR2:=hide (show g k mk=((C1,C2),mk) by rw [HPR1.out,HPF3.out]; exact if_pos l2)
       have HR:=hide (show R=((C1,C2),mk) by rw [HSTK.out (by rw [HNX.out,HPR2.out]; exact l2),HNX.out,HPR2.out])
       have j0:(C1 == 0)=false:=by simpa using l2
       clear HSTK HNX HPR1 HPR2 HPF3 l2;go_wp2_with fail
       exact Qh (r:=((C1,C2),mk)) (g:=gf) (((HF10.out.set_ 0 _).set_ 1 _).set_ 2 _) rfl rfl rfl ⟨by rw [← HRN.out,HR.out],(((Qe ((Grw.of_ext HE.out).trans HG10.out) HGL.out).setCell HLO.out _).setCell HLO.out _).setCell HLO.out _⟩
     ·have HPF3:=hide (show PF=(L1,L2) by rw [HPF2.out]; exact if_neg l1)
      have HPR2:=hide (show g k mk=((L1,L2),mk) by rw [HPR1.out,HPF3.out]; exact if_pos l1)
      have HR:=hide (show R=((L1,L2),mk) by rw [HSTK.out (by rw [HNX.out,HPR2.out]; exact l1),HNX.out,HPR2.out])
      have j0:(L1 == 0)=false:=by simpa using l1
      clear HSTK HNX HPR1 HPR2 HPF2 HPF3 l1;go_wp2_with fail
      exact Qh (r:=((L1,L2),mk)) (g:=gf) (((HF8.out.set_ 0 _).set_ 1 _).set_ 2 _) rfl rfl rfl ⟨by rw [← HRN.out,HR.out],(((Qe ((Grw.of_ext HE.out).trans HG8.out) HGL.out).setCell HLO.out _).setCell HLO.out _).setCell HLO.out _⟩
   ·have HGK:=hide (HBADK.out he);have HR:=hide (show R=((ev,y),mk) by rw [HSTK.out (by rw [HNX.out,HGK.out]; exact he),HNX.out,HGK.out])
    have j0:(ev == 0)=false:=by simpa using he
    clear HBADK HSTP HSTK HNX HGK he;go_wp2_with fail
    refine (Qm 0 0 mk ev y _).mono ?_;rintro e w5 ⟨rfl,hE5⟩;obtain ⟨HG5,HW5⟩:=Z2 (HG3.out.ext hE5) (HW3.out.ext hE5);obtain ⟨HF5,HT5,HP5⟩:=Z3 (HG5.out.blk HF.out HN.out) (HG5.out.blk HT.out HN2.out) (HP3.out.ext hE5);obtain ⟨b0,b1,b2⟩:=X3 HF5.out;obtain ⟨c0,c1,c2⟩:=X3 HW5.out;obtain ⟨t0,t1,-,-,-,-,t6⟩:=X7 HT5.out;obtain ⟨f0,f1,f2⟩:=Y3 HF5.out;obtain ⟨g0,g1,g2⟩:=Y3 HW5.out;have v0:=blk_at HP5.out HV0.out;have v1:=blk_at HP5.out HV1.out;have v2:=blk_at HP5.out HV2.out;have v3:=blk_at HP5.out HV3.out;have v4:=blk_at HP5.out HV4.out;unfold wrV;clear hE5;go_wp2_with fail
    exact Qh (r:=((ev,y),mk)) (g:=gf) (((HF5.out.set_ 0 _).set_ 1 _).set_ 2 _) rfl rfl rfl ⟨by rw [← HRN.out,HR.out],(((Qe ((Grw.of_ext HE.out).trans HG5.out) HGL.out).setCell HLO.out _).setCell HLO.out _).setCell HLO.out _⟩
  ·obtain rfl:k=n:=by omega
   obtain ⟨HX,HWr⟩:=Z2 (HZ.out hgo) hWk;have HGr:=HG4;obtain ⟨HFr,HTr⟩:=Z2 (HGr.out.blk HF.out HN.out) (HGr.out.blk HT.out HN2.out);obtain ⟨b0,b1,b2⟩:=X3 HFr.out;obtain ⟨c0,c1,c2⟩:=X3 HWr.out;obtain ⟨t0,t1,-,-,-,-,t6⟩:=X7 HTr.out;obtain ⟨f0,f1,f2⟩:=Y3 HFr.out;obtain ⟨g0,g1,g2⟩:=Y3 HWr.out;clear hG hgo hWk hEw;go_wp2_with fail
   exact Qh (r:=((0,0),(goTo g k m).2)) (g:=gf) (((HFr.out.set_ 0 _).set_ 1 _).set_ 2 _) rfl rfl rfl ⟨by unfold wrV; rw [HX.out],(((Qe ((Grw.of_ext HE.out).trans HGr.out) HGL.out).setCell HLO.out _).setCell HLO.out _).setCell HLO.out _⟩
theorem rparts_any (h:TyH) (hk:h.kind=7∨h.kind=8) (n:Nat) (p:Nat→PtH) (t:Nat→Ty) (d m:Int) (An Ap:Option Addr) (cn cp:Nat) (w:World) (hP:PartsAt w w.heap.size Ap n p t) (hsz:∀ i,i < n→(p i).name.1.size≤maxLen∧Qi (p i).label∧Qi (p i).cl∧Qr (t i)) (hsub:∀ i,i < n→WrgC (t i) (IntKind.i64.wrap (d + 1))) :
  Calls Tryz.prog 95 #[.agg #[.int .i64 0,.int .i64 0,.int .i64 m],.agg (tyV h An cn Ap n cp).toArray,.int .i64 d] w (fun e w'=>e = .returned (wrV (Qcf h n p (stepF h.kind n p t (fun i m'=>chk (t i) (IntKind.i64.wrap (d + 1)) m')) m))∧Ext w w'):=by
 unfold Qcf tyV;rcases hk with k | k
 ·rw [k,if_neg (show ¬ ((7:Int)=8∧n=0) from fun hh=>by cases hh.1)]
  exact Qsx h.at_ h.lo h.hi h.most h.name.2 h.name.1 h.names.length cn cp n An Ap p t d m w hP hsz hsub
 ·rw [k];simp only [true_and];exact Qsy h.at_ h.lo h.hi h.most h.name.2 h.name.1 h.names.length cn cp n An Ap p t d m w hP hsz hsub
theorem headR_same:headR'=Qg0:=rfl
theorem Qkl (t:Ty):Qr t→∀ (d:Int),WrgC t d:=by
 induction t with
 | nil=>intro h; exact h.elim
 | mk h n p t ih =>
  intro hsz d m w vs hT;have hTT:=id hT;obtain ⟨An,cn,Ap,cp,hvs,hwd,hpp⟩:=hT.open_;rw [chk_mk,headF_R,← headR_same];have hsub:∀ i,i < n→WrgC (t i) (IntKind.i64.wrap (d + 1)):=fun i hi=>ih i (hsz.2.2.2 i hi).2.2.2 _
  subst hvs;refine Qqy h.kind h.at_ h.lo h.hi h.most h.name.2 d m _ h.name.1 h.names.length cn n cp An Ap w _ _ _ _ h.names p t rfl hwd rfl hsz.1 rfl hpp (fun i hi=>⟨(hsz.2.2.2 i hi).2.1,(hsz.2.2.2 i hi).2.2.1⟩) ?_ (fun h0=>hsub 0 h0) ?_ ?_ ?_
  ·intro k;rw [kindF_one k];rfl
  ·intro w1 hE;exact refOwn_any h n p t w1 _ (hTT.ext hE) hsz
  ·intro k w1 hE;rw [kindF_parts k];exact rparts_any h k n p t d _ An Ap cn cp w1 (hpp.ext hE) (fun i hi=>hsz.2.2.2 i hi) hsub
  ·intro w1;exact refRight_any h.name.1 w1 hsz.2.1
structure Mv (X:Nat→Prop) (w w':World):Prop where
 os:w'.os=w.os
 tape:w'.tape=w.tape
 output:w'.output=w.output
 size:w.heap.size≤w'.heap.size
 block:∀ i,i < w.heap.size→¬ X i→w'.heap[i]? = w.heap[i]?
theorem Mv.of_ext {X:Nat→Prop} {w w':World} (h:Ext w w'):Mv X w w':=⟨h.os,h.tape,h.output,h.size,fun i hi _=>h.block i hi⟩
theorem Mv.rfl' (X:Nat→Prop) (w:World):Mv X w w:=.of_ext (Ext.rfl' w)
theorem Mv.of_grown {X:Nat→Prop} {w w':World} {row:Option Nat} (h:w.grownBy w' row) (hr:∀ g,row=some g→X g):Mv X w w' :=
 ⟨h.os,h.tape,h.output,h.size,fun i hi hx=>h.block i hi fun e=>hx (hr i e.symm)⟩
theorem Mv.trans' {X Y:Nat→Prop} {a b c:World} (h:Mv X a b) (k:Mv Y b c) (hY:∀ i,i < a.heap.size→¬ X i→¬ Y i):Mv X a c :=
 ⟨k.os.trans h.os,k.tape.trans h.tape,k.output.trans h.output,Nat.le_trans h.size k.size,fun i hi hx=>(k.block i (Nat.lt_of_lt_of_le hi h.size) (hY i hi hx)).trans (h.block i hi hx)⟩
theorem Mv.trans {X:Nat→Prop} {a b c:World} (h:Mv X a b) (k:Mv X b c):Mv X a c:=h.trans' k fun _ _ hx=>hx
theorem Mv.ext {X:Nat→Prop} {a b c:World} (h:Mv X a b) (k:Ext b c):Mv X a c:=h.trans (.of_ext k)
theorem Mv.more {X Y:Nat→Prop} {w w':World} (h:Mv X w w') (hY:∀ i,i < w.heap.size→X i→Y i):Mv Y w w' :=
 ⟨h.os,h.tape,h.output,h.size,fun i hi hy=>h.block i hi fun hx=>hy (hY i hi hx)⟩
theorem Mv.set {X:Nat→Prop} {a b:World} (h:Mv X a b) {g i:Nat} (hg:a.heap.size≤g∨X g) (v:Value):Mv X a (b.setCell ⟨g,i,none⟩ v):=by
 refine ⟨h.os,h.tape,h.output,?_,fun k hk hx=>?_⟩
 ·rw [size_setCell']; exact h.size
 ·refine (Below.heap_setCell b ⟨g,i,none⟩ v k ?_).trans (h.block k hk hx);rintro rfl;rcases hg with hg | hg
  ·exact absurd hk (Nat.not_lt.2 hg)
  ·exact hx hg
theorem Mv.blk {X:Nat→Prop} {w w':World} (h:Mv X w w') {g:Nat} {t:TypeId} {cs:Array Value} (hB:Blk w g t cs) (hx:¬ X g):Blk w' g t cs:=(h.block g hB.lt hx).trans hB
theorem Mv.cell {X:Nat→Prop} {w w':World} (h:Mv X w w') {p:Addr} (hp:p.block < w.heap.size) (hx:¬ X p.block):w'.cell? p=w.cell? p:=World.cell?_of_block (h.block p.block hp hx)
theorem Mv.below {X:Nat→Prop} {w0 w w':World} (h:Mv X w w') (h0:Ext w0 w) (hx:∀ i,X i→w0.heap.size≤i):Ext w0 w' :=
 ⟨h.os.trans h0.os,h.tape.trans h0.tape,h.output.trans h0.output,Nat.le_trans h0.size h.size,fun i hi=>(h.block i (Nat.lt_of_lt_of_le hi h0.size) fun hX=>absurd hi (Nat.not_lt.2 (hx i hX))).trans (h0.block i hi)⟩
theorem Mv.own {X:Nat→Prop} {w w':World} (h:Mv X w w') {base:Nat} {e:TypeId} {size:Nat} {v:Value} {n:Nat} {xs:List Value} (hO:w.ownsRow base e size v n xs) (hx:∀ g,v.ownBlock=some g→¬ X g):w'.ownsRow base e size v n xs:=by
 rcases hO.2 with ⟨rfl,h0⟩ | ⟨g,cap,cur,rfl,hb,hh,hrest⟩
 ·exact ⟨hO.1,.inl ⟨rfl,h0⟩⟩
 ·have hg:g < w.heap.size:=by
   rcases Nat.lt_or_ge g w.heap.size with hlt | hge
   ·exact hlt
   ·rw [Array.getElem?_eq_none hge] at hh; cases hh
  exact ⟨hO.1,.inr ⟨g,cap,cur,rfl,hb,(h.block g hg (hx g rfl)).trans hh,hrest⟩⟩
theorem Reads.mv {X:Nat→Prop} {w w':World} {size n:Nat} {A:Option Addr} {xs:List Value} (h:Reads w w.heap.size size A n xs) (hm:Mv X w w') (hx:∀ a,A=some a→¬ X a.block):Reads w' w'.heap.size size A n xs :=
 ⟨h.1,fun hn=>by
  obtain ⟨ad,e,hb,hc⟩:=h.2 hn;exact ⟨ad,e,Nat.lt_of_lt_of_le hb hm.size,fun j u hu=>(hm.cell (by rw [Qbk]; exact hb) (by rw [Qbk]; exact hx ad e)).trans (hc j u hu)⟩⟩
def NamedAt (w:World) (B:Nat) (A:Option Addr) (n:Nat) (nm:Nat→Wd) (ty:Nat→Ty):Prop :=
 0 < n→∃ b o,A=some ⟨b,o,none⟩∧b < B∧∀ i,i < n→∃ vt,w.rangeAt b (o + i * 11) ([.string (nm i).1,.int .i64 (nm i).2] ++ vt)∧TyAt w B (ty i) vt
theorem NamedAt.ext {w w':World} {A:Option Addr} {n:Nat} {nm:Nat→Wd} {ty:Nat→Ty} (h:NamedAt w w.heap.size A n nm ty) (hE:Ext w w'):NamedAt w' w'.heap.size A n nm ty:=by
 intro hn;obtain ⟨b,o,e,hb,hc⟩:=h hn;refine ⟨b,o,e,Nat.lt_of_lt_of_le hb hE.size,fun i hi=>?_⟩
 obtain ⟨vt,h1,h2⟩:=hc i hi;exact ⟨vt,fun j v hv=>(hE.cell (p:=⟨b,o + i * 11 + j,none⟩) hb).trans (h1 j v hv),h2.ext hE⟩
def SchAt (w:World) (s:Sch) (vs:List Value):Prop :=
 ∃ A1 c1 A2 c2 A3 c3 vr,vs = [.slice A1 s.ws.length c1,.slice A2 s.os.length c2,.slice A3 s.n c3] ++ vr∧WdsAt w w.heap.size A1 s.ws∧OdsAt w w.heap.size A2 s.os∧NamedAt w w.heap.size A3 s.n s.nm s.ty∧TyAt w w.heap.size s.root vr
theorem SchAt.ext {w w':World} {s:Sch} {vs:List Value} (h:SchAt w s vs) (hE:Ext w w'):SchAt w' s vs:=by
 obtain ⟨A1,c1,A2,c2,A3,c3,vr,e,h1,h2,h3,h4⟩:=h;exact ⟨A1,c1,A2,c2,A3,c3,vr,e,h1.ext hE,h2.ext hE,h3.ext hE,h4.ext hE⟩
structure SchSz (s:Sch):Prop where
 ws:Qi s.ws
 os:s.os.length≤5864062014634
 n:s.n≤5864062014634
 nm:∀ i,i < s.n→(s.nm i).1.size≤maxLen
 ty:∀ i,i < s.n→Qr (s.ty i)
 root:Qr s.root
theorem SchSz.all {s:Sch} (h:SchSz s) (i:Nat) (_hi:i≤s.n):Qr (s.all i):=by
 unfold Sch.all;split
 ·exact h.ty i (by assumption)
 ·exact h.root
structure LatOk (s:Sch):Prop where
 few:s.ws.length≤32
 lat:LatM.Lat s.ws.length (leqL s.ws s.os)
theorem Qln {s:Sch} (h:(wrongL s.ws s.os).1=0):LatOk s:=⟨(Qgy h).few,(Qgy h).lat⟩
def edgeV (e:EdgeP):List Value:=[.string e.name,.bool e.bare,.int .i64 e.at_,.int .i64 e.tgt,.int .i64 e.label,.int .i64 e.wide,.int .i64 e.coarse,.int .i64 e.n,.int .i64 e.seen,.int .i64 e.cat]
def edgeCells (l:List EdgeP):List Value:=l.flatMap edgeV
theorem Qhu (a b:List EdgeP):edgeCells (a ++ b)=edgeCells a ++ edgeCells b:=by simp [edgeCells]
theorem edgeCells_one (l:List EdgeP):∀ u ∈ edgeCells l,u.oneCell'=true:=by
 intro u hu;obtain ⟨e,_,hu⟩:=List.mem_flatMap.1 hu;simp [edgeV] at hu
 rcases hu with rfl | rfl | rfl | rfl | rfl | rfl | rfl | rfl | rfl | rfl <;> rfl
theorem Qkm (l:List EdgeP):∀ (k:Nat) (hk:k < l.length) (j:Nat) (v:Value),(edgeV l[k])[j]? = some v→(edgeCells l)[k * 10 + j]? = some v:=by
 induction l with
 | nil=>intro k hk; simp at hk
 | cons e r ih =>
  intro k hk j v hv;show (edgeV e ++ edgeCells r)[k * 10 + j]? = some v
  have hl:(edgeV e).length=10:=rfl;cases k with
  | zero =>
   have hv':(edgeV e)[j]? = some v:=hv;have hj:j < (edgeV e).length:=(List.getElem?_eq_some_iff.1 hv').1;rw [Nat.zero_mul,Nat.zero_add,List.getElem?_append_left hj];exact hv'
  | succ k =>
   rw [List.getElem?_append_right (by rw [hl]; omega),hl,show (k + 1) * 10 + j - 10=k * 10 + j by omega]
   exact ih k (by simpa using hk) j v hv
def EdgesAt (w:World) (B:Nat) (A:Option Addr) (l:List EdgeP):Prop:=Reads w B 10 A l.length (edgeCells l)
theorem EdgesAt.ext {w w':World} {A:Option Addr} {l:List EdgeP} (h:EdgesAt w w.heap.size A l) (hE:Ext w w'):EdgesAt w' w'.heap.size A l :=
 (Reads.keep h fun _p hp=>hE.cell hp).more hE.size
theorem EdgesAt.cell {w:World} {B:Nat} {A:Option Addr} {l:List EdgeP} (h:EdgesAt w B A l) (hn:0 < l.length):∃ b o,A=some ⟨b,o,none⟩∧b < B∧∀ k (hk:k < l.length),w.rangeAt b (o + k * 10) (edgeV l[k]):=by
 obtain ⟨b,o,e,hb,hc⟩:=h.form hn (by omega)
 refine ⟨b,o,e,hb,fun k hk j v hv=>?_⟩
 have:=hc (k * 10 + j) v (Qkm l k hk j v hv)
 rw [← Nat.add_assoc] at this;exact this
def nodeV (d:NodeP) (An:Option Addr) (cn:Nat) (Ae:Option Addr) (ce:Nat):List Value:=[.int .i64 d.kind,.int .i64 d.at_,.int .i64 d.lo,.int .i64 d.hi,.int .i64 d.most,.slice An d.names.length cn,.slice Ae d.edges.length ce]
def ElAt (w:World) (d:NodeP) (D:Nat→Prop) (vs:List Value):Prop :=
 ∃ An cn Ae ce,vs=nodeV d An cn Ae ce∧StrAt w w.heap.size An d.names∧EdgesAt w w.heap.size Ae d.edges∧(∀ a,An=some a→D a.block)∧(∀ a,Ae=some a→D a.block)
theorem ElAt.mv {X D D':Nat→Prop} {w w':World} {d:NodeP} {vs:List Value} (h:ElAt w d D vs) (hm:Mv X w w') (hD:∀ i,D i→¬ X i∧D' i):ElAt w' d D' vs:=by
 obtain ⟨An,cn,Ae,ce,e,h1,h2,h3,h4⟩:=h;exact ⟨An,cn,Ae,ce,e,Reads.mv h1 hm fun a ha=>(hD _ (h3 a ha)).1,Reads.mv h2 hm fun a ha=>(hD _ (h4 a ha)).1,fun a ha=>(hD _ (h3 a ha)).2,fun a ha=>(hD _ (h4 a ha)).2⟩
theorem ElAt.len {w:World} {d:NodeP} {D:Nat→Prop} {vs:List Value} (h:ElAt w d D vs):vs.length=7:=by
 obtain ⟨An,cn,Ae,ce,rfl,_⟩:=h; rfl
end Go.Proofs.YtanpljalbijfkaaGreat
