/- . -/
import Derived.Test.YtanpljalbijfkaaGreatQ07
import Derived.Test.YtanpljalbijfkaaGreatQ08
import Derived.Test.YtanpljalbijfkaaGreatQ11
import Derived.Test.YtanpljalbijfkaaGreatQ12
import Derived.Test.YtanpljalbijfkaaGreatQ14
import Derived.Test.YtanpljalbijfkaaGreatQ18
namespace Go.Proofs.YtanpljalbijfkaaGreat
open Go.RowKit
set_option maxHeartbeats 16000000
def Qh8 (kd a lo hi mo s1 d m1:Int) (OB RB:Bool) (EN:Flt) (SUB:Wr):Wr :=
 if 24 < d then ((6,a),m1) else if 512 < m1 then ((8,a),m1) else if kd < 1∨9 < kd then ((14,a),m1) else if OB=false then ((19,a),m1) else
 if kd=2 then (if hi < lo then ((20,a),m1) else ((0,0),m1)) else if kd=3 then (if mo < 0∨4096 < mo then ((20,a),m1) else ((0,0),m1)) else
 if kd=4 then (EN,m1) else if kd=5∨kd=6∨kd=7∨kd=8 then SUB else if kd=9 then (if RB=true then ((0,0),m1) else ((9,s1),m1)) else ((0,0),m1)
set_option maxRecDepth 100000 in
theorem Qpn (kd a lo hi mo s1 d m m1:Int) (s0:ByteArray) (nn cn n cp:Nat) (An Ap:Option Addr) (gc:Nat) (w:World) (OB RB:Bool) (EN:Flt) (SUB:Wr) (hm1:m1=IntKind.i64.wrap (m + 1)) (hC:Blk w gc 180 #[.int .i64 m])
  (hown:∀ w1,Grw gc w w1→Calls Tryz.prog 128 #[.agg #[.int .i64 kd,.int .i64 a,.int .i64 lo,.int .i64 hi,.int .i64 mo,.slice An nn cn,.slice Ap n cp,.string s0,.int .i64 s1]] w1 (fun e w'=>e = .returned (.bool OB)∧Ext w1 w'))
  (henum:kd=4→∀ w1,Grw gc w w1→Calls Tryz.prog 129 #[.agg #[.int .i64 kd,.int .i64 a,.int .i64 lo,.int .i64 hi,.int .i64 mo,.slice An nn cn,.slice Ap n cp,.string s0,.int .i64 s1]] w1 (fun e w'=>e = .returned (Qe EN)∧Ext w1 w'))
  (hone:kd=5∨kd=6→∀ w1,Grw gc w w1→Blk w1 gc 180 #[.int .i64 m1]→Calls Tryz.prog 130 #[.pointer (some ⟨gc,0,none⟩),.agg #[.int .i64 kd,.int .i64 a,.int .i64 lo,.int .i64 hi,.int .i64 mo,.slice An nn cn,.slice Ap n cp,.string s0,.int .i64 s1],.int .i64 d] w1 (Qa2 SUB gc w1))
  (hparts:kd=7∨kd=8→∀ w1,Grw gc w w1→Blk w1 gc 180 #[.int .i64 m1]→Calls Tryz.prog 131 #[.pointer (some ⟨gc,0,none⟩),.agg #[.int .i64 kd,.int .i64 a,.int .i64 lo,.int .i64 hi,.int .i64 mo,.slice An nn cn,.slice Ap n cp,.string s0,.int .i64 s1],.int .i64 d] w1 (Qa2 SUB gc w1))
  (hright:∀ w1:World,Calls Tryz.prog 68 #[.string s0] w1 (fun e w'=>e = .returned (.bool RB)∧w1=w')) :
  Calls Tryz.prog 107 #[.pointer (some ⟨gc,0,none⟩),.agg #[.int .i64 kd,.int .i64 a,.int .i64 lo,.int .i64 hi,.int .i64 mo,.slice An nn cn,.slice Ap n cp,.string s0,.int .i64 s1],.int .i64 d] w (Qa2 (Qh8 kd a lo hi mo s1 d m1 OB RB EN SUB) gc w):=by
 have hx:Qh8 kd a lo hi mo s1 d m1 OB RB EN SUB=if 24 < d then ((6,a),m1) else if 512 < m1 then ((8,a),m1) else if kd < 1∨9 < kd then ((14,a),m1) else if OB=false then ((19,a),m1) else
  if kd=2 then (if hi < lo then ((20,a),m1) else ((0,0),m1)) else if kd=3 then (if mo < 0∨4096 < mo then ((20,a),m1) else ((0,0),m1)) else
  if kd=4 then (EN,m1) else if kd=5∨kd=6∨kd=7∨kd=8 then SUB else if kd=9 then (if RB=true then ((0,0),m1) else ((9,s1),m1)) else ((0,0),m1):=rfl
 generalize Qh8 kd a lo hi mo s1 d m1 OB RB EN SUB=R at hx ⊢
 obtain ⟨w0,hw0⟩:=V1 ((w.alloc (.cells #[.int .i64 kd,.int .i64 a,.int .i64 lo,.int .i64 hi,.int .i64 mo,.slice An nn cn,.slice Ap n cp,.string s0,.int .i64 s1] 29)).alloc (.cells #[.int .i64 0,.int .i64 0] 34))
 have hT:Blk w0 w.heap.size 29 #[.int .i64 kd,.int .i64 a,.int .i64 lo,.int .i64 hi,.int .i64 mo,.slice An nn cn,.slice Ap n cp,.string s0,.int .i64 s1]:=by rw [hw0]; exact (Blk.new _ _ _).alloc _
 have hF:Blk w0 (w.heap.size + 1) 34 #[.int .i64 0,.int .i64 0]:=by
  rw [hw0]; have:=Blk.new (w.alloc (.cells #[.int .i64 kd,.int .i64 a,.int .i64 lo,.int .i64 hi,.int .i64 mo,.slice An nn cn,.slice Ap n cp,.string s0,.int .i64 s1] 29)) 34 #[.int .i64 0,.int .i64 0]; simpa only [World.size_alloc] using this
 have hE:Ext w w0:=by rw [hw0]; exact ((Ext.rfl' w).alloc nL _).alloc (by simp only [World.size_alloc]; omega) _
 have hC0:Blk w0 gc 180 #[.int .i64 m]:=hC.ext hE
 have hgl:=hC.lt
 have n1:w.heap.size + 1≠gc:=by omega
 have n2:w.heap.size≠gc:=by omega
 have hlo:w.heap.size≤w.heap.size + 1:=Nat.le_succ _
 obtain ⟨w1,hw1⟩:=V1 (w0.setCell ⟨gc,0,none⟩ (.int .i64 m1))
 have hT1:Blk w1 w.heap.size 29 #[.int .i64 kd,.int .i64 a,.int .i64 lo,.int .i64 hi,.int .i64 mo,.slice An nn cn,.slice Ap n cp,.string s0,.int .i64 s1]:=by rw [hw1]; exact hT.far n2 _
 have hF1:Blk w1 (w.heap.size + 1) 34 #[.int .i64 0,.int .i64 0]:=by rw [hw1]; exact hF.far n1 _
 have hC1:Blk w1 gc 180 #[.int .i64 m1]:=by rw [hw1]; exact hC0.set_ 0 _
 have hE1:Grw gc w w1:=by rw [hw1]; exact (Grw.of_ext hE).set (.inr rfl) _
 obtain ⟨gf,hgf,gt,hgt⟩:=V2 (w.heap.size + 1) (w.heap.size)
 rw [← hgf] at hF1 hlo n1
 rw [← hgt] at hT1
 obtain ⟨HX,HW,HW1,HGF,HGT,HF1,HE1,HC1⟩:=Z8 hx hw0 hw1 hgf hgt hF1 hE1 hC1
 obtain ⟨HT1,HN,HLO⟩:=Z3 hT1 n1 hlo
 have HM:=Qa (show m1=wrap64 (m + 1) by rw [hm1]; exact IntWalk.i64_left _)
 obtain ⟨HOWN,HENUM,HONE,HPARTS,HRIGHT⟩:=Z5 hown henum hone hparts hright
 have c0:=X1 hC0
 have cf:=hC0.free 0
 clear hx hw0 hw1 hF hF1 hE hE1 hC0 hC1 hT hT1 n1 n2 hlo hgf hgt hgl hC hown henum hone hparts hright hm1
 go_enter Tryz.func107,Tryz.ntmps107
 go_upto_region 1 with fail
 rw [← HW.out,← HGF.out,← HGT.out]
 go_upto_region 2 with fail
 rw [← HM.out,← HW1.out]
 clear c0 cf
 obtain ⟨t0,t1,t2,t3,t4,t5,t6,t7,t8⟩:=X9 HT1.out
 obtain ⟨b0,b1⟩:=X2 HF1.out
 obtain ⟨f0,f1⟩:=Y2 HF1.out
 have c0:=X1 HC1.out
 by_cases c1:24 < d
 ·have HR:=Qa (show R=((6,a),m1) by rw [HX.out,if_pos c1])
  go_wp2_with fail
  refine (Qk 6 a _).mono ?_
  rintro e w5 ⟨rfl,hE5⟩
  obtain ⟨HF5,HE5,HC5⟩:=Z3 (HF1.out.ext hE5) (HE1.out.ext hE5) (HC1.out.ext hE5)
  obtain ⟨b0,b1⟩:=X2 HF5.out
  obtain ⟨f0,f1⟩:=Y2 HF5.out
  unfold Qe
  clear hE5
  go_wp2_with fail
  exact Qc (f:=(6,a)) (g:=gf) ((HF5.out.set_ 0 _).set_ 1 _) rfl rfl rfl ⟨by rw [HR.out],(HE5.out.set (.inl HLO.out) _).set (.inl HLO.out) _,by rw [HR.out]; exact (HC5.out.far HN.out.symm _).far HN.out.symm _⟩
 have HX2:=Qa (HX.out.trans (if_neg c1))
 by_cases c2:512 < m1
 ·have HR:=Qa (show R=((8,a),m1) by rw [HX2.out,if_pos c2])
  go_wp2_with fail
  refine (Qk 8 a _).mono ?_
  rintro e w5 ⟨rfl,hE5⟩
  obtain ⟨HF5,HE5,HC5⟩:=Z3 (HF1.out.ext hE5) (HE1.out.ext hE5) (HC1.out.ext hE5)
  obtain ⟨b0,b1⟩:=X2 HF5.out
  obtain ⟨f0,f1⟩:=Y2 HF5.out
  unfold Qe
  clear hE5
  go_wp2_with fail
  exact Qc (f:=(8,a)) (g:=gf) ((HF5.out.set_ 0 _).set_ 1 _) rfl rfl rfl ⟨by rw [HR.out],(HE5.out.set (.inl HLO.out) _).set (.inl HLO.out) _,by rw [HR.out]; exact (HC5.out.far HN.out.symm _).far HN.out.symm _⟩
 have HX3:=Qa (HX2.out.trans (if_neg c2))
 by_cases c3:kd < 1
 ·have HR:=Qa (show R=((14,a),m1) by rw [HX3.out,if_pos (.inl c3)])
  go_wp2_with fail
  refine (Qk 14 a _).mono ?_
  rintro e w5 ⟨rfl,hE5⟩
  obtain ⟨HF5,HE5,HC5⟩:=Z3 (HF1.out.ext hE5) (HE1.out.ext hE5) (HC1.out.ext hE5)
  obtain ⟨b0,b1⟩:=X2 HF5.out
  obtain ⟨f0,f1⟩:=Y2 HF5.out
  unfold Qe
  clear hE5
  go_wp2_with fail
  exact Qc (f:=(14,a)) (g:=gf) ((HF5.out.set_ 0 _).set_ 1 _) rfl rfl rfl ⟨by rw [HR.out],(HE5.out.set (.inl HLO.out) _).set (.inl HLO.out) _,by rw [HR.out]; exact (HC5.out.far HN.out.symm _).far HN.out.symm _⟩
 by_cases c4:9 < kd
 ·have HR:=Qa (show R=((14,a),m1) by rw [HX3.out,if_pos (.inr c4)])
  go_wp2_with fail
  refine (Qk 14 a _).mono ?_
  rintro e w5 ⟨rfl,hE5⟩
  obtain ⟨HF5,HE5,HC5⟩:=Z3 (HF1.out.ext hE5) (HE1.out.ext hE5) (HC1.out.ext hE5)
  obtain ⟨b0,b1⟩:=X2 HF5.out
  obtain ⟨f0,f1⟩:=Y2 HF5.out
  unfold Qe
  clear hE5
  go_wp2_with fail
  exact Qc (f:=(14,a)) (g:=gf) ((HF5.out.set_ 0 _).set_ 1 _) rfl rfl rfl ⟨by rw [HR.out],(HE5.out.set (.inl HLO.out) _).set (.inl HLO.out) _,by rw [HR.out]; exact (HC5.out.far HN.out.symm _).far HN.out.symm _⟩
 have HX4:=Qa (HX3.out.trans (if_neg (fun hh=>hh.elim c3 c4)))
 clear HX HX2 HX3
 go_upto_region 8 with fail
 clear c0
 go_wp2_with fail
 refine (HOWN.out _ HE1.out).mono ?_
 rintro e w3 ⟨rfl,hE3⟩
 obtain ⟨HF3,HE3,HC3,HT3⟩:=Z4 (HF1.out.ext hE3) (HE1.out.ext hE3) (HC1.out.ext hE3) (HT1.out.ext hE3)
 obtain ⟨t0,t1,t2,t3,t4,t5,t6,t7,t8⟩:=X9 HT3.out
 obtain ⟨b0,b1⟩:=X2 HF3.out
 obtain ⟨f0,f1⟩:=Y2 HF3.out
 clear hE3
 cases OB with
 | false =>
  have HR:=Qa (show R=((19,a),m1) by rw [HX4.out,if_pos rfl])
  go_wp2_with fail
  refine (Qk 19 a _).mono ?_
  rintro e w5 ⟨rfl,hE5⟩
  obtain ⟨HF5,HE5,HC5⟩:=Z3 (HF3.out.ext hE5) (HE3.out.ext hE5) (HC3.out.ext hE5)
  obtain ⟨b0,b1⟩:=X2 HF5.out
  obtain ⟨f0,f1⟩:=Y2 HF5.out
  unfold Qe
  clear hE5
  go_wp2_with fail
  exact Qc (f:=(19,a)) (g:=gf) ((HF5.out.set_ 0 _).set_ 1 _) rfl rfl rfl ⟨by rw [HR.out],(HE5.out.set (.inl HLO.out) _).set (.inl HLO.out) _,by rw [HR.out]; exact (HC5.out.far HN.out.symm _).far HN.out.symm _⟩
 | true =>
 have HX5:=Qa (HX4.out.trans (if_neg (by decide)))
 clear HX4
 go_upto_region 10 with fail
 by_cases k2:kd=2
 ·subst k2
  by_cases e1:hi < lo
  ·have HR:=Qa (show R=((20,a),m1) by rw [HX5.out,if_pos rfl,if_pos e1])
   go_wp2_with fail
   refine (Qk 20 a _).mono ?_
   rintro e w5 ⟨rfl,hE5⟩
   obtain ⟨HF5,HE5,HC5⟩:=Z3 (HF3.out.ext hE5) (HE3.out.ext hE5) (HC3.out.ext hE5)
   obtain ⟨b0,b1⟩:=X2 HF5.out
   obtain ⟨f0,f1⟩:=Y2 HF5.out
   unfold Qe
   clear hE5
   go_wp2_with fail
   exact Qc (f:=(20,a)) (g:=gf) ((HF5.out.set_ 0 _).set_ 1 _) rfl rfl rfl ⟨by rw [HR.out],(HE5.out.set (.inl HLO.out) _).set (.inl HLO.out) _,by rw [HR.out]; exact (HC5.out.far HN.out.symm _).far HN.out.symm _⟩
  ·have HR:=Qa (show R=((0,0),m1) by rw [HX5.out,if_pos rfl,if_neg e1])
   go_wp2_with fail
   exact Qc (f:=(0,0)) (g:=gf) ((HF3.out.set_ 0 _).set_ 1 _) rfl rfl rfl ⟨by rw [HR.out],(HE3.out.set (.inl HLO.out) _).set (.inl HLO.out) _,by rw [HR.out]; exact (HC3.out.far HN.out.symm _).far HN.out.symm _⟩
 by_cases k3:kd=3
 ·subst k3
  by_cases e1:mo < 0
  ·have HR:=Qa (show R=((20,a),m1) by rw [HX5.out,if_neg (by decide),if_pos rfl,if_pos (.inl e1)])
   go_wp2_with fail
   refine (Qk 20 a _).mono ?_
   rintro e w5 ⟨rfl,hE5⟩
   obtain ⟨HF5,HE5,HC5⟩:=Z3 (HF3.out.ext hE5) (HE3.out.ext hE5) (HC3.out.ext hE5)
   obtain ⟨b0,b1⟩:=X2 HF5.out
   obtain ⟨f0,f1⟩:=Y2 HF5.out
   unfold Qe
   clear hE5
   go_wp2_with fail
   exact Qc (f:=(20,a)) (g:=gf) ((HF5.out.set_ 0 _).set_ 1 _) rfl rfl rfl ⟨by rw [HR.out],(HE5.out.set (.inl HLO.out) _).set (.inl HLO.out) _,by rw [HR.out]; exact (HC5.out.far HN.out.symm _).far HN.out.symm _⟩
  by_cases e2:4096 < mo
  ·have HR:=Qa (show R=((20,a),m1) by rw [HX5.out,if_neg (by decide),if_pos rfl,if_pos (.inr e2)])
   go_wp2_with fail
   refine (Qk 20 a _).mono ?_
   rintro e w5 ⟨rfl,hE5⟩
   obtain ⟨HF5,HE5,HC5⟩:=Z3 (HF3.out.ext hE5) (HE3.out.ext hE5) (HC3.out.ext hE5)
   obtain ⟨b0,b1⟩:=X2 HF5.out
   obtain ⟨f0,f1⟩:=Y2 HF5.out
   unfold Qe
   clear hE5
   go_wp2_with fail
   exact Qc (f:=(20,a)) (g:=gf) ((HF5.out.set_ 0 _).set_ 1 _) rfl rfl rfl ⟨by rw [HR.out],(HE5.out.set (.inl HLO.out) _).set (.inl HLO.out) _,by rw [HR.out]; exact (HC5.out.far HN.out.symm _).far HN.out.symm _⟩
  ·have HR:=Qa (show R=((0,0),m1) by rw [HX5.out,if_neg (by decide),if_pos rfl,if_neg (fun hh=>hh.elim e1 e2)])
   go_wp2_with fail
   exact Qc (f:=(0,0)) (g:=gf) ((HF3.out.set_ 0 _).set_ 1 _) rfl rfl rfl ⟨by rw [HR.out],(HE3.out.set (.inl HLO.out) _).set (.inl HLO.out) _,by rw [HR.out]; exact (HC3.out.far HN.out.symm _).far HN.out.symm _⟩
 by_cases k4:kd=4
 ·subst k4
  have HR:=Qa (show R=(EN,m1) by rw [HX5.out,if_neg (by decide),if_neg (by decide),if_pos rfl])
  obtain ⟨D1,D2⟩:=EN
  go_upto_region 18 with fail
  go_wp2_with fail
  refine (HENUM.out (by trivial) _ HE3.out).mono ?_
  rintro e w8 ⟨rfl,hE8⟩
  obtain ⟨HF8,HE8,HC8⟩:=Z3 (HF3.out.ext hE8) (HE3.out.ext hE8) (HC3.out.ext hE8)
  obtain ⟨b0,b1⟩:=X2 HF8.out
  obtain ⟨f0,f1⟩:=Y2 HF8.out
  unfold Qe
  clear hE8
  go_wp2_with fail
  exact Qc (f:=(D1,D2)) (g:=gf) ((HF8.out.set_ 0 _).set_ 1 _) rfl rfl rfl ⟨by rw [HR.out],(HE8.out.set (.inl HLO.out) _).set (.inl HLO.out) _,by rw [HR.out]; exact (HC8.out.far HN.out.symm _).far HN.out.symm _⟩
 by_cases k5:kd=5
 ·subst k5
  have HR:=Qa (show R=SUB by rw [HX5.out,if_neg (by decide),if_neg (by decide),if_neg (by decide),if_pos (by decide)])
  go_wp2_with fail
  refine (HONE.out (by decide) _ HE3.out HC3.out).mono ?_
  rintro e w8 ⟨rfl,hE8,hC8⟩
  obtain ⟨⟨D1,D2⟩,D3⟩:=SUB
  obtain ⟨HF8,HE8,HC8⟩:=Z3 (hE8.blk HF3.out HN.out) (HE3.out.trans hE8) hC8
  obtain ⟨b0,b1⟩:=X2 HF8.out
  obtain ⟨f0,f1⟩:=Y2 HF8.out
  unfold Qe
  clear hE8 hC8
  go_wp2_with fail
  exact Qc (f:=(D1,D2)) (g:=gf) ((HF8.out.set_ 0 _).set_ 1 _) rfl rfl rfl ⟨by rw [HR.out],(HE8.out.set (.inl HLO.out) _).set (.inl HLO.out) _,by rw [HR.out]; exact (HC8.out.far HN.out.symm _).far HN.out.symm _⟩
 by_cases k6:kd=6
 ·subst k6
  have HR:=Qa (show R=SUB by rw [HX5.out,if_neg (by decide),if_neg (by decide),if_neg (by decide),if_pos (by decide)])
  go_wp2_with fail
  refine (HONE.out (by decide) _ HE3.out HC3.out).mono ?_
  rintro e w8 ⟨rfl,hE8,hC8⟩
  obtain ⟨⟨D1,D2⟩,D3⟩:=SUB
  obtain ⟨HF8,HE8,HC8⟩:=Z3 (hE8.blk HF3.out HN.out) (HE3.out.trans hE8) hC8
  obtain ⟨b0,b1⟩:=X2 HF8.out
  obtain ⟨f0,f1⟩:=Y2 HF8.out
  unfold Qe
  clear hE8 hC8
  go_wp2_with fail
  exact Qc (f:=(D1,D2)) (g:=gf) ((HF8.out.set_ 0 _).set_ 1 _) rfl rfl rfl ⟨by rw [HR.out],(HE8.out.set (.inl HLO.out) _).set (.inl HLO.out) _,by rw [HR.out]; exact (HC8.out.far HN.out.symm _).far HN.out.symm _⟩
 by_cases k7:kd=7
 ·subst k7
  have HR:=Qa (show R=SUB by rw [HX5.out,if_neg (by decide),if_neg (by decide),if_neg (by decide),if_pos (by decide)])
  go_wp2_with fail
  refine (HPARTS.out (by decide) _ HE3.out HC3.out).mono ?_
  rintro e w8 ⟨rfl,hE8,hC8⟩
  obtain ⟨⟨D1,D2⟩,D3⟩:=SUB
  obtain ⟨HF8,HE8,HC8⟩:=Z3 (hE8.blk HF3.out HN.out) (HE3.out.trans hE8) hC8
  obtain ⟨b0,b1⟩:=X2 HF8.out
  obtain ⟨f0,f1⟩:=Y2 HF8.out
  unfold Qe
  clear hE8 hC8
  go_wp2_with fail
  exact Qc (f:=(D1,D2)) (g:=gf) ((HF8.out.set_ 0 _).set_ 1 _) rfl rfl rfl ⟨by rw [HR.out],(HE8.out.set (.inl HLO.out) _).set (.inl HLO.out) _,by rw [HR.out]; exact (HC8.out.far HN.out.symm _).far HN.out.symm _⟩
 by_cases k8:kd=8
 ·subst k8
  have HR:=Qa (show R=SUB by rw [HX5.out,if_neg (by decide),if_neg (by decide),if_neg (by decide),if_pos (by decide)])
  go_wp2_with fail
  refine (HPARTS.out (by decide) _ HE3.out HC3.out).mono ?_
  rintro e w8 ⟨rfl,hE8,hC8⟩
  obtain ⟨⟨D1,D2⟩,D3⟩:=SUB
  obtain ⟨HF8,HE8,HC8⟩:=Z3 (hE8.blk HF3.out HN.out) (HE3.out.trans hE8) hC8
  obtain ⟨b0,b1⟩:=X2 HF8.out
  obtain ⟨f0,f1⟩:=Y2 HF8.out
  unfold Qe
  clear hE8 hC8
  go_wp2_with fail
  exact Qc (f:=(D1,D2)) (g:=gf) ((HF8.out.set_ 0 _).set_ 1 _) rfl rfl rfl ⟨by rw [HR.out],(HE8.out.set (.inl HLO.out) _).set (.inl HLO.out) _,by rw [HR.out]; exact (HC8.out.far HN.out.symm _).far HN.out.symm _⟩
 by_cases k9:kd=9
 ·subst k9
  cases RB with
  | true =>
   have HR:=Qa (show R=((0,0),m1) by rw [HX5.out,if_neg (by decide),if_neg (by decide),if_neg (by decide),if_neg (by decide),if_pos rfl,if_pos rfl])
   go_wp2_with fail
   refine (HRIGHT.out _).mono ?_
   rintro e w8 ⟨rfl,rfl⟩
   go_wp2_with fail
   exact Qc (f:=(0,0)) (g:=gf) ((HF3.out.set_ 0 _).set_ 1 _) rfl rfl rfl ⟨by rw [HR.out],(HE3.out.set (.inl HLO.out) _).set (.inl HLO.out) _,by rw [HR.out]; exact (HC3.out.far HN.out.symm _).far HN.out.symm _⟩
  | false =>
   have HR:=Qa (show R=((9,s1),m1) by rw [HX5.out,if_neg (by decide),if_neg (by decide),if_neg (by decide),if_neg (by decide),if_pos rfl,if_neg (by decide)])
   go_wp2_with fail
   refine (HRIGHT.out _).mono ?_
   rintro e w8 ⟨rfl,rfl⟩
   go_wp2_with fail
   refine (Qk 9 s1 _).mono ?_
   rintro e w5 ⟨rfl,hE5⟩
   obtain ⟨HF5,HE5,HC5⟩:=Z3 (HF3.out.ext hE5) (HE3.out.ext hE5) (HC3.out.ext hE5)
   obtain ⟨b0,b1⟩:=X2 HF5.out
   obtain ⟨f0,f1⟩:=Y2 HF5.out
   unfold Qe
   clear hE5
   go_wp2_with fail
   exact Qc (f:=(9,s1)) (g:=gf) ((HF5.out.set_ 0 _).set_ 1 _) rfl rfl rfl ⟨by rw [HR.out],(HE5.out.set (.inl HLO.out) _).set (.inl HLO.out) _,by rw [HR.out]; exact (HC5.out.far HN.out.symm _).far HN.out.symm _⟩
 obtain rfl:kd=1:=by omega
 have HR:=Qa (show R=((0,0),m1) by rw [HX5.out,if_neg (by decide),if_neg (by decide),if_neg (by decide),if_neg (by decide),if_neg (by decide)])
 go_wp2_with fail
 exact Qc (f:=(0,0)) (g:=gf) ((HF3.out.set_ 0 _).set_ 1 _) rfl rfl rfl ⟨by rw [HR.out],(HE3.out.set (.inl HLO.out) _).set (.inl HLO.out) _,by rw [HR.out]; exact (HC3.out.far HN.out.symm _).far HN.out.symm _⟩
theorem Qsi (h:TyH) (n:Nat) (p:Nat→PtH) (t:Nat→Ty) (sub:Nat→Int→Wr) (d m:Int):Qf5 h n p t sub d m=Qh8 h.kind h.at_ h.lo h.hi h.most h.name.2 d m (Qff h n) (Qr h.name.1) (Qbk h.at_ h.names) (Qdm h n p t sub m):=by
 unfold Qf5 Qh8
 split
 ·rfl
 split
 ·rfl
 split
 ·rfl
 cases Qff h n with
 | false=>rfl
 | true =>
  rw [if_pos rfl,if_neg (show ¬ (true=false) by decide)]
  unfold Qdm
  split
  ·rfl
  split
  ·rfl
  split
  ·rfl
  by_cases c5:h.kind=5∨h.kind=6
  ·rw [if_pos c5,if_pos (show h.kind=5∨h.kind=6∨h.kind=7∨h.kind=8 by omega)]
  by_cases c7:h.kind=7∨h.kind=8
  ·rw [if_neg c5,if_pos c7,if_pos (show h.kind=5∨h.kind=6∨h.kind=7∨h.kind=8 by omega)]
  rw [if_neg c5,if_neg c7,if_neg (show ¬ (h.kind=5∨h.kind=6∨h.kind=7∨h.kind=8) by omega)]
theorem Qpo {h:TyH} {n:Nat} {p:Nat→PtH} {t:Nat→Ty} {sub:Nat→Int→Wr} {m:Int} (k:h.kind=5∨h.kind=6):Qdm h n p t sub m=Qgy h n p (sub 0) m:=by
 unfold Qdm
 rw [if_neg (show ¬ h.kind=2 by omega),if_neg (show ¬ h.kind=3 by omega),if_neg (show ¬ h.kind=4 by omega),if_pos k]
theorem Ql6 {h:TyH} {n:Nat} {p:Nat→PtH} {t:Nat→Ty} {sub:Nat→Int→Wr} {m:Int} (k:h.kind=7∨h.kind=8):Qdm h n p t sub m=Qem h n p (Qba h.kind n p t sub) m:=by
 unfold Qdm
 rw [if_neg (show ¬ h.kind=2 by omega),if_neg (show ¬ h.kind=3 by omega),if_neg (show ¬ h.kind=4 by omega),if_neg (show ¬ (h.kind=5∨h.kind=6) by omega),if_pos k]
theorem Qpp (h:TyH) (hk:h.kind=7∨h.kind=8) (n:Nat) (p:Nat→PtH) (t:Nat→Ty) (d m:Int) (gc B:Nat) (An Ap:Option Addr) (cn cp:Nat) (w:World) (hP:PartsAt w B Ap n p t) (hsz:∀ i,i < n→(p i).name.1.size≤maxLen∧Qo (p i).label∧Qo (p i).cl∧Q1 (t i)) (hBg:B≤gc) (hC:Blk w gc 180 #[.int .i64 m]) (hsub:∀ i,i < n→Qe2 (t i) (IntKind.i64.wrap (d + 1)) B) :
  Calls Tryz.prog 131 #[.pointer (some ⟨gc,0,none⟩),.agg (tyV h An cn Ap n cp).toArray,.int .i64 d] w (Qa2 (Qem h n p (Qba h.kind n p t (fun i m'=>chk (t i) (IntKind.i64.wrap (d + 1)) m')) m) gc w):=by
 unfold Qem tyV
 rcases hk with k | k
 ·rw [k,if_neg (show ¬ ((7:Int)=8∧n=0) from fun hh=>by cases hh.1)]
  exact Qsg h.at_ h.lo h.hi h.most h.name.2 h.name.1 h.names.length cn cp n An Ap p t d m gc B w hP hsz hBg hC hsub
 ·rw [k]
  simp only [true_and]
  exact Qsh h.at_ h.lo h.hi h.most h.name.2 h.name.1 h.names.length cn cp n An Ap p t d m gc B w hP hsz hBg hC hsub
theorem Qpq (t:Ty):Q1 t→∀ (d:Int) (B:Nat),Qe2 t d B:=by
 induction t with
 | nil=>intro h; exact h.elim
 | mk h n p t ih =>
  intro hsz d B gc m w vs hT hBg hC
  have hBw:B≤w.heap.size:=Nat.le_of_lt (Nat.lt_of_le_of_lt hBg hC.lt)
  have hTT:=id hT
  obtain ⟨An,cn,Ap,cp,hvs,hwd,hpp⟩:=hT.open_
  rw [Qkb,Qsi]
  have hsub:∀ i,i < n→Qe2 (t i) (IntKind.i64.wrap (d + 1)) B:=fun i hi=>ih i (hsz.2.2.2 i hi).2.2.2 _ _
  subst hvs
  refine Qpn h.kind h.at_ h.lo h.hi h.most h.name.2 d m _ h.name.1 h.names.length cn n cp An Ap gc w _ _ _ _ rfl hC ?_ ?_ ?_ ?_ ?_
  ·intro w1 hG
   exact Qrg h n p t w1 _ ((hTT.keep (hG.cells hBw hBg)).more (Nat.le_trans hBw hG.sz))
  ·intro _ w1 hG
   exact Qrf _ _ _ _ _ _ _ _ An cn _ h.names w1 (Reads.more (Reads.keep hwd (hG.cells hBw hBg)) (Nat.le_trans hBw hG.sz)) rfl hsz.1
  ·intro k w1 hG hC1
   rw [Qpo k]
   exact Qsf h n p t d _ gc B An Ap cn cp w1 (hpp.keep (hG.cells hBw hBg)) (fun i hi=>⟨(hsz.2.2.2 i hi).2.1,(hsz.2.2.2 i hi).2.2.1⟩) hBg hC1 (fun h0=>hsub 0 h0)
  ·intro k w1 hG hC1
   rw [Ql6 k]
   exact Qpp h k n p t d _ gc B An Ap cn cp w1 (hpp.keep (hG.cells hBw hBg)) (fun i hi=>hsz.2.2.2 i hi) hBg hC1 hsub
  ·intro w1
   exact Qcm h.name.1 w1 hsz.2.1
theorem Ql7 {gc:Nat} {w w':World} (h:Grw gc w w') (hg:w.heap.size≤gc):Ext w w' :=
 Q8 ⟨h.os,h.tape,h.output,h.size,fun i hi _=>h.block i hi (fun e=>by cases e; exact absurd hi (Nat.not_lt.2 hg))⟩
set_option maxRecDepth 100000 in
theorem Qnz (t:Ty) (w:World) (vs:List Value) (hT:TyAt w w.heap.size t vs) (hsz:Q1 t) :
  Calls Tryz.prog 70 #[.agg vs.toArray] w (fun e w'=>e = .returned (Qe (chk t 1 0).1)∧Ext w w'):=by
 have hchk:=Qpq t hsz 1 w.heap.size
 obtain ⟨R,hR⟩:=V1 (chk t 1 0)
 have hcall:=fun gc w1 (hE:Ext w w1) (hg:w.heap.size≤gc) (hC:Blk w1 gc 180 #[.int .i64 0])=>hchk gc 0 w1 vs (hT.keep fun q hq=>hE.cell hq) hg hC
 rw [← hR] at hcall ⊢
 obtain ⟨x0,x1,x2,x3,x4,x5,x6,x7,x8,rfl⟩:=hT.nine
 obtain ⟨w0,hw0⟩:=V1 ((w.alloc (.cells #[x0,x1,x2,x3,x4,x5,x6,x7,x8] 29)).alloc (.cells #[.int .i64 0,.int .i64 0] 34))
 have hT0:Blk w0 w.heap.size 29 #[x0,x1,x2,x3,x4,x5,x6,x7,x8]:=by rw [hw0]; exact (Blk.new _ _ _).alloc _
 have hF0:Blk w0 (w.heap.size + 1) 34 #[.int .i64 0,.int .i64 0]:=by
  rw [hw0]; have:=Blk.new (w.alloc (.cells #[x0,x1,x2,x3,x4,x5,x6,x7,x8] 29)) 34 #[.int .i64 0,.int .i64 0]; simpa only [World.size_alloc] using this
 have hE0:Ext w w0:=by rw [hw0]; exact ((Ext.rfl' w).alloc nL _).alloc (by simp only [World.size_alloc]; omega) _
 have hs0:w0.heap.size=w.heap.size + 2:=by rw [hw0]; simp only [World.size_alloc]
 obtain ⟨w1,hw1⟩:=V1 (w0.alloc (.cells #[.int .i64 0] 180))
 have hT1:Blk w1 w.heap.size 29 #[x0,x1,x2,x3,x4,x5,x6,x7,x8]:=by rw [hw1]; exact hT0.alloc _
 have hF1:Blk w1 (w.heap.size + 1) 34 #[.int .i64 0,.int .i64 0]:=by rw [hw1]; exact hF0.alloc _
 have hC1:=bN hw1
 have hE1:Ext w w1:=by rw [hw1]; exact hE0.alloc hE0.size _
 have n1:w.heap.size + 1≠w0.heap.size:=by omega
 have hlo:w.heap.size≤w.heap.size + 1:=Nat.le_succ _
 have hgl:w.heap.size≤w0.heap.size:=hE0.size
 obtain ⟨gc,hgc,gf,hgf,gt,hgt⟩:=V3 (w0.heap.size) (w.heap.size + 1) (w.heap.size)
 rw [← hgc] at n1 hgl hC1
 rw [← hgf] at hF1 hlo n1
 have hcl:=hcall gc w1 hE1 hgl hC1
 rw [← hgt] at hT1
 obtain ⟨t0,t1,t2,t3,t4,t5,t6,t7,t8⟩:=X9 hT1
 obtain ⟨HCL,HF,HE,HN,HLO,HGL,HW0,HW1⟩:=Z8 hcl hF1 hE1 n1 hlo hgl hw0 hw1
 obtain ⟨HGC,HGF,HGT⟩:=Z3 hgc hgf hgt
 clear hcl hF1 hE1 n1 hlo hw0 hw1 hgc hgf hgt hT1 hC1 hcall hgl hE0 hs0 hT0 hF0 hT hR hchk
 show Calls Tryz.prog 70 #[.agg #[x0,x1,x2,x3,x4,x5,x6,x7,x8]] w _
 go_enter Tryz.func70,Tryz.ntmps70
 go_upto_region 1 with fail
 rw [← HW0.out,← HGF.out,← HGT.out]
 go_upto_region 2 with fail
 rw [← HW1.out,← HGC.out]
 go_wp2_with fail
 refine HCL.out.mono ?_
 rintro e w8 ⟨rfl,hE8,hC8⟩
 obtain ⟨⟨D1,D2⟩,D3⟩:=R
 obtain ⟨HF8,HE8⟩:=Z2 (hE8.blk HF.out HN.out) (Ql7 ((Grw.of_ext HE.out).trans hE8) HGL.out)
 obtain ⟨b0,b1⟩:=X2 HF8.out
 obtain ⟨f0,f1⟩:=Y2 HF8.out
 unfold Qe
 clear hE8 hC8
 go_wp2_with fail
 exact Qc (f:=(D1,D2)) (g:=gf) ((HF8.out.set_ 0 _).set_ 1 _) rfl rfl rfl ⟨rfl,ext_two' HE8.out HLO.out _ _⟩
structure Mv (X:Nat→Prop) (w w':World):Prop where
 os:w'.os=w.os
 tape:w'.tape=w.tape
 output:w'.output=w.output
 size:w.heap.size≤w'.heap.size
 block:∀ i,i < w.heap.size→¬ X i→w'.heap[i]? = w.heap[i]?
theorem Mv.of_ext {X:Nat→Prop} {w w':World} (h:Ext w w'):Mv X w w':=⟨h.os,h.tape,h.output,h.size,fun i hi _=>h.block i hi⟩
theorem Mv.rfl' (X:Nat→Prop) (w:World):Mv X w w:=.of_ext (Ext.rfl' w)
theorem Mv.of_grown {X:Nat→Prop} {w w':World} {row:Option Nat} (h:w.grownBy w' row) (hr:∀ g,row=some g→X g):Mv X w w' :=
 ⟨h.os,h.tape,h.output,h.size,fun i hi hx=>h.block i hi fun e=>hx (hr i e.symm)⟩
theorem Mv.trans' {X Y:Nat→Prop} {a b c:World} (h:Mv X a b) (k:Mv Y b c) (hY:∀ i,i < a.heap.size→¬ X i→¬ Y i):Mv X a c :=
 ⟨k.os.trans h.os,k.tape.trans h.tape,k.output.trans h.output,Nat.le_trans h.size k.size,fun i hi hx=>(k.block i (Nat.lt_of_lt_of_le hi h.size) (hY i hi hx)).trans (h.block i hi hx)⟩
theorem Mv.trans {X:Nat→Prop} {a b c:World} (h:Mv X a b) (k:Mv X b c):Mv X a c:=h.trans' k fun _ _ hx=>hx
theorem Mv.ext {X:Nat→Prop} {a b c:World} (h:Mv X a b) (k:Ext b c):Mv X a c:=h.trans (.of_ext k)
theorem Mv.more {X Y:Nat→Prop} {w w':World} (h:Mv X w w') (hY:∀ i,i < w.heap.size→X i→Y i):Mv Y w w' :=
 ⟨h.os,h.tape,h.output,h.size,fun i hi hy=>h.block i hi fun hx=>hy (hY i hi hx)⟩
theorem Mv.set {X:Nat→Prop} {a b:World} (h:Mv X a b) {g i:Nat} (hg:a.heap.size≤g∨X g) (v:Value):Mv X a (b.setCell ⟨g,i,none⟩ v):=by
 refine ⟨h.os,h.tape,h.output,?_,fun k hk hx=>?_⟩
 ·rw [size_setCell']; exact h.size
 ·refine (Below.heap_setCell b ⟨g,i,none⟩ v k ?_).trans (h.block k hk hx)
  rintro rfl
  rcases hg with hg | hg
  ·exact absurd hk (Nat.not_lt.2 hg)
  ·exact hx hg
theorem Mv.blk {X:Nat→Prop} {w w':World} (h:Mv X w w') {g:Nat} {t:TypeId} {cs:Array Value} (hB:Blk w g t cs) (hx:¬ X g):Blk w' g t cs:=(h.block g hB.lt hx).trans hB
theorem Mv.cell {X:Nat→Prop} {w w':World} (h:Mv X w w') {p:Addr} (hp:p.block < w.heap.size) (hx:¬ X p.block):w'.cell? p=w.cell? p:=World.cell?_of_block (h.block p.block hp hx)
theorem Mv.below {X:Nat→Prop} {w0 w w':World} (h:Mv X w w') (h0:Ext w0 w) (hx:∀ i,X i→w0.heap.size≤i):Ext w0 w' :=
 ⟨h.os.trans h0.os,h.tape.trans h0.tape,h.output.trans h0.output,Nat.le_trans h0.size h.size,fun i hi=>(h.block i (Nat.lt_of_lt_of_le hi h0.size) fun hX=>absurd hi (Nat.not_lt.2 (hx i hX))).trans (h0.block i hi)⟩
theorem Mv.own {X:Nat→Prop} {w w':World} (h:Mv X w w') {base:Nat} {e:TypeId} {size:Nat} {v:Value} {n:Nat} {xs:List Value} (hO:w.ownsRow base e size v n xs) (hx:∀ g,v.ownBlock=some g→¬ X g):w'.ownsRow base e size v n xs:=by
 rcases hO.2 with ⟨rfl,h0⟩ | ⟨g,cap,cur,rfl,hb,hh,hrest⟩
 ·exact ⟨hO.1,.inl ⟨rfl,h0⟩⟩
 ·have hg:g < w.heap.size:=by
   rcases Nat.lt_or_ge g w.heap.size with hlt | hge
   ·exact hlt
   ·rw [Array.getElem?_eq_none hge] at hh; cases hh
  exact ⟨hO.1,.inr ⟨g,cap,cur,rfl,hb,(h.block g hg (hx g rfl)).trans hh,hrest⟩⟩
theorem Reads.mv {X:Nat→Prop} {w w':World} {size n:Nat} {A:Option Addr} {xs:List Value} (h:Reads w w.heap.size size A n xs) (hm:Mv X w w') (hx:∀ a,A=some a→¬ X a.block):Reads w' w'.heap.size size A n xs :=
 ⟨h.1,fun hn=>by
  obtain ⟨ad,e,hb,hc⟩:=h.2 hn
  exact ⟨ad,e,Nat.lt_of_lt_of_le hb hm.size,fun j u hu=>(hm.cell (by rw [Qbv]; exact hb) (by rw [Qbv]; exact hx ad e)).trans (hc j u hu)⟩⟩
def NamedAt (w:World) (B:Nat) (A:Option Addr) (n:Nat) (nm:Nat→Wd) (ty:Nat→Ty):Prop :=
 0 < n→∃ b o,A=some ⟨b,o,none⟩∧b < B∧∀ i,i < n→∃ vt,w.rangeAt b (o + i * 11) ([.string (nm i).1,.int .i64 (nm i).2] ++ vt)∧TyAt w B (ty i) vt
theorem NamedAt.ext {w w':World} {A:Option Addr} {n:Nat} {nm:Nat→Wd} {ty:Nat→Ty} (h:NamedAt w w.heap.size A n nm ty) (hE:Ext w w'):NamedAt w' w'.heap.size A n nm ty:=by
 intro hn
 obtain ⟨b,o,e,hb,hc⟩:=h hn
 refine ⟨b,o,e,Nat.lt_of_lt_of_le hb hE.size,fun i hi=>?_⟩
 obtain ⟨vt,h1,h2⟩:=hc i hi
 exact ⟨vt,fun j v hv=>(hE.cell (p:=⟨b,o + i * 11 + j,none⟩) hb).trans (h1 j v hv),h2.ext hE⟩
def SchAt (w:World) (s:Sch) (vs:List Value):Prop :=
 ∃ A1 c1 A2 c2 A3 c3 vr,vs = [.slice A1 s.ws.length c1,.slice A2 s.os.length c2,.slice A3 s.n c3] ++ vr∧WdsAt w w.heap.size A1 s.ws∧OdsAt w w.heap.size A2 s.os∧NamedAt w w.heap.size A3 s.n s.nm s.ty∧TyAt w w.heap.size s.root vr
theorem SchAt.ext {w w':World} {s:Sch} {vs:List Value} (h:SchAt w s vs) (hE:Ext w w'):SchAt w' s vs:=by
 obtain ⟨A1,c1,A2,c2,A3,c3,vr,e,h1,h2,h3,h4⟩:=h
 exact ⟨A1,c1,A2,c2,A3,c3,vr,e,h1.ext hE,h2.ext hE,h3.ext hE,h4.ext hE⟩
structure SchSz (s:Sch):Prop where
 ws:Qo s.ws
 os:s.os.length≤5864062014634
 n:s.n≤5864062014634
 nm:∀ i,i < s.n→(s.nm i).1.size≤maxLen
 ty:∀ i,i < s.n→Q1 (s.ty i)
 root:Q1 s.root
theorem SchSz.all {s:Sch} (h:SchSz s) (i:Nat) (_hi:i≤s.n):Q1 (s.all i):=by
 unfold Sch.all
 split
 ·exact h.ty i (by assumption)
 ·exact h.root
structure LatOk (s:Sch):Prop where
 few:s.ws.length≤32
 lat:LatM.Lat s.ws.length (Qu s.ws s.os)
theorem Qkv {s:Sch} (h:(Qx s.ws s.os).1=0):LatOk s:=⟨(Qix h).few,(Qix h).lat⟩
def Qaj (e:EdgeP):List Value:=[.string e.name,.bool e.bare,.int .i64 e.at_,.int .i64 e.tgt,.int .i64 e.label,.int .i64 e.wide,.int .i64 e.coarse,.int .i64 e.n,.int .i64 e.seen,.int .i64 e.cat]
def Qy (l:List EdgeP):List Value:=l.flatMap Qaj
theorem Qg6 (a b:List EdgeP):Qy (a ++ b)=Qy a ++ Qy b:=by simp [Qy]
theorem edgeCells_one (l:List EdgeP):∀ u ∈ Qy l,u.oneCell'=true:=by
 intro u hu
 obtain ⟨e,_,hu⟩:=List.mem_flatMap.1 hu
 simp [Qaj] at hu
 rcases hu with rfl | rfl | rfl | rfl | rfl | rfl | rfl | rfl | rfl | rfl <;> rfl
theorem Qju (l:List EdgeP):∀ (k:Nat) (hk:k < l.length) (j:Nat) (v:Value),(Qaj l[k])[j]? = some v→(Qy l)[k * 10 + j]? = some v:=by
 induction l with
 | nil=>intro k hk; simp at hk
 | cons e r ih =>
  intro k hk j v hv
  show (Qaj e ++ Qy r)[k * 10 + j]? = some v
  have hl:(Qaj e).length=10:=rfl
  cases k with
  | zero =>
   have hv':(Qaj e)[j]? = some v:=hv
   have hj:j < (Qaj e).length:=(List.getElem?_eq_some_iff.1 hv').1
   rw [Nat.zero_mul,Nat.zero_add,List.getElem?_append_left hj]
   exact hv'
  | succ k =>
   rw [List.getElem?_append_right (by rw [hl]; omega),hl,show (k + 1) * 10 + j - 10=k * 10 + j by omega]
   exact ih k (by simpa using hk) j v hv
def EdgesAt (w:World) (B:Nat) (A:Option Addr) (l:List EdgeP):Prop:=Reads w B 10 A l.length (Qy l)
theorem EdgesAt.ext {w w':World} {A:Option Addr} {l:List EdgeP} (h:EdgesAt w w.heap.size A l) (hE:Ext w w'):EdgesAt w' w'.heap.size A l :=
 (Reads.keep h fun _p hp=>hE.cell hp).more hE.size
theorem EdgesAt.cell {w:World} {B:Nat} {A:Option Addr} {l:List EdgeP} (h:EdgesAt w B A l) (hn:0 < l.length):∃ b o,A=some ⟨b,o,none⟩∧b < B∧∀ k (hk:k < l.length),w.rangeAt b (o + k * 10) (Qaj l[k]):=by
 obtain ⟨b,o,e,hb,hc⟩:=h.form hn (by omega)
 refine ⟨b,o,e,hb,fun k hk j v hv=>?_⟩
 have:=hc (k * 10 + j) v (Qju l k hk j v hv)
 rw [← Nat.add_assoc] at this
 exact this
def Qbm (d:NodeP) (An:Option Addr) (cn:Nat) (Ae:Option Addr) (ce:Nat):List Value:=[.int .i64 d.kind,.int .i64 d.at_,.int .i64 d.lo,.int .i64 d.hi,.int .i64 d.most,.slice An d.names.length cn,.slice Ae d.edges.length ce]
def ElAt (w:World) (d:NodeP) (D:Nat→Prop) (vs:List Value):Prop :=
 ∃ An cn Ae ce,vs=Qbm d An cn Ae ce∧StrAt w w.heap.size An d.names∧EdgesAt w w.heap.size Ae d.edges∧(∀ a,An=some a→D a.block)∧(∀ a,Ae=some a→D a.block)
theorem ElAt.mv {X D D':Nat→Prop} {w w':World} {d:NodeP} {vs:List Value} (h:ElAt w d D vs) (hm:Mv X w w') (hD:∀ i,D i→¬ X i∧D' i):ElAt w' d D' vs:=by
 obtain ⟨An,cn,Ae,ce,e,h1,h2,h3,h4⟩:=h
 exact ⟨An,cn,Ae,ce,e,Reads.mv h1 hm fun a ha=>(hD _ (h3 a ha)).1,Reads.mv h2 hm fun a ha=>(hD _ (h4 a ha)).1,fun a ha=>(hD _ (h3 a ha)).2,fun a ha=>(hD _ (h4 a ha)).2⟩
theorem ElAt.len {w:World} {d:NodeP} {D:Nat→Prop} {vs:List Value} (h:ElAt w d D vs):vs.length=7:=by
 obtain ⟨An,cn,Ae,ce,rfl,_⟩:=h; rfl
def BldAt (w:World) (gb:Nat) (A3:Option Addr) (n c3:Nat) (xs:List Value) (gl gp:Nat) (m:Int):Prop :=
 ∃ y1 y2,xs.length=9∧Blk w gb 85 (y1 :: y2 :: .slice A3 n c3 :: (xs ++ [.pointer (some ⟨gl,0,none⟩),.pointer (some ⟨gp,0,none⟩),.int .i64 m])).toArray
section
variable {w w':World} {gb:Nat} {A3:Option Addr} {n c3:Nat} {xs:List Value} {gl gp:Nat} {m:Int}
theorem BldAt.nine (h:BldAt w gb A3 n c3 xs gl gp m):∃ a0 a1 a2 a3 a4 a5 a6 a7 a8:Value,xs = [a0,a1,a2,a3,a4,a5,a6,a7,a8]:=by
 obtain ⟨_,_,h,_⟩:=h
 match xs,h with
 | [a0,a1,a2,a3,a4,a5,a6,a7,a8],_=>exact ⟨a0,a1,a2,a3,a4,a5,a6,a7,a8,rfl⟩
theorem BldAt.ext (h:BldAt w gb A3 n c3 xs gl gp m) (hE:Ext w w'):BldAt w' gb A3 n c3 xs gl gp m:=by
 obtain ⟨y1,y2,hl,hB⟩:=h
 exact ⟨y1,y2,hl,hB.ext hE⟩
theorem BldAt.mv (h:BldAt w gb A3 n c3 xs gl gp m) {X:Nat→Prop} (hm:Mv X w w') (hx:¬ X gb):BldAt w' gb A3 n c3 xs gl gp m:=by
 obtain ⟨y1,y2,hl,hB⟩:=h
 exact ⟨y1,y2,hl,hm.blk hB hx⟩
theorem BldAt.lt (h:BldAt w gb A3 n c3 xs gl gp m):gb < w.heap.size:=by
 obtain ⟨y1,y2,hl,hB⟩:=h
 exact hB.lt
theorem BldAt.ne (h:BldAt w gb A3 n c3 xs gl gp m) {g:Nat} {t:TypeId} {cs:Array Value} (hB:Blk w g t cs) (ht:t≠85):g≠gb:=by
 obtain ⟨y1,y2,hl,hB'⟩:=h
 intro e
 subst e
 unfold Blk at hB hB'
 rw [hB] at hB'
 injection hB' with hB'
 injection hB' with h1 h2
 exact ht h2
theorem BldAt.c2 (h:BldAt w gb A3 n c3 xs gl gp m):w.cell? ⟨gb,2,none⟩=some (.slice A3 n c3):=by
 obtain ⟨y1,y2,hl,hB⟩:=h
 exact hB.cell 2
theorem BldAt.root (h:BldAt w gb A3 n c3 xs gl gp m):w.rangeAt gb 3 xs:=by
 obtain ⟨y1,y2,hl,hB⟩:=h
 intro j v hv
 have hj:j < xs.length:=(List.getElem?_eq_some_iff.1 hv).1
 rw [hB.cell (3 + j)]
 rw [gA,show 3 + j=j + 1 + 1 + 1 by omega,gS,gS,gS,List.getElem?_append_left hj]
 exact hv
theorem BldAt.c12 (h:BldAt w gb A3 n c3 xs gl gp m):w.cell? ⟨gb,12,none⟩=some (.pointer (some ⟨gl,0,none⟩)):=by
 obtain ⟨a0,a1,a2,a3,a4,a5,a6,a7,a8,rfl⟩:=h.nine
 obtain ⟨y1,y2,hl,hB⟩:=h
 exact hB.cell 12
theorem BldAt.c13 (h:BldAt w gb A3 n c3 xs gl gp m):w.cell? ⟨gb,13,none⟩=some (.pointer (some ⟨gp,0,none⟩)):=by
 obtain ⟨a0,a1,a2,a3,a4,a5,a6,a7,a8,rfl⟩:=h.nine
 obtain ⟨y1,y2,hl,hB⟩:=h
 exact hB.cell 13
theorem BldAt.c14 (h:BldAt w gb A3 n c3 xs gl gp m):w.cell? ⟨gb,14,none⟩=some (.int .i64 m):=by
 obtain ⟨a0,a1,a2,a3,a4,a5,a6,a7,a8,rfl⟩:=h.nine
 obtain ⟨y1,y2,hl,hB⟩:=h
 exact hB.cell 14
theorem BldAt.f14 (h:BldAt w gb A3 n c3 xs gl gp m):w.frozen? ⟨gb,14,none⟩=false:=by
 obtain ⟨y1,y2,hl,hB⟩:=h
 exact hB.free 14
theorem BldAt.set14 (h:BldAt w gb A3 n c3 xs gl gp m) (m':Int):BldAt (w.setCell ⟨gb,14,none⟩ (.int .i64 m')) gb A3 n c3 xs gl gp m':=by
 obtain ⟨a0,a1,a2,a3,a4,a5,a6,a7,a8,rfl⟩:=h.nine
 obtain ⟨y1,y2,hl,hB⟩:=h
 exact ⟨y1,y2,rfl,hB.set_ 14 _⟩
end
set_option maxRecDepth 100000 in
theorem Qjf (gb gl gp n c3:Nat) (A3:Option Addr) (xs:List Value) (mm:Int) (s:Sch) (A:Option Addr) (c m:Nat) (us:List Wd) (w:World) (hB:BldAt w gb A3 n c3 xs gl gp mm) (hL:LatAt w gl s.ws s.os) (hok:LatOk s) (hu:WdsAt w w.heap.size A us) (hm:m=us.length) (hm':m≤9223372036854775807) :
  Calls Tryz.prog 111 #[.pointer (some ⟨gb,0,none⟩),.slice A m c] w (fun e w'=>e = .returned (.int .i64 (ofI s.ws s.os us))∧Ext w w'):=by
 have HO:=Qa (Qjc gl s.ws s.os A c m us w hL hok.few hok.lat hu hm hm')
 have b12:=hB.c12
 obtain ⟨x,hx⟩:=V1 (ofI s.ws s.os us)
 obtain ⟨⟨f1,f2⟩,hf⟩:∃ x,x=ofF s.ws us:=⟨_,rfl⟩
 rw [← hx,← hf] at HO
 rw [← hx]
 clear hB hL hok hu hm hx hf
 go_enter Tryz.func111,Tryz.ntmps111
 go_wp2_with fail
 refine HO.out.mono ?_
 rintro e w1 ⟨rfl,hE1⟩
 have HE1:=Qa hE1
 clear hE1
 unfold Qe
 go_wp2_with fail
 go_ret
 exact ⟨rfl,HE1.out.alloc HE1.out.size _⟩
theorem Qeq {s:Sch} (h:0 < s.n) (x:ByteArray):s.find x < s.n:=by
 unfold Sch.find
 have hl:s.names.length=s.n:=by simp [Sch.names]
 rcases Qdo s.names x with ⟨e,_⟩ | ⟨i,hi,e,_⟩
 ·rw [e]; exact h
 ·rw [e,Int.toNat_natCast]; omega
theorem closed (s:Sch):s.Closed:=fun i hi _=>Qeq (by omega) _
theorem Qe4 (s:Sch) (x:ByteArray):findR s.names x = .tuple #[.int .i64 (s.find x:Nat),.bool (decide (0≤findL s.names x))]:=by
 unfold findR Sch.find
 rcases Qdo s.names x with ⟨e,_⟩ | ⟨i,hi,e,_⟩
 ·rw [e]; rfl
 ·rw [e,if_neg (by omega),Int.toNat_natCast]
def Qti:Option Nat→Int | some j=>j | none=>-1
end Go.Proofs.YtanpljalbijfkaaGreat
