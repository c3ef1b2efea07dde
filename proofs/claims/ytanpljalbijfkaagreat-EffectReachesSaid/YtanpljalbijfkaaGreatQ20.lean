/- . -/
import Derived.Test.YtanpljalbijfkaaGreatQ19
namespace Go.Proofs.YtanpljalbijfkaaGreat
open Go.RowKit
set_option maxHeartbeats 16000000
set_option maxRecDepth 100000 in
theorem Qqu (u:Bool) (q:PtH) (t:Ty) (d m:Int) (gc B:Nat) (w:World) (vs:List Value) (hbare:q.bare=true) (h:PartAt w B q t vs) (hs:Qi q.label) (hs2:Qi q.cl) (hst:Qr t) (hBg:B≤gc) (hC:Blk w gc 180 #[.int .i64 m]) (hsub:ChkC t (IntKind.i64.wrap (d + 1)) B) :
  Calls Tryz.prog 163 #[.pointer (some ⟨gc,0,none⟩),.agg vs.toArray,.bool u,.int .i64 d] w (Qav (Qag u q t (fun m=>chk t (IntKind.i64.wrap (d + 1)) m) m) gc w):=by
 have e1:=IntWalk.i64_left (d + 1);rw [e1] at hsub ⊢;clear e1;obtain ⟨Al,cl,Ac,cc,vt,hvs,hl,hc,ht⟩:=id h;have hBw:B≤w.heap.size:=Nat.le_of_lt (Nat.lt_of_le_of_lt hBg hC.lt);have hpw:PartAt w w.heap.size q t vs:=h.more hBw;have hlab:=fun w1 (hE:Ext w w1)=>Qga Al cl q.label.length q.label w1 ((show WdsAt w w.heap.size Al q.label from Reads.more hl hBw).ext hE) rfl hs
 have hco:=fun w1 (hE:Ext w w1)=>Qis q t w1 vs (hpw.ext hE) hs2
 have hsame:=fun w1 (hE:Ext w w1)=>Qd6 q (zPt q.name true) t zTy w1 vs (ptV (zPt q.name true) none 0 none 0 ++ zCells) (hpw.ext hE) (Qd4 _ _ _ _) hs hs2 hst Qd5 Qd5 Qgb
 have hchk:=fun w1 (hE:Ext w w1) (hC1:Blk w1 gc 180 #[.int .i64 m])=>hsub gc m w1 vt (ht.keep fun p hp=>hE.cell (Nat.lt_of_lt_of_le hp hBw)) hBg hC1
 have hvl:vs.length=18:=hpw.len;have hvo:vs.toArray.all (·.oneCell')=true:=hpw.one;have htl:vt.length=9:=by obtain ⟨y0,y1,y2,y3,y4,y5,y6,y7,y8,e⟩:=ht.nine; rw [e]; rfl
 obtain ⟨x0,x1,x2,x3,x4,x5,x6,x7,x8,hvt⟩:=ht.nine;have hx:Qag u q t (fun m=>chk t (wrap64 (d + 1)) m) m=if q.bare=true then (if u=true∧Qbb q t=true then ((0,0),m) else ((19,q.name.2),m)) else if (Qaf q).1≠0 then (Qaf q,m) else chk t (wrap64 (d + 1)) m:=rfl
 have hpf:Qaf q=if q.wide < 0∨64 < q.wide then (20,q.name.2) else if (Qo q.label).1=0 then Qai q else Qo q.label:=rfl;unfold Qbb at hx;clear hl hc ht h hs hs2 hst hsub;generalize (Q3 q (zPt q.name true) && Qu t zTy)=SB at hsame hx
 generalize Qaf q=PF at hx hpf
 generalize Qo q.label=LF at hlab hpf
 generalize Qai q=CF at hco hpf
 generalize hCK:chk t (wrap64 (d + 1)) m=CK at hx hchk
 clear hCK;generalize hRR:Qag u q t (fun m=>chk t (wrap64 (d + 1)) m) m=R at hx ⊢
 clear hRR;obtain ⟨nm,hnm,a,ha,br,hbr,nl,hnl,wi,hwi,ck,hck⟩:=V6 (q.name.1) (q.name.2) (q.bare) (q.label.length) (q.wide) (q.ck);obtain ⟨cn,hcn,ca,hca,nc,hnc⟩:=V3 (q.cn) (q.cat) (q.cl.length);have hve:vs.toArray=#[.string nm,.int .i64 a,.bool br,.slice Al nl cl,.int .i64 wi,.int .i64 ck,.int .i64 cn,.int .i64 ca,.slice Ac nc cc,x0,x1,x2,x3,x4,x5,x6,x7,x8]:=by rw [hvs,hvt,hnm,ha,hbr,hnl,hwi,hck,hcn,hca,hnc]; rfl
 have hze:(ptV (zPt q.name true) none 0 none 0 ++ zCells).toArray=#[.string nm,.int .i64 a,.bool true,.slice none 0 0,.int .i64 0,.int .i64 0,.int .i64 0,.int .i64 0,.slice none 0 0,.int .i64 0,.int .i64 0,.int .i64 0,.int .i64 0,.int .i64 0,.slice none 0 0,.slice none 0 0,.string ⟨#[]⟩,.int .i64 0]:=by rw [hnm,ha]; rfl
 rw [hze] at hsame;rw [← ha,← hbr] at hx;rw [← hwi,← ha] at hpf;rw [← hnl] at hlab;have hbb:=hbr.trans hbare;clear hbare;clear hze hnm ha hbr hnl hwi hck hcn hca hnc hpw;obtain ⟨L1,L2⟩:=LF;obtain ⟨C1,C2⟩:=CF;obtain ⟨w0,hw0⟩:=V1 ((w.alloc (.cells #[.string nm,.int .i64 a,.bool br,.slice Al nl cl,.int .i64 wi,.int .i64 ck,.int .i64 cn,.int .i64 ca,.slice Ac nc cc,x0,x1,x2,x3,x4,x5,x6,x7,x8] 131)).alloc (.cells #[.int .i64 0,.int .i64 0] 34));have hP0:Blk w0 w.heap.size 131 #[.string nm,.int .i64 a,.bool br,.slice Al nl cl,.int .i64 wi,.int .i64 ck,.int .i64 cn,.int .i64 ca,.slice Ac nc cc,x0,x1,x2,x3,x4,x5,x6,x7,x8]:=by rw [hw0]; exact (Blk.new _ _ _).alloc _
 have hF0:Blk w0 (w.heap.size + 1) 34 #[.int .i64 0,.int .i64 0]:=by
  rw [hw0]; have:=Blk.new (w.alloc (.cells #[.string nm,.int .i64 a,.bool br,.slice Al nl cl,.int .i64 wi,.int .i64 ck,.int .i64 cn,.int .i64 ca,.slice Ac nc cc,x0,x1,x2,x3,x4,x5,x6,x7,x8] 131)) 34 #[.int .i64 0,.int .i64 0]; simpa only [World.size_alloc] using this
 have hE0:Ext w w0:=by rw [hw0]; exact ((Ext.rfl' w).alloc nL _).alloc (by simp only [World.size_alloc]; omega) _
 have hs0:w0.heap.size=w.heap.size + 2:=by rw [hw0]; simp only [World.size_alloc]
 obtain ⟨w1,hw1⟩:=V1 (w0.alloc (.cells #[.string nm,.int .i64 a,.bool true,.slice none 0 0,.int .i64 0,.int .i64 0,.int .i64 0,.int .i64 0,.slice none 0 0,.int .i64 0,.int .i64 0,.int .i64 0,.int .i64 0,.int .i64 0,.slice none 0 0,.slice none 0 0,.string ⟨#[]⟩,.int .i64 0] 131));have hP:Blk w1 w.heap.size 131 #[.string nm,.int .i64 a,.bool br,.slice Al nl cl,.int .i64 wi,.int .i64 ck,.int .i64 cn,.int .i64 ca,.slice Ac nc cc,x0,x1,x2,x3,x4,x5,x6,x7,x8]:=by rw [hw1]; exact hP0.alloc _
 have hF:Blk w1 (w.heap.size + 1) 34 #[.int .i64 0,.int .i64 0]:=by rw [hw1]; exact hF0.alloc _
 have hZ:=bN hw1;have hE:Ext w w1:=by rw [hw1]; exact hE0.alloc hE0.size _
 have hC1:Blk w1 gc 180 #[.int .i64 m]:=hC.ext hE;have hgl:=hC.lt;have n1:w.heap.size + 1≠gc:=by omega
 have hlo:w.heap.size≤w.heap.size + 1:=Nat.le_succ _;have hrg:w1.rangeAt w.heap.size 0 vs:=Qv (by rw [hve]; exact hP)
 have hzl:∃ zs:List Value,zs.toArray=#[.string nm,.int .i64 a,.bool true,.slice none 0 0,.int .i64 0,.int .i64 0,.int .i64 0,.int .i64 0,.slice none 0 0,.int .i64 0,.int .i64 0,.int .i64 0,.int .i64 0,.int .i64 0,.slice none 0 0,.slice none 0 0,.string ⟨#[]⟩,.int .i64 0]∧zs.length=18:=⟨[.string nm,.int .i64 a,.bool true,.slice none 0 0,.int .i64 0,.int .i64 0,.int .i64 0,.int .i64 0,.slice none 0 0,.int .i64 0,.int .i64 0,.int .i64 0,.int .i64 0,.int .i64 0,.slice none 0 0,.slice none 0 0,.string ⟨#[]⟩,.int .i64 0],rfl,rfl⟩;obtain ⟨zs,hzs,hzl⟩:=hzl;have hrz:w1.rangeAt w0.heap.size 0 zs:=Qv (by rw [hzs]; exact hZ)
 have hrt:w1.rangeAt w.heap.size 9 vt:=fun j v hv=>by
  have:=hrg (9 + j) v (by rw [hvs,List.getElem?_append_right (by show 9≤9 + j; omega)]; rw [show 9 + j - (ptV q Al cl Ac cc).length=j by show 9 + j - 9=j; omega]; exact hv)
  rwa [Nat.zero_add] at this
 rw [← hzs] at hsame;clear hvt;obtain ⟨gz,hgz,gf,hgf,gp,hgp⟩:=V3 (w0.heap.size) (w.heap.size + 1) (w.heap.size);rw [← hgf] at hF hF0 n1 hlo;rw [← hgz] at hZ hrz;rw [← hgp] at hP hP0 hrg hrt;obtain ⟨z0,z1⟩:=X2 hP0;obtain ⟨p0,p1,p2,p3,p4⟩:=X5 hP;obtain ⟨b0,b1⟩:=X2 hF;obtain ⟨f0,f1⟩:=Y2 hF;obtain ⟨HVE,HX,HPF,HLAB,HCO,HSAME,HCHK,HVL⟩:=Z8 hve hx hpf hlab hco hsame hchk hvl;obtain ⟨HTL,HZL,HZS,HRG,HRZ,HRT,HP,HF⟩:=Z8 htl hzl hzs hrg hrz hrt hP hF;obtain ⟨HE,HC,HN,HLO,HW0,HW1,HGZ,HGF⟩:=Z8 hE hC1 n1 hlo hw0 hw1 hgz hgf;have HGP:=hide hgp;rw [hve];clear hve hx hpf hlab hco hsame hchk hvl htl hzl hzs hrg hrz hrt hP hF hE hC1 n1 hlo hw0 hw1 hgz hgf hgp hP0 hF0 hE0 hs0 hZ hgl hC hBw hBg hvs hvo;subst hbb
 ·cases u with
  | false =>
   have HR:=hide (show R=((19,a),m) by rw [HX.out,if_pos rfl,if_neg (fun hh=>by cases hh.1)])
   go_enter Tryz.func163,Tryz.ntmps163
   go_upto_region 1 with fail
   rw [← HW0.out,← HGF.out,← HGP.out];refine wp_region_lit ?_;refine wpList_plain rfl fun K1 hK1=>?_
   go_simp;refine hK1 _ _ ?_;refine wpList_plain rfl fun K2 hK2=>?_
   go_simp;refine hK2 _ _ ?_;refine wpList_plain rfl fun K3 hK3=>?_
   go_simp;refine hK3 _ _ ?_;refine wpList_plain rfl fun K4 hK4=>?_
   go_simp;refine hK4 _ _ ?_;refine Qc rfl 131 _ _ rfl _ #[.string nm,.int .i64 a,.bool true,.slice none 0 0,.int .i64 0,.int .i64 0,.int .i64 0,.int .i64 0,.slice none 0 0,.int .i64 0,.int .i64 0,.int .i64 0,.int .i64 0,.int .i64 0,.slice none 0 0,.slice none 0 0,.string ⟨#[]⟩,.int .i64 0] rfl rfl (by kernel_rfl) (by kernel_rfl) (by kernel_rfl) ?_
   rw [← HW1.out,← HGZ.out];clear z0 z1;go_wp2_with fail
   refine (Qn 19 a _).mono ?_;rintro e w5 ⟨rfl,hE5⟩;obtain ⟨HF5,HE5,HC5⟩:=Z3 (HF.out.ext hE5) (HE.out.trans' hE5) (HC.out.ext hE5);obtain ⟨b0,b1⟩:=X2 HF5.out;obtain ⟨f0,f1⟩:=Y2 HF5.out;unfold fltV;clear hE5;go_wp2_with fail
   exact Qa (f:=(19,a)) (g:=gf) ((HF5.out.set_ 0 _).set_ 1 _) rfl rfl rfl ⟨by rw [HR.out],((Grw.of_ext HE5.out).set (.inl HLO.out) _).set (.inl HLO.out) _,by rw [HR.out]; exact (HC5.out.far HN.out.symm _).far HN.out.symm _⟩
  | true =>
   cases SB with
   | false =>
    have HR:=hide (show R=((19,a),m) by rw [HX.out,if_pos rfl,if_neg (fun hh=>by cases hh.2)])
    go_enter Tryz.func163,Tryz.ntmps163
    go_upto_region 1 with fail
    rw [← HW0.out,← HGF.out,← HGP.out];refine wp_region_lit ?_;refine wpList_plain rfl fun K1 hK1=>?_
    go_simp;refine hK1 _ _ ?_;refine wpList_plain rfl fun K2 hK2=>?_
    go_simp;refine hK2 _ _ ?_;refine wpList_plain rfl fun K3 hK3=>?_
    go_simp;refine hK3 _ _ ?_;refine wpList_plain rfl fun K4 hK4=>?_
    go_simp;refine hK4 _ _ ?_;refine Qc rfl 131 _ _ rfl _ #[.string nm,.int .i64 a,.bool true,.slice none 0 0,.int .i64 0,.int .i64 0,.int .i64 0,.int .i64 0,.slice none 0 0,.int .i64 0,.int .i64 0,.int .i64 0,.int .i64 0,.int .i64 0,.slice none 0 0,.slice none 0 0,.string ⟨#[]⟩,.int .i64 0] rfl rfl (by kernel_rfl) (by kernel_rfl) (by kernel_rfl) ?_
    rw [← HW1.out,← HGZ.out];clear z0 z1;go_upto_region 2 with fail
    refine wp_region_lit ?_;refine wpList_plain rfl fun K5 hK5=>?_
    go_simp;refine hK5 _ _ ?_;refine wpList_plain rfl fun K6 hK6=>?_
    go_simp;refine hK6 _ _ ?_;refine wpList_plain rfl fun K7 hK7=>?_
    go_simp;refine hK7 _ _ ?_;refine wpList_unguard' (by rfl) ?_
    refine wpList_plain rfl fun K8 hK8=>?_
    go_simp;refine hK8 _ _ ?_;refine wpList_unguard' (by rfl) ?_
    refine wpList_plain rfl fun K9 hK9=>?_
    go_simp;refine hK9 _ _ ?_;refine wpList_unguard' (by rfl) ?_
    refine wpList_plain rfl fun K10 hK10=>?_
    go_simp;refine hK10 _ _ ?_;refine wpList_unguard' (by rfl) ?_
    refine wpList_load_mid rfl 131 _ rfl gp 0 rfl vs _ HRG.out Tryz.underlying131 rfl (infoPart' HVL.out) ?_;refine wpList_unguard' (by rfl) ?_
    refine wpList_load_mid rfl 131 _ rfl gz 0 rfl zs _ HRZ.out Tryz.underlying131 rfl (infoPart' HZL.out) ?_;go_wp2_with fail
    refine (HSAME.out _ HE.out).mono ?_;rintro e w3 ⟨rfl,hE3⟩;obtain ⟨HF3,HE3,HC3⟩:=Z3 (HF.out.ext hE3) (HE.out.trans' hE3) (HC.out.ext hE3);have hP3:=HP.out.ext hE3;obtain ⟨b0,b1⟩:=X2 HF3.out;obtain ⟨f0,f1⟩:=Y2 HF3.out;have p0:=hP3.cell 0;have p1:=hP3.cell 1;have p2:=hP3.cell 2;simp only [gA,gH,gS] at p0 p1 p2;clear hE3 hP3;go_wp2_with fail
    refine (Qn 19 a _).mono ?_;rintro e w5 ⟨rfl,hE5⟩;obtain ⟨HF5,HE5,HC5⟩:=Z3 (HF3.out.ext hE5) (HE3.out.trans' hE5) (HC3.out.ext hE5);obtain ⟨b0,b1⟩:=X2 HF5.out;obtain ⟨f0,f1⟩:=Y2 HF5.out;unfold fltV;clear hE5;go_wp2_with fail
    exact Qa (f:=(19,a)) (g:=gf) ((HF5.out.set_ 0 _).set_ 1 _) rfl rfl rfl ⟨by rw [HR.out],((Grw.of_ext HE5.out).set (.inl HLO.out) _).set (.inl HLO.out) _,by rw [HR.out]; exact (HC5.out.far HN.out.symm _).far HN.out.symm _⟩
   | true =>
    have HR:=hide (show R=((0,0),m) by rw [HX.out,if_pos rfl,if_pos ⟨rfl,rfl⟩])
    go_enter Tryz.func163,Tryz.ntmps163
    go_upto_region 1 with fail
    rw [← HW0.out,← HGF.out,← HGP.out];refine wp_region_lit ?_;refine wpList_plain rfl fun K1 hK1=>?_
    go_simp;refine hK1 _ _ ?_;refine wpList_plain rfl fun K2 hK2=>?_
    go_simp;refine hK2 _ _ ?_;refine wpList_plain rfl fun K3 hK3=>?_
    go_simp;refine hK3 _ _ ?_;refine wpList_plain rfl fun K4 hK4=>?_
    go_simp;refine hK4 _ _ ?_;refine Qc rfl 131 _ _ rfl _ #[.string nm,.int .i64 a,.bool true,.slice none 0 0,.int .i64 0,.int .i64 0,.int .i64 0,.int .i64 0,.slice none 0 0,.int .i64 0,.int .i64 0,.int .i64 0,.int .i64 0,.int .i64 0,.slice none 0 0,.slice none 0 0,.string ⟨#[]⟩,.int .i64 0] rfl rfl (by kernel_rfl) (by kernel_rfl) (by kernel_rfl) ?_
    rw [← HW1.out,← HGZ.out];clear z0 z1;go_upto_region 2 with fail
    refine wp_region_lit ?_;refine wpList_plain rfl fun K5 hK5=>?_
    go_simp;refine hK5 _ _ ?_;refine wpList_plain rfl fun K6 hK6=>?_
    go_simp;refine hK6 _ _ ?_;refine wpList_plain rfl fun K7 hK7=>?_
    go_simp;refine hK7 _ _ ?_;refine wpList_unguard' (by rfl) ?_
    refine wpList_plain rfl fun K8 hK8=>?_
    go_simp;refine hK8 _ _ ?_;refine wpList_unguard' (by rfl) ?_
    refine wpList_plain rfl fun K9 hK9=>?_
    go_simp;refine hK9 _ _ ?_;refine wpList_unguard' (by rfl) ?_
    refine wpList_plain rfl fun K10 hK10=>?_
    go_simp;refine hK10 _ _ ?_;refine wpList_unguard' (by rfl) ?_
    refine wpList_load_mid rfl 131 _ rfl gp 0 rfl vs _ HRG.out Tryz.underlying131 rfl (infoPart' HVL.out) ?_;refine wpList_unguard' (by rfl) ?_
    refine wpList_load_mid rfl 131 _ rfl gz 0 rfl zs _ HRZ.out Tryz.underlying131 rfl (infoPart' HZL.out) ?_;go_wp2_with fail
    refine (HSAME.out _ HE.out).mono ?_;rintro e w3 ⟨rfl,hE3⟩;obtain ⟨HF3,HE3,HC3⟩:=Z3 (HF.out.ext hE3) (HE.out.trans' hE3) (HC.out.ext hE3);have hP3:=HP.out.ext hE3;obtain ⟨b0,b1⟩:=X2 HF3.out;obtain ⟨f0,f1⟩:=Y2 HF3.out;have p0:=hP3.cell 0;have p1:=hP3.cell 1;have p2:=hP3.cell 2;simp only [gA,gH,gS] at p0 p1 p2;clear hE3 hP3;go_wp2_with fail
    exact Qa (f:=(0,0)) (g:=gf) ((HF3.out.set_ 0 _).set_ 1 _) rfl rfl rfl ⟨by rw [HR.out],((Grw.of_ext HE3.out).set (.inl HLO.out) _).set (.inl HLO.out) _,by rw [HR.out]; exact (HC3.out.far HN.out.symm _).far HN.out.symm _⟩
set_option maxRecDepth 100000 in
theorem Qqv (u:Bool) (q:PtH) (t:Ty) (d m:Int) (gc B:Nat) (w:World) (vs:List Value) (hbare:q.bare=false) (h:PartAt w B q t vs) (hs:Qi q.label) (hs2:Qi q.cl) (hst:Qr t) (hBg:B≤gc) (hC:Blk w gc 180 #[.int .i64 m]) (hsub:ChkC t (IntKind.i64.wrap (d + 1)) B) :
  Calls Tryz.prog 163 #[.pointer (some ⟨gc,0,none⟩),.agg vs.toArray,.bool u,.int .i64 d] w (Qav (Qag u q t (fun m=>chk t (IntKind.i64.wrap (d + 1)) m) m) gc w):=by
 have e1:=IntWalk.i64_left (d + 1);rw [e1] at hsub ⊢;clear e1;obtain ⟨Al,cl,Ac,cc,vt,hvs,hl,hc,ht⟩:=id h;have hBw:B≤w.heap.size:=Nat.le_of_lt (Nat.lt_of_le_of_lt hBg hC.lt);have hpw:PartAt w w.heap.size q t vs:=h.more hBw;have hlab:=fun w1 (hE:Ext w w1)=>Qga Al cl q.label.length q.label w1 ((show WdsAt w w.heap.size Al q.label from Reads.more hl hBw).ext hE) rfl hs
 have hco:=fun w1 (hE:Ext w w1)=>Qis q t w1 vs (hpw.ext hE) hs2
 have hsame:=fun w1 (hE:Ext w w1)=>Qd6 q (zPt q.name true) t zTy w1 vs (ptV (zPt q.name true) none 0 none 0 ++ zCells) (hpw.ext hE) (Qd4 _ _ _ _) hs hs2 hst Qd5 Qd5 Qgb
 have hchk:=fun w1 (hE:Ext w w1) (hC1:Blk w1 gc 180 #[.int .i64 m])=>hsub gc m w1 vt (ht.keep fun p hp=>hE.cell (Nat.lt_of_lt_of_le hp hBw)) hBg hC1
 have hvl:vs.length=18:=hpw.len;have hvo:vs.toArray.all (·.oneCell')=true:=hpw.one;have htl:vt.length=9:=by obtain ⟨y0,y1,y2,y3,y4,y5,y6,y7,y8,e⟩:=ht.nine; rw [e]; rfl
 obtain ⟨x0,x1,x2,x3,x4,x5,x6,x7,x8,hvt⟩:=ht.nine;have hx:Qag u q t (fun m=>chk t (wrap64 (d + 1)) m) m=if q.bare=true then (if u=true∧Qbb q t=true then ((0,0),m) else ((19,q.name.2),m)) else if (Qaf q).1≠0 then (Qaf q,m) else chk t (wrap64 (d + 1)) m:=rfl
 have hpf:Qaf q=if q.wide < 0∨64 < q.wide then (20,q.name.2) else if (Qo q.label).1=0 then Qai q else Qo q.label:=rfl;unfold Qbb at hx;clear hl hc ht h hs hs2 hst hsub;generalize (Q3 q (zPt q.name true) && Qu t zTy)=SB at hsame hx
 generalize Qaf q=PF at hx hpf
 generalize Qo q.label=LF at hlab hpf
 generalize Qai q=CF at hco hpf
 generalize hCK:chk t (wrap64 (d + 1)) m=CK at hx hchk
 clear hCK;generalize hRR:Qag u q t (fun m=>chk t (wrap64 (d + 1)) m) m=R at hx ⊢
 clear hRR;obtain ⟨nm,hnm,a,ha,br,hbr,nl,hnl,wi,hwi,ck,hck⟩:=V6 (q.name.1) (q.name.2) (q.bare) (q.label.length) (q.wide) (q.ck);obtain ⟨cn,hcn,ca,hca,nc,hnc⟩:=V3 (q.cn) (q.cat) (q.cl.length);have hve:vs.toArray=#[.string nm,.int .i64 a,.bool br,.slice Al nl cl,.int .i64 wi,.int .i64 ck,.int .i64 cn,.int .i64 ca,.slice Ac nc cc,x0,x1,x2,x3,x4,x5,x6,x7,x8]:=by rw [hvs,hvt,hnm,ha,hbr,hnl,hwi,hck,hcn,hca,hnc]; rfl
 have hze:(ptV (zPt q.name true) none 0 none 0 ++ zCells).toArray=#[.string nm,.int .i64 a,.bool true,.slice none 0 0,.int .i64 0,.int .i64 0,.int .i64 0,.int .i64 0,.slice none 0 0,.int .i64 0,.int .i64 0,.int .i64 0,.int .i64 0,.int .i64 0,.slice none 0 0,.slice none 0 0,.string ⟨#[]⟩,.int .i64 0]:=by rw [hnm,ha]; rfl
 rw [hze] at hsame;rw [← ha,← hbr] at hx;rw [← hwi,← ha] at hpf;rw [← hnl] at hlab;have hbb:=hbr.trans hbare;clear hbare;clear hze hnm ha hbr hnl hwi hck hcn hca hnc hpw;obtain ⟨L1,L2⟩:=LF;obtain ⟨C1,C2⟩:=CF;obtain ⟨w0,hw0⟩:=V1 ((w.alloc (.cells #[.string nm,.int .i64 a,.bool br,.slice Al nl cl,.int .i64 wi,.int .i64 ck,.int .i64 cn,.int .i64 ca,.slice Ac nc cc,x0,x1,x2,x3,x4,x5,x6,x7,x8] 131)).alloc (.cells #[.int .i64 0,.int .i64 0] 34));have hP0:Blk w0 w.heap.size 131 #[.string nm,.int .i64 a,.bool br,.slice Al nl cl,.int .i64 wi,.int .i64 ck,.int .i64 cn,.int .i64 ca,.slice Ac nc cc,x0,x1,x2,x3,x4,x5,x6,x7,x8]:=by rw [hw0]; exact (Blk.new _ _ _).alloc _
 have hF0:Blk w0 (w.heap.size + 1) 34 #[.int .i64 0,.int .i64 0]:=by
  rw [hw0]; have:=Blk.new (w.alloc (.cells #[.string nm,.int .i64 a,.bool br,.slice Al nl cl,.int .i64 wi,.int .i64 ck,.int .i64 cn,.int .i64 ca,.slice Ac nc cc,x0,x1,x2,x3,x4,x5,x6,x7,x8] 131)) 34 #[.int .i64 0,.int .i64 0]; simpa only [World.size_alloc] using this
 have hE0:Ext w w0:=by rw [hw0]; exact ((Ext.rfl' w).alloc nL _).alloc (by simp only [World.size_alloc]; omega) _
 have hs0:w0.heap.size=w.heap.size + 2:=by rw [hw0]; simp only [World.size_alloc]
 obtain ⟨w1,hw1⟩:=V1 (w0.alloc (.cells #[.string nm,.int .i64 a,.bool true,.slice none 0 0,.int .i64 0,.int .i64 0,.int .i64 0,.int .i64 0,.slice none 0 0,.int .i64 0,.int .i64 0,.int .i64 0,.int .i64 0,.int .i64 0,.slice none 0 0,.slice none 0 0,.string ⟨#[]⟩,.int .i64 0] 131));have hP:Blk w1 w.heap.size 131 #[.string nm,.int .i64 a,.bool br,.slice Al nl cl,.int .i64 wi,.int .i64 ck,.int .i64 cn,.int .i64 ca,.slice Ac nc cc,x0,x1,x2,x3,x4,x5,x6,x7,x8]:=by rw [hw1]; exact hP0.alloc _
 have hF:Blk w1 (w.heap.size + 1) 34 #[.int .i64 0,.int .i64 0]:=by rw [hw1]; exact hF0.alloc _
 have hZ:=bN hw1;have hE:Ext w w1:=by rw [hw1]; exact hE0.alloc hE0.size _
 have hC1:Blk w1 gc 180 #[.int .i64 m]:=hC.ext hE;have hgl:=hC.lt;have n1:w.heap.size + 1≠gc:=by omega
 have hlo:w.heap.size≤w.heap.size + 1:=Nat.le_succ _;have hrg:w1.rangeAt w.heap.size 0 vs:=Qv (by rw [hve]; exact hP)
 have hzl:∃ zs:List Value,zs.toArray=#[.string nm,.int .i64 a,.bool true,.slice none 0 0,.int .i64 0,.int .i64 0,.int .i64 0,.int .i64 0,.slice none 0 0,.int .i64 0,.int .i64 0,.int .i64 0,.int .i64 0,.int .i64 0,.slice none 0 0,.slice none 0 0,.string ⟨#[]⟩,.int .i64 0]∧zs.length=18:=⟨[.string nm,.int .i64 a,.bool true,.slice none 0 0,.int .i64 0,.int .i64 0,.int .i64 0,.int .i64 0,.slice none 0 0,.int .i64 0,.int .i64 0,.int .i64 0,.int .i64 0,.int .i64 0,.slice none 0 0,.slice none 0 0,.string ⟨#[]⟩,.int .i64 0],rfl,rfl⟩;obtain ⟨zs,hzs,hzl⟩:=hzl;have hrz:w1.rangeAt w0.heap.size 0 zs:=Qv (by rw [hzs]; exact hZ)
 have hrt:w1.rangeAt w.heap.size 9 vt:=fun j v hv=>by
  have:=hrg (9 + j) v (by rw [hvs,List.getElem?_append_right (by show 9≤9 + j; omega)]; rw [show 9 + j - (ptV q Al cl Ac cc).length=j by show 9 + j - 9=j; omega]; exact hv)
  rwa [Nat.zero_add] at this
 rw [← hzs] at hsame;clear hvt;obtain ⟨gz,hgz,gf,hgf,gp,hgp⟩:=V3 (w0.heap.size) (w.heap.size + 1) (w.heap.size);rw [← hgf] at hF hF0 n1 hlo;rw [← hgz] at hZ hrz;rw [← hgp] at hP hP0 hrg hrt;obtain ⟨z0,z1⟩:=X2 hP0;obtain ⟨p0,p1,p2,p3,p4⟩:=X5 hP;obtain ⟨b0,b1⟩:=X2 hF;obtain ⟨f0,f1⟩:=Y2 hF;obtain ⟨HVE,HX,HPF,HLAB,HCO,HSAME,HCHK,HVL⟩:=Z8 hve hx hpf hlab hco hsame hchk hvl;obtain ⟨HTL,HZL,HZS,HRG,HRZ,HRT,HP,HF⟩:=Z8 htl hzl hzs hrg hrz hrt hP hF;obtain ⟨HE,HC,HN,HLO,HW0,HW1,HGZ,HGF⟩:=Z8 hE hC1 n1 hlo hw0 hw1 hgz hgf;have HGP:=hide hgp;rw [hve];clear hve hx hpf hlab hco hsame hchk hvl htl hzl hzs hrg hrz hrt hP hF hE hC1 n1 hlo hw0 hw1 hgz hgf hgp hP0 hF0 hE0 hs0 hZ hgl hC hBw hBg hvs hvo;subst hbb
 ·skip
  have HX2:=hide (show R=if PF.1≠0 then (PF,m) else CK by rw [HX.out,if_neg (by decide)])
  by_cases c1:wi < 0
  ·have HP2:=hide (show PF=(20,a) by rw [HPF.out]; exact if_pos (.inl c1))
   have HR:=hide (show R=((20,a),m) by rw [HX2.out,HP2.out]; rfl)
   go_enter Tryz.func163,Tryz.ntmps163
   go_upto_region 1 with fail
   rw [← HW0.out,← HGF.out,← HGP.out];refine wp_region_lit ?_;refine wpList_plain rfl fun K1 hK1=>?_
   go_simp;refine hK1 _ _ ?_;refine wpList_plain rfl fun K2 hK2=>?_
   go_simp;refine hK2 _ _ ?_;refine wpList_plain rfl fun K3 hK3=>?_
   go_simp;refine hK3 _ _ ?_;refine wpList_plain rfl fun K4 hK4=>?_
   go_simp;refine hK4 _ _ ?_;refine Qc rfl 131 _ _ rfl _ #[.string nm,.int .i64 a,.bool true,.slice none 0 0,.int .i64 0,.int .i64 0,.int .i64 0,.int .i64 0,.slice none 0 0,.int .i64 0,.int .i64 0,.int .i64 0,.int .i64 0,.int .i64 0,.slice none 0 0,.slice none 0 0,.string ⟨#[]⟩,.int .i64 0] rfl rfl (by kernel_rfl) (by kernel_rfl) (by kernel_rfl) ?_
   rw [← HW1.out,← HGZ.out];clear z0 z1;go_wp2_with fail
   refine (Qn 20 a _).mono ?_;rintro e w5 ⟨rfl,hE5⟩;obtain ⟨HF5,HE5,HC5⟩:=Z3 (HF.out.ext hE5) (HE.out.trans' hE5) (HC.out.ext hE5);obtain ⟨b0,b1⟩:=X2 HF5.out;obtain ⟨f0,f1⟩:=Y2 HF5.out;unfold fltV;clear hE5;go_wp2_with fail
   exact Qa (f:=(20,a)) (g:=gf) ((HF5.out.set_ 0 _).set_ 1 _) rfl rfl rfl ⟨by rw [HR.out],((Grw.of_ext HE5.out).set (.inl HLO.out) _).set (.inl HLO.out) _,by rw [HR.out]; exact (HC5.out.far HN.out.symm _).far HN.out.symm _⟩
  by_cases c2:64 < wi
  ·have HP2:=hide (show PF=(20,a) by rw [HPF.out]; exact if_pos (.inr c2))
   have HR:=hide (show R=((20,a),m) by rw [HX2.out,HP2.out]; rfl)
   go_enter Tryz.func163,Tryz.ntmps163
   go_upto_region 1 with fail
   rw [← HW0.out,← HGF.out,← HGP.out];refine wp_region_lit ?_;refine wpList_plain rfl fun K1 hK1=>?_
   go_simp;refine hK1 _ _ ?_;refine wpList_plain rfl fun K2 hK2=>?_
   go_simp;refine hK2 _ _ ?_;refine wpList_plain rfl fun K3 hK3=>?_
   go_simp;refine hK3 _ _ ?_;refine wpList_plain rfl fun K4 hK4=>?_
   go_simp;refine hK4 _ _ ?_;refine Qc rfl 131 _ _ rfl _ #[.string nm,.int .i64 a,.bool true,.slice none 0 0,.int .i64 0,.int .i64 0,.int .i64 0,.int .i64 0,.slice none 0 0,.int .i64 0,.int .i64 0,.int .i64 0,.int .i64 0,.int .i64 0,.slice none 0 0,.slice none 0 0,.string ⟨#[]⟩,.int .i64 0] rfl rfl (by kernel_rfl) (by kernel_rfl) (by kernel_rfl) ?_
   rw [← HW1.out,← HGZ.out];clear z0 z1;go_wp2_with fail
   refine (Qn 20 a _).mono ?_;rintro e w5 ⟨rfl,hE5⟩;obtain ⟨HF5,HE5,HC5⟩:=Z3 (HF.out.ext hE5) (HE.out.trans' hE5) (HC.out.ext hE5);obtain ⟨b0,b1⟩:=X2 HF5.out;obtain ⟨f0,f1⟩:=Y2 HF5.out;unfold fltV;clear hE5;go_wp2_with fail
   exact Qa (f:=(20,a)) (g:=gf) ((HF5.out.set_ 0 _).set_ 1 _) rfl rfl rfl ⟨by rw [HR.out],((Grw.of_ext HE5.out).set (.inl HLO.out) _).set (.inl HLO.out) _,by rw [HR.out]; exact (HC5.out.far HN.out.symm _).far HN.out.symm _⟩
  have HP2:=hide (show PF=if L1=0 then (C1,C2) else (L1,L2) by rw [HPF.out]; exact if_neg (fun hh=>hh.elim c1 c2))
  by_cases c3:L1=0
  ·have HP3:=hide (show PF=(C1,C2) by rw [HP2.out]; exact if_pos c3)
   subst c3;go_enter Tryz.func163,Tryz.ntmps163
   go_upto_region 1 with fail
   rw [← HW0.out,← HGF.out,← HGP.out];refine wp_region_lit ?_;refine wpList_plain rfl fun K1 hK1=>?_
   go_simp;refine hK1 _ _ ?_;refine wpList_plain rfl fun K2 hK2=>?_
   go_simp;refine hK2 _ _ ?_;refine wpList_plain rfl fun K3 hK3=>?_
   go_simp;refine hK3 _ _ ?_;refine wpList_plain rfl fun K4 hK4=>?_
   go_simp;refine hK4 _ _ ?_;refine Qc rfl 131 _ _ rfl _ #[.string nm,.int .i64 a,.bool true,.slice none 0 0,.int .i64 0,.int .i64 0,.int .i64 0,.int .i64 0,.slice none 0 0,.int .i64 0,.int .i64 0,.int .i64 0,.int .i64 0,.int .i64 0,.slice none 0 0,.slice none 0 0,.string ⟨#[]⟩,.int .i64 0] rfl rfl (by kernel_rfl) (by kernel_rfl) (by kernel_rfl) ?_
   rw [← HW1.out,← HGZ.out];clear z0 z1;go_wp2_with fail
   refine (HLAB.out _ HE.out).mono ?_;rintro e w3 ⟨rfl,hE3⟩;have hE3n:=hE3.alloc hE3.size (.cells #[.int .i64 0,.int .i64 L2] 34);obtain ⟨w4,hw4⟩:=V1 (w3.alloc (.cells #[.int .i64 0,.int .i64 L2] 34));rw [← hw4] at hE3n;have hl4:=bN hw4;obtain ⟨g3,hg3⟩:=V1 (w3.heap.size);rw [← hg3] at hl4;obtain ⟨HF4,HE4,HC4,HP4⟩:=Z4 (HF.out.ext hE3n) (HE.out.trans' hE3n) (HC.out.ext hE3n) (HP.out.ext hE3n);obtain ⟨b0,b1⟩:=X2 HF4.out;obtain ⟨f0,f1⟩:=Y2 HF4.out;have u0:=hl4.cell 0;have u1:=hl4.cell 1;simp only [gA,gH,gS] at u0 u1;have HRT4:=hide (show w4.rangeAt gp 9 vt from fun j v hv=>(hE3n.cell (p:=⟨gp,9 + j,none⟩) HP.out.lt).trans (HRT.out j v hv))
   have HRG4:=hide (show w4.rangeAt gp 0 vs from Qv (by rw [HVE.out]; exact HP4.out))
   obtain ⟨HW4,HG3⟩:=Z2 hw4 hg3;clear hE3 hE3n hw4 hg3 hl4 p0 p1 p2 p3 p4;unfold fltV;go_upto_region 9 with fail
   rw [← HW4.out,← HG3.out];go_upto_region 11 with fail
   refine wp_region_lit ?_;refine wpList_load_mid rfl 131 _ rfl gp 0 rfl vs _ HRG4.out Tryz.underlying131 rfl (infoPart' HVL.out) ?_;go_wp2_with fail
   refine (HCO.out _ HE4.out).mono ?_;rintro e w6 ⟨rfl,hE6⟩;have hE6n:=hE6.alloc hE6.size (.cells #[.int .i64 C1,.int .i64 C2] 34);obtain ⟨w7,hw7⟩:=V1 (w6.alloc (.cells #[.int .i64 C1,.int .i64 C2] 34));rw [← hw7] at hE6n;have hl7:=bN hw7;obtain ⟨g6,hg6⟩:=V1 (w6.heap.size);rw [← hg6] at hl7;obtain ⟨HF7,HE7,HC7,HP7⟩:=Z4 (HF4.out.ext hE6n) (HE4.out.trans' hE6n) (HC4.out.ext hE6n) (HP4.out.ext hE6n);obtain ⟨b0,b1⟩:=X2 HF7.out;obtain ⟨f0,f1⟩:=Y2 HF7.out;have u0:=hl7.cell 0;have u1:=hl7.cell 1;simp only [gA,gH,gS] at u0 u1;have hrt7:w7.rangeAt gp 9 vt:=fun j v hv=>(hE6n.cell (p:=⟨gp,9 + j,none⟩) HP4.out.lt).trans (HRT4.out j v hv)
   obtain ⟨HRT7,HW7,HG6⟩:=Z3 hrt7 hw7 hg6;clear hE6 hE6n hw7 hg6 hl7 hrt7;unfold fltV;go_upto_region 12 with fail
   rw [← HW7.out,← HG6.out];by_cases c4:C1=0
   ·have HR:=hide (show R=CK by rw [HX2.out,HP3.out]; exact if_neg (fun hh=>hh c4))
    subst c4;go_upto_region 14 with fail
    refine wp_region_lit ?_;refine wpList_plain rfl fun K5 hK5=>?_
    go_simp;refine hK5 _ _ ?_;refine wpList_plain rfl fun K6 hK6=>?_
    go_simp;refine hK6 _ _ ?_;refine wpList_load_mid rfl 29 _ rfl gp 9 rfl vt _ HRT7.out Tryz.underlying29 rfl (infoTy' HTL.out) ?_;go_wp2_with fail
    refine (HCHK.out _ HE7.out HC7.out).mono ?_;rintro e w8 ⟨rfl,hE8,hC8⟩;obtain ⟨⟨D1,D2⟩,D3⟩:=CK;obtain ⟨HF8,HE8,HC8⟩:=Z3 (hE8.blk HF7.out HN.out) ((Grw.of_ext HE7.out).trans hE8) hC8;obtain ⟨b0,b1⟩:=X2 HF8.out;obtain ⟨f0,f1⟩:=Y2 HF8.out;unfold fltV;clear hE8 hC8;go_wp2_with fail
    exact Qa (f:=(D1,D2)) (g:=gf) ((HF8.out.set_ 0 _).set_ 1 _) rfl rfl rfl ⟨by rw [HR.out],(HE8.out.set (.inl HLO.out) _).set (.inl HLO.out) _,by rw [HR.out]; exact (HC8.out.far HN.out.symm _).far HN.out.symm _⟩
   ·have HR:=hide (show R=((C1,C2),m) by rw [HX2.out,HP3.out]; exact if_pos c4)
    have j0:(C1 == 0)=false:=by simpa using c4
    go_wp2_with fail
    exact Qa (f:=(C1,C2)) (g:=gf) ((HF7.out.set_ 0 _).set_ 1 _) rfl rfl rfl ⟨by rw [HR.out],((Grw.of_ext HE7.out).set (.inl HLO.out) _).set (.inl HLO.out) _,by rw [HR.out]; exact (HC7.out.far HN.out.symm _).far HN.out.symm _⟩
  ·have HP3:=hide (show PF=(L1,L2) by rw [HP2.out]; exact if_neg c3)
   have HR:=hide (show R=((L1,L2),m) by rw [HX2.out,HP3.out]; exact if_pos c3)
   have j0:(L1 == 0)=false:=by simpa using c3
   go_enter Tryz.func163,Tryz.ntmps163
   go_upto_region 1 with fail
   rw [← HW0.out,← HGF.out,← HGP.out];refine wp_region_lit ?_;refine wpList_plain rfl fun K1 hK1=>?_
   go_simp;refine hK1 _ _ ?_;refine wpList_plain rfl fun K2 hK2=>?_
   go_simp;refine hK2 _ _ ?_;refine wpList_plain rfl fun K3 hK3=>?_
   go_simp;refine hK3 _ _ ?_;refine wpList_plain rfl fun K4 hK4=>?_
   go_simp;refine hK4 _ _ ?_;refine Qc rfl 131 _ _ rfl _ #[.string nm,.int .i64 a,.bool true,.slice none 0 0,.int .i64 0,.int .i64 0,.int .i64 0,.int .i64 0,.slice none 0 0,.int .i64 0,.int .i64 0,.int .i64 0,.int .i64 0,.int .i64 0,.slice none 0 0,.slice none 0 0,.string ⟨#[]⟩,.int .i64 0] rfl rfl (by kernel_rfl) (by kernel_rfl) (by kernel_rfl) ?_
   rw [← HW1.out,← HGZ.out];clear z0 z1;go_wp2_with fail
   refine (HLAB.out _ HE.out).mono ?_;rintro e w3 ⟨rfl,hE3⟩;have hE3n:=hE3.alloc hE3.size (.cells #[.int .i64 L1,.int .i64 L2] 34);obtain ⟨w4,hw4⟩:=V1 (w3.alloc (.cells #[.int .i64 L1,.int .i64 L2] 34));rw [← hw4] at hE3n;have hl4:=bN hw4;obtain ⟨g3,hg3⟩:=V1 (w3.heap.size);rw [← hg3] at hl4;obtain ⟨HF4,HE4,HC4,HP4⟩:=Z4 (HF.out.ext hE3n) (HE.out.trans' hE3n) (HC.out.ext hE3n) (HP.out.ext hE3n);obtain ⟨b0,b1⟩:=X2 HF4.out;obtain ⟨f0,f1⟩:=Y2 HF4.out;have u0:=hl4.cell 0;have u1:=hl4.cell 1;simp only [gA,gH,gS] at u0 u1;have HRT4:=hide (show w4.rangeAt gp 9 vt from fun j v hv=>(hE3n.cell (p:=⟨gp,9 + j,none⟩) HP.out.lt).trans (HRT.out j v hv))
   have HRG4:=hide (show w4.rangeAt gp 0 vs from Qv (by rw [HVE.out]; exact HP4.out))
   obtain ⟨HW4,HG3⟩:=Z2 hw4 hg3;clear hE3 hE3n hw4 hg3 hl4 p0 p1 p2 p3 p4;unfold fltV;go_upto_region 9 with fail
   rw [← HW4.out,← HG3.out];go_wp2_with fail
   exact Qa (f:=(L1,L2)) (g:=gf) ((HF4.out.set_ 0 _).set_ 1 _) rfl rfl rfl ⟨by rw [HR.out],((Grw.of_ext HE4.out).set (.inl HLO.out) _).set (.inl HLO.out) _,by rw [HR.out]; exact (HC4.out.far HN.out.symm _).far HN.out.symm _⟩
theorem Qlm (u:Bool) (q:PtH) (t:Ty) (d m:Int) (gc B:Nat) (w:World) (vs:List Value) (h:PartAt w B q t vs) (hs:Qi q.label) (hs2:Qi q.cl) (hst:Qr t) (hBg:B≤gc) (hC:Blk w gc 180 #[.int .i64 m]) (hsub:ChkC t (IntKind.i64.wrap (d + 1)) B) :
  Calls Tryz.prog 163 #[.pointer (some ⟨gc,0,none⟩),.agg vs.toArray,.bool u,.int .i64 d] w (Qav (Qag u q t (fun m=>chk t (IntKind.i64.wrap (d + 1)) m) m) gc w):=by
 cases hb:q.bare with
 | true=>exact Qqu u q t d m gc B w vs hb h hs hs2 hst hBg hC hsub
 | false=>exact Qqv u q t d m gc B w vs hb h hs hs2 hst hBg hC hsub
theorem blk_at {w:World} {g:Nat} {t:TypeId} {vs:List Value} (h:Blk w g t vs.toArray) {j:Nat} {v:Value} (hv:vs[j]? = some v):w.cell? ⟨g,j,none⟩=some v:=by
 rw [h.cell]; simpa using hv
theorem Grw.append {gc base size n:Nat} {e:TypeId} {v:Value} {xs:List Value} {w0 w1 w3 wr:World} (h:Grw gc w0 w1) (hg:w1.grownBy w3 v.ownBlock) (hO:wr.ownsRow base e size v n xs) (hb:w0.heap.size≤base):Grw gc w0 w3 :=
 ⟨h.os |> fun q=>hg.os.trans q,hg.tape.trans h.tape,hg.output.trans h.output,Nat.le_trans h.size hg.size,fun i hi hr=>(hg.block i (Nat.lt_of_lt_of_le hi h.size) (fun e=>by have:=hO.lt i e.symm; omega)).trans (h.block i hi hr)⟩
theorem Qn2 {gc base size n:Nat} {e:TypeId} {v:Value} {xs:List Value} {w w':World} (hO:w.ownsRow base e size v n xs) (h:Grw gc w w') (hb:gc < base):w'.ownsRow base e size v n xs :=
 hO.kept h (.inr fun e=>by have:=hO.lt gc e; omega)
theorem Qo1 {u:Bool} {q:PtH} {t:Ty} {sub:Int→Wr} {m:Int} (hs:∀ m',(sub m').1.1=0→(sub m').1=(0,0)) (h:(Qag u q t sub m).1.1=0):(Qag u q t sub m).1=(0,0):=by
 unfold Qag at h ⊢;split
 ·rw [if_pos (by assumption)] at h
  split
  ·rfl
  ·rw [if_neg (by assumption)] at h; cases h
 ·rw [if_neg (by assumption)] at h
  split
  ·rw [if_pos (by assumption)] at h; contradiction
  ·rw [if_neg (by assumption)] at h; exact hs _ h
theorem Qc6 {k:Int} {n:Nat} {p:Nat→PtH} {t:Nat→Ty} {sub:Nat→Int→Wr} {i:Nat} {m:Int} (h:listE (Qd n p) i≠0):stepF k n p t sub i m=((listE (Qd n p) i,(p i).name.2),m):=if_pos h
theorem Qcl {k:Int} {n:Nat} {p:Nat→PtH} {t:Nat→Ty} {sub:Nat→Int→Wr} {i:Nat} {m:Int} (u:Bool) (hu:u=true↔k=8) (h:listE (Qd n p) i=0):stepF k n p t sub i m=Qag u (p i) (t i) (sub i) m:=by
 unfold stepF Qag;rw [if_neg (show ¬ listE (Qd n p) i≠0 from fun hh=>hh h)]
 simp only [hu]
theorem Qhh (n:Nat) (p:Nat→PtH):Qd (n + 1) p=Qd n p ++ [(p n).name.1]:=by simp [Qd,List.range_succ]
theorem Qdn {k:Int} {n:Nat} {p:Nat→PtH} {t:Nat→Ty} {d1:Int} {i:Nat} {m:Int} (h:(stepF k n p t (fun i m'=>chk (t i) d1 m') i m).1.1=0):(stepF k n p t (fun i m'=>chk (t i) d1 m') i m).1=(0,0):=by
 by_cases hl:listE (Qd n p) i=0
 ·rw [Qcl (decide (k=8)) (by simp) hl] at h ⊢
  exact Qo1 (fun m' e=>Qhq (t i) e) h
 ·rw [Qc6 hl] at h; exact absurd h hl
set_option maxRecDepth 100000 in
theorem Qt0 (a lo hi mo s1:Int) (s0:ByteArray) (nn cn cp n:Nat) (An Ap:Option Addr) (p:Nat→PtH) (t:Nat→Ty) (d m:Int) (gc B:Nat) (w:World) (hP:PartsAt w B Ap n p t) (hsz:∀ i,i < n→(p i).name.1.size≤maxLen∧Qi (p i).label∧Qi (p i).cl∧Qr (t i)) (hBg:B≤gc) (hC:Blk w gc 180 #[.int .i64 m]) (hsub:∀ i,i < n→ChkC (t i) (IntKind.i64.wrap (d + 1)) B) :
  Calls Tryz.prog 131 #[.pointer (some ⟨gc,0,none⟩),.agg #[.int .i64 7,.int .i64 a,.int .i64 lo,.int .i64 hi,.int .i64 mo,.slice An nn cn,.slice Ap n cp,.string s0,.int .i64 s1],.int .i64 d] w (Qav (if 64 < n then ((8,(p 64).name.2),m) else goTo (stepF 7 n p t (fun i m'=>chk (t i) (IntKind.i64.wrap (d + 1)) m')) n m) gc w):=by
 have e1:=IntWalk.i64_left (d + 1);rw [e1] at hsub ⊢;clear e1;obtain ⟨w0,hw0⟩:=V1 ((w.alloc (.cells #[.int .i64 7,.int .i64 a,.int .i64 lo,.int .i64 hi,.int .i64 mo,.slice An nn cn,.slice Ap n cp,.string s0,.int .i64 s1] 29)).alloc (.cells #[.int .i64 0,.int .i64 0] 34));have hT:Blk w0 w.heap.size 29 #[.int .i64 7,.int .i64 a,.int .i64 lo,.int .i64 hi,.int .i64 mo,.slice An nn cn,.slice Ap n cp,.string s0,.int .i64 s1]:=by rw [hw0]; exact (Blk.new _ _ _).alloc _
 have hF:Blk w0 (w.heap.size + 1) 34 #[.int .i64 0,.int .i64 0]:=by
  rw [hw0]; have:=Blk.new (w.alloc (.cells #[.int .i64 7,.int .i64 a,.int .i64 lo,.int .i64 hi,.int .i64 mo,.slice An nn cn,.slice Ap n cp,.string s0,.int .i64 s1] 29)) 34 #[.int .i64 0,.int .i64 0]; simpa only [World.size_alloc] using this
 have hE:Ext w w0:=by rw [hw0]; exact ((Ext.rfl' w).alloc nL _).alloc (by simp only [World.size_alloc]; omega) _
 have hS:w0.heap.size=w.heap.size + 2:=by rw [hw0]; simp only [World.size_alloc]
 have hC1:Blk w0 gc 180 #[.int .i64 m]:=hC.ext hE;have hgl:=hC.lt;have hBw:B≤w.heap.size:=Nat.le_of_lt (Nat.lt_of_le_of_lt hBg hgl);have n1:w.heap.size + 1≠gc:=by omega
 have n2:w.heap.size≠gc:=by omega
 have hlo:w.heap.size≤w.heap.size + 1:=Nat.le_succ _;have hP0:PartsAt w0 B Ap n p t:=hP.keep fun q hq=>hE.cell (Nat.lt_of_lt_of_le hq hBw)
 have hBw0:B≤w0.heap.size:=Nat.le_trans hBw hE.size;have hgc0:gc < w0.heap.size:=Nat.lt_of_lt_of_le hgl hE.size;obtain ⟨gf,hgf,gt,hgt⟩:=V2 (w.heap.size + 1) (w.heap.size);rw [← hgf] at hF hlo n1;rw [← hgt] at hT n2;obtain ⟨HW,HGF,HGT,HF,HE,HC,HT,HN⟩:=Z8 hw0 hgf hgt hF hE hC1 hT n1;obtain ⟨HN2,HLO,HBW,HBG,HGC⟩:=Z5 n2 hlo hBw0 hBg hgc0;obtain ⟨b0,b1⟩:=X2 HF.out;obtain ⟨f0,f1⟩:=Y2 HF.out;have t0:=hT.cell 0;have t1:=hT.cell 1;have t6:=hT.cell 6;simp only [gA,gH,gS] at t0 t1 t6;clear hw0 hF hE hC1 hT n1 n2 hlo hgf hgt hS hBw hBg hgl hC hP hBw0 hgc0;by_cases c1:64 < n
 ·obtain ⟨R,hR⟩:∃ R:Wr,R=((8,(p 64).name.2),m):=⟨_,rfl⟩;rw [if_pos c1,← hR];obtain ⟨b,o,rfl,hbs,_⟩:=hP0 (by omega)
  obtain ⟨_,d1⟩:=Qc5 hP0 rfl c1;obtain ⟨x,hx⟩:=V1 ((p 64).name.2);rw [← hx] at d1 hR;have HR:=hide hR;have i0:((n:Int) == 0)=false:=by simp; omega
  have i1:(64:Int) < (n:Int):=by omega
  clear hP0 hsz hsub hR hx hbs;go_enter Tryz.func131,Tryz.ntmps131
  go_upto_region 1 with fail
  rw [← HW.out,← HGF.out,← HGT.out];go_wp2_with fail
  refine (Qn 8 x _).mono ?_;rintro e w5 ⟨rfl,hE5⟩;obtain ⟨HF5,HE5,HC5⟩:=Z3 (HF.out.ext hE5) (HE.out.trans' hE5) (HC.out.ext hE5);obtain ⟨b0,b1⟩:=X2 HF5.out;obtain ⟨f0,f1⟩:=Y2 HF5.out;unfold fltV;clear hE5;go_wp2_with fail
  exact Qa (f:=(8,x)) (g:=gf) ((HF5.out.set_ 0 _).set_ 1 _) rfl rfl rfl ⟨by rw [HR.out],((Grw.of_ext HE5.out).set (.inl HLO.out) _).set (.inl HLO.out) _,by rw [HR.out]; exact (HC5.out.far HN.out.symm _).far HN.out.symm _⟩
 rw [if_neg c1];obtain ⟨g,hg⟩:=V1 (stepF 7 n p t (fun i m'=>chk (t i) (wrap64 (d + 1)) m'))
 rw [← hg];obtain ⟨HSTEP,HBAD⟩:=Z2 (fun k m' (hl:listE (Qd n p) k=0)=>(show g k m'=Qag false (p k) (t k) (fun m=>chk (t k) (wrap64 (d + 1)) m) m' by rw [hg]; exact Qcl false (by decide) hl)) (fun k m' (hl:listE (Qd n p) k≠0)=>(show g k m'=((listE (Qd n p) k,(p k).name.2),m') by rw [hg]; exact Qc6 hl))
 have hz:∀ i m',i < n→(g i m').1.1=0→(g i m').1=(0,0):=fun i m' _ e=>by rw [hg] at e ⊢; exact Qdn e
 obtain ⟨HZ,HPP,HSZ,HSUB⟩:=Z4 (fun (h:(goTo g n m).1.1=0)=>Qc2 hz nL h) hP0 hsz hsub
 have i0:((n:Int) == 0)=false∨n=0:=by by_cases h:n=0; exact .inr h; exact .inl (by simp; omega)
 have i1:¬ (64:Int) < (n:Int):=by omega
 have H64:=hide c1;obtain ⟨base,hbase⟩:=V1 (w0.heap.size);have HBASE:=hide hbase;clear hg hz hP0 hsz hsub c1 hbase;clear i0;go_enter Tryz.func131,Tryz.ntmps131
 go_upto_region 1 with fail
 rw [← HW.out,← HGF.out,← HGT.out];go_wp2_with fail
 go_loopw [40,7] (fun i o wr=>∃ (k:Nat) (Ao:Option Addr) (co:Nat),k≤n∧i = .int .i64 k∧o = .slice Ao k co∧Grw gc w0 wr∧(goTo g k m).1.1=0∧Blk wr gc 180 #[.int .i64 (goTo g k m).2]∧wr.ownsRow base 9 1 (.slice Ao k co) k (Qg (Qd k p))∧Hid (∀ j,j < k→listE (Qd n p) j=0)) (fun i _ _=>n - (intOf i).toNat)
 case atStart=>exact ⟨0,none,0,Nat.zero_le _,rfl,rfl,.of_ext (Ext.rfl' _),rfl,HC.out,World.ownsRow_nil _ _ _ _,fun j hj=>absurd hj (by omega)⟩
 case round =>
  obtain ⟨k,Ao,co,hk,rfl,rfl,hG,hgo,hCk,hO,HA⟩:=hrel;obtain ⟨HO,HCK,HG,HGO⟩:=Z4 hO hCk hG hgo;have hbs0:base≤wr.heap.size:=by rw [HBASE.out]; exact hG.sz
  by_cases hlt:k < n
  ·have hkn:k < (Qd n p).length:=by rw [Qaz]; exact hlt
   obtain ⟨b,o,rfl,hbs,hcell⟩:=HPP.out (by omega)
   obtain ⟨vs,hr0,hpa⟩:=hcell k hlt;have hs:=HSZ.out k hlt;have hcells:=hG.cells HBW.out HBG.out;have hr1:wr.rangeAt b (o + k * 18) vs:=fun j v hv=>(hcells ⟨b,o + k * 18 + j,none⟩ hbs).trans (hr0 j v hv)
   have hvl:vs.length=18:=hpa.len;have hvo:vs.toArray.all (·.oneCell')=true:=hpa.one;have hv0:vs[0]? = some (.string (p k).name.1):=by obtain ⟨Al,cl,Ac,cc,vt,rfl,_⟩:=hpa; rfl
   have hv1:vs[1]? = some (.int .i64 (p k).name.2):=by obtain ⟨Al,cl,Ac,cc,vt,rfl,_⟩:=hpa; rfl
   have hne:=Qes hkn (p k).name.2 HA.out;have HST:=hide (fun hh=>Q0 HA.out (show listE (Qd n p) k=0 from hh))
   have hst:=Qhh k p;have htk:(Qd n p).take (k + 1)=Qd (k + 1) p:=Qha hlt;rw [htk] at hne;have hgd:(Qd (k + 1) p).getD k ⟨#[]⟩=(p k).name.1:=by
    rw [List.getD_eq_getElem?_getD,List.getElem?_eq_getElem (by rw [Qaz]; exact Nat.lt_succ_self k),Qjp]; rfl
   have hxs:=hs.1;rw [← hgd] at hxs;have hbad:=fun hh=>HBAD.out k (goTo g k m).2 hh
   have hstp:=fun hh=>HSTEP.out k (goTo g k m).2 hh
   have hnx:goTo g (k + 1) m=g k (goTo g k m).2:=Qae hgo;have hstk:(goTo g (k + 1) m).1.1≠0→goTo g n m=goTo g (k + 1) m:=Qa1 hlt;have HPA:=hide (fun w6 (hG6:Grw gc w0 w6) (hC6:Blk w6 gc 180 #[.int .i64 (goTo g k m).2])=>(by have hq:=Qlm false (p k) (t k) d (goTo g k m).2 gc B w6 vs (hpa.keep (hG6.cells HBW.out HBG.out)) hs.2.1 hs.2.2.1 hs.2.2.2 HBG.out hC6 (by rw [IntWalk.i64_left]; exact HSUB.out k hlt); rw [IntWalk.i64_left] at hq; exact hq:Calls Tryz.prog 163 #[.pointer (some ⟨gc,0,none⟩),.agg vs.toArray,.bool false,.int .i64 d] w6 (Qav (Qag false (p k) (t k) (fun m=>chk (t k) (wrap64 (d + 1)) m) (goTo g k m).2) gc w6)))
   obtain ⟨NX,hNX,R,hRn⟩:=V2 (goTo g (k + 1) m) (goTo g n m);rw [← hNX] at hnx hstk;rw [← hRn] at hstk;obtain ⟨HNXE,HRN⟩:=Z2 hNX hRn;clear hNX hRn;generalize (goTo g k m).2=mk at HCK hbad hstp hnx HPA
   generalize Qag false (p k) (t k) (fun m=>chk (t k) (wrap64 (d + 1)) m) mk=PR at hstp HPA
   obtain ⟨x,hx,y,hy,ev,hev⟩:=V3 ((p k).name.1) ((p k).name.2) (listE (Qd n p) k);rw [← hx] at hst hv0;rw [← hy] at hne hbad hv1;rw [← hev] at hne hbad hstp HST;obtain ⟨w1,hw1⟩:=V1 (wr.alloc (.cells vs.toArray 131));have hV:Blk w1 wr.heap.size 131 vs.toArray:=by rw [hw1]; exact Blk.new _ _ _
   have hC1:Blk w1 gc 180 #[.int .i64 mk]:=by rw [hw1]; exact HCK.out.alloc _
   have hO1:w1.ownsRow base 9 1 (.slice Ao k co) k (Qg (Qd k p)):=by rw [hw1]; exact hO.alloc _
   have hG1:Grw gc w0 w1:=by rw [hw1]; exact hG.ext ((Ext.rfl' wr).alloc nL _)
   have hs1:w1.heap.size=wr.heap.size + 1:=by rw [hw1]; simp only [World.size_alloc]
   obtain ⟨gv,hgv⟩:=V1 (wr.heap.size);rw [← hgv] at hV;have hgvb:base≤gv:=by rw [hgv]; exact hbs0
   have hgvc:gv≠gc:=by have:=HGC.out; rw [← HBASE.out] at this; omega
   have hgvO:∀ g,Value.ownBlock (.slice Ao k co)=some g→g < gv:=fun g e=>by rw [hgv]; exact (HO.out.lt g e).2
   have v0:=blk_at hV hv0;have v1:=blk_at hV hv1;obtain ⟨HNE,HHIT,HSTP,HNX,HSTK,HST2,HXS,HW1⟩:=Z8 hne hbad hstp hnx hstk hst hxs hw1;obtain ⟨HG1,HV1,HC1,HO1,HGR1,HGV,HGVC⟩:=Z7 hgv hV hC1 hO1 hG1 hgvO hgvc;have hbs1:base≤w1.heap.size:=by rw [hs1]; omega
   obtain ⟨HVL,HVO,HV0,HV1c,HR1⟩:=Z5 hvl hvo hv0 hv1 hr1;have i2:=nZ k;have i3:(k:Int) < (n:Int):=by omega
   clear hw1 hV hC1 hO1 hG1 hs1 hgv hgvO hgvc hne hbad hstp hnx hstk hst hxs hx hy hev hgd hkn hcell hO hG hgo hCk HO HG HCK HGO HZ hvl hvo hv0 hv1 hr0 hr1 hpa hs hcells htk;go_upto_region 8 with fail
   refine wp_region_lit ?_;refine wpList_plain rfl fun K1 hK1=>?_
   go_simp;refine hK1 _ _ ?_;refine wpList_load_mid rfl 131 _ rfl b (o + k * 18) rfl vs _ HR1.out Tryz.underlying131 rfl (infoPart' HVL.out) ?_;refine wpList_plain rfl fun K2 hK2=>?_
   go_simp;refine hK2 _ _ ?_;refine Qc rfl 131 _ _ rfl _ vs.toArray rfl rfl (Qan HVL.out) (by show _=vs.length; rw [HVL.out]; rfl) HVO.out ?_
   go_upto_region 9 with fail
   rw [← HW1.out,← HG1.out];go_wp2_with (at_builtin; refine Qa0 _ rfl _ _ rfl base _ k (Qd k p) rfl w1.heap.size x _ rfl (HO1.out.alloc _) (reads_at _ _ _ _ rfl) (by omega) (by simp; omega) ?_)
   intro A3 c3 w3 hown3 hgrow3 _;have hG3:Grw gc w0 w3:=(HGR1.out.ext ((Ext.rfl' w1).alloc nL _)).append hgrow3 HO1.out (by rw [HBASE.out]; exact Nat.le_refl _)
   have hC3:=Qej (HC1.out.alloc (.cells #[.string x] 9)) hgrow3 HO1.out (.inl (by rw [HBASE.out]; exact HGC.out))
   have hV3:Blk w3 gv 131 vs.toArray:=by
    refine (hgrow3.block gv (HV1.out.alloc _).lt ?_).trans (HV1.out.alloc _);intro e;exact absurd (HGV.out gv e.symm) (Nat.lt_irrefl _)
   have v0:=blk_at hV3 HV0.out;have v1:=blk_at hV3 HV1c.out;rw [← HST2.out] at hown3;have hlen:k + 1=(Qd (k + 1) p).length:=by rw [Qaz]
   have hsa:StrAt w3 w3.heap.size A3 (Qd (k + 1) p):=by
    unfold StrAt;rw [← hlen];exact Reads.of_own hown3
   have hli:=Qfe A3 c3 (k + 1) k y _ w3 hsa hlen rfl (by have:=H64.out; omega) HXS.out
   rw [HNE.out] at hli;obtain ⟨HLI,HC3,HG3,HO3,HV3⟩:=Z5 hli hC3 hG3 hown3 hV3;clear hgrow3 hown3 hC3 hV3 hG3 hli hsa hlen HNE HV1;by_cases he:ev=0
   ·have hli:=HLI.out;rw [if_pos he] at hli;obtain ⟨HLJ,HA2,HPR⟩:=Z3 hli (HST.out he) (HSTP.out he);clear hli HLI HST HHIT HA he HSTP;go_upto_region 10 with fail
    go_wp2_with fail
    refine HLJ.out.mono ?_;rintro e w5 ⟨rfl,hE5⟩;obtain ⟨w6,hw6⟩:=V1 (w5.alloc (.cells #[.int .i64 0,.int .i64 0] 34));have hE6:Ext w3 w6:=by rw [hw6]; exact hE5.alloc hE5.size _
    obtain ⟨HC6,HG6,HV6,HO6⟩:=Z4 (HC3.out.ext hE6) (HG3.out.ext hE6) (HV3.out.ext hE6) (own_ext HO3.out hE6);have hf6:=bN hw6;obtain ⟨g5,hg5⟩:=V1 (w5.heap.size);rw [← hg5] at hf6;have u0:=hf6.cell 0;have u1:=hf6.cell 1;have t0:=(HG6.out.blk HT.out HN2.out).cell 0;simp only [gA,gH,gS] at u0 u1 t0;obtain ⟨HW6,HG5⟩:=Z2 hw6 hg5;clear hw6 hg5 hf6 hE6 hE5 v0 v1;unfold fltV;go_upto_region 11 with fail
    rw [← HW6.out,← HG5.out];go_upto_region 13 with fail
    refine wp_region_lit ?_;refine wpList_plain rfl fun K3 hK3=>?_
    go_simp;refine hK3 _ _ ?_;refine wpList_load_mid rfl 131 _ rfl gv 0 rfl vs _ (Qv HV6.out) Tryz.underlying131 rfl (infoPart' HVL.out) ?_;go_wp2_with fail
    refine (HPA.out _ HG6.out HC6.out).mono ?_;rintro e w8 ⟨rfl,hE8,hC8⟩;obtain ⟨⟨P1,P2⟩,P3⟩:=PR;obtain ⟨w9,hw9⟩:=V1 (w8.alloc (.cells #[.int .i64 P1,.int .i64 P2] 34));have hE9:Ext w8 w9:=by rw [hw9]; exact (Ext.rfl' w8).alloc nL _
    have HC9:=hide (show Blk w9 gc 180 #[.int .i64 P3] from hC8.ext hE9)
    obtain ⟨HG9,HO9⟩:=Z2 ((HG6.out.trans hE8).ext hE9) (own_ext (Qn2 HO6.out hE8 (by rw [HBASE.out]; exact HGC.out)) hE9)
    have hf9:=bN hw9;obtain ⟨g8,hg8⟩:=V1 (w8.heap.size);rw [← hg8] at hf9;have u0:=hf9.cell 0;have u1:=hf9.cell 1;have HF9:=hide (HG9.out.blk HF.out HN.out);obtain ⟨b0,b1⟩:=X2 HF9.out;obtain ⟨f0,f1⟩:=Y2 HF9.out;simp only [gA,gH,gS] at u0 u1;obtain ⟨HW9,HG8⟩:=Z2 hw9 hg8;clear hw9 hg8 hf9 hE9 hE8 hC8 t0;unfold fltV;go_upto_region 14 with fail
    rw [← HW9.out,← HG8.out];by_cases c4:P1=0
    ·have HNX2:=hide (show NX.1.1=0 by rw [HNX.out,HPR.out]; exact c4)
     have HNX3:=hide (show NX.2=P3 by rw [HNX.out,HPR.out])
     subst c4;clear b0 b1 f0 f1 HNX HSTK HPR;go_wp2_with fail
     go_roundw
     case rel=>exact ⟨k + 1,A3,c3,by omega,by go_num,rfl,HG9.out,by rw [← HNXE.out]; exact HNX2.out,by rw [← HNXE.out,HNX3.out]; exact HC9.out,HO9.out,HA2.out⟩
     case measure=>simp [intOf]; omega
    ·have HR:=hide (show R=((P1,P2),P3) by rw [HSTK.out (by rw [HNX.out,HPR.out]; exact c4),HNX.out,HPR.out])
     have j0:(P1 == 0)=false:=by simpa using c4
     clear HNX HSTK HPR c4;go_wp2_with fail
     exact Qa (f:=(P1,P2)) (g:=gf) ((HF9.out.set_ 0 _).set_ 1 _) rfl rfl rfl ⟨by rw [← HRN.out,HR.out],(((Grw.of_ext HE.out).trans HG9.out).set (.inl HLO.out) _).set (.inl HLO.out) _,by rw [← HRN.out,HR.out]; exact (HC9.out.far HN.out.symm _).far HN.out.symm _⟩
   ·have hli:=HLI.out;rw [if_neg he] at hli;obtain ⟨HLJ,HGK⟩:=Z2 hli (HHIT.out he);have HR:=hide (show R=((ev,y),mk) by rw [HSTK.out (by rw [HNX.out,HGK.out]; exact he),HNX.out,HGK.out])
    have j0:(ev == 0)=false:=by simpa using he
    clear hli HLI HST HHIT HA he HSTP HGK HNX HSTK;go_upto_region 10 with fail
    go_wp2_with fail
    refine HLJ.out.mono ?_;rintro e w5 ⟨rfl,hE5⟩;obtain ⟨w6,hw6⟩:=V1 (w5.alloc (.cells #[.int .i64 ev,.int .i64 y] 34));have hE6:Ext w3 w6:=by rw [hw6]; exact hE5.alloc hE5.size _
    obtain ⟨HC6,HG6⟩:=Z2 (HC3.out.ext hE6) (HG3.out.ext hE6);have HF6:=hide (HG6.out.blk HF.out HN.out);have hf6:=bN hw6;obtain ⟨g5,hg5⟩:=V1 (w5.heap.size);rw [← hg5] at hf6;obtain ⟨b0,b1⟩:=X2 HF6.out;obtain ⟨f0,f1⟩:=Y2 HF6.out;have u0:=hf6.cell 0;have u1:=hf6.cell 1;simp only [gA,gH,gS] at u0 u1;obtain ⟨HW6,HG5⟩:=Z2 hw6 hg5;clear hw6 hg5 hf6 hE6 hE5 v0 v1;unfold fltV;go_upto_region 11 with fail
    rw [← HW6.out,← HG5.out];go_wp2_with fail
    exact Qa (f:=(ev,y)) (g:=gf) ((HF6.out.set_ 0 _).set_ 1 _) rfl rfl rfl ⟨by rw [← HRN.out,HR.out],(((Grw.of_ext HE.out).trans HG6.out).set (.inl HLO.out) _).set (.inl HLO.out) _,by rw [← HRN.out,HR.out]; exact (HC6.out.far HN.out.symm _).far HN.out.symm _⟩
  ·obtain rfl:k=n:=by omega
   obtain ⟨HX,HFr⟩:=Z2 (HZ.out hgo) (hG.blk HF.out HN.out);obtain ⟨b0,b1⟩:=X2 HFr.out;obtain ⟨f0,f1⟩:=Y2 HFr.out;clear hO hG hgo hCk HA;go_wp2_with fail
   exact Qa (f:=(0,0)) (g:=gf) ((HFr.out.set_ 0 _).set_ 1 _) rfl rfl rfl ⟨by rw [HX.out],(((Grw.of_ext HE.out).trans HG.out).set (.inl HLO.out) _).set (.inl HLO.out) _,(HCK.out.far HN.out.symm _).far HN.out.symm _⟩
set_option maxRecDepth 100000 in
theorem Qt1 (a lo hi mo s1:Int) (s0:ByteArray) (nn cn cp n:Nat) (An Ap:Option Addr) (p:Nat→PtH) (t:Nat→Ty) (d m:Int) (gc B:Nat) (w:World) (hP:PartsAt w B Ap n p t) (hsz:∀ i,i < n→(p i).name.1.size≤maxLen∧Qi (p i).label∧Qi (p i).cl∧Qr (t i)) (hBg:B≤gc) (hC:Blk w gc 180 #[.int .i64 m]) (hsub:∀ i,i < n→ChkC (t i) (IntKind.i64.wrap (d + 1)) B) :
  Calls Tryz.prog 131 #[.pointer (some ⟨gc,0,none⟩),.agg #[.int .i64 8,.int .i64 a,.int .i64 lo,.int .i64 hi,.int .i64 mo,.slice An nn cn,.slice Ap n cp,.string s0,.int .i64 s1],.int .i64 d] w (Qav (if n=0 then ((15,a),m) else if 64 < n then ((8,(p 64).name.2),m) else goTo (stepF 8 n p t (fun i m'=>chk (t i) (IntKind.i64.wrap (d + 1)) m')) n m) gc w):=by
 have e1:=IntWalk.i64_left (d + 1);rw [e1] at hsub ⊢;clear e1;obtain ⟨w0,hw0⟩:=V1 ((w.alloc (.cells #[.int .i64 8,.int .i64 a,.int .i64 lo,.int .i64 hi,.int .i64 mo,.slice An nn cn,.slice Ap n cp,.string s0,.int .i64 s1] 29)).alloc (.cells #[.int .i64 0,.int .i64 0] 34));have hT:Blk w0 w.heap.size 29 #[.int .i64 8,.int .i64 a,.int .i64 lo,.int .i64 hi,.int .i64 mo,.slice An nn cn,.slice Ap n cp,.string s0,.int .i64 s1]:=by rw [hw0]; exact (Blk.new _ _ _).alloc _
 have hF:Blk w0 (w.heap.size + 1) 34 #[.int .i64 0,.int .i64 0]:=by
  rw [hw0]; have:=Blk.new (w.alloc (.cells #[.int .i64 8,.int .i64 a,.int .i64 lo,.int .i64 hi,.int .i64 mo,.slice An nn cn,.slice Ap n cp,.string s0,.int .i64 s1] 29)) 34 #[.int .i64 0,.int .i64 0]; simpa only [World.size_alloc] using this
 have hE:Ext w w0:=by rw [hw0]; exact ((Ext.rfl' w).alloc nL _).alloc (by simp only [World.size_alloc]; omega) _
 have hS:w0.heap.size=w.heap.size + 2:=by rw [hw0]; simp only [World.size_alloc]
 have hC1:Blk w0 gc 180 #[.int .i64 m]:=hC.ext hE;have hgl:=hC.lt;have hBw:B≤w.heap.size:=Nat.le_of_lt (Nat.lt_of_le_of_lt hBg hgl);have n1:w.heap.size + 1≠gc:=by omega
 have n2:w.heap.size≠gc:=by omega
 have hlo:w.heap.size≤w.heap.size + 1:=Nat.le_succ _;have hP0:PartsAt w0 B Ap n p t:=hP.keep fun q hq=>hE.cell (Nat.lt_of_lt_of_le hq hBw)
 have hBw0:B≤w0.heap.size:=Nat.le_trans hBw hE.size;have hgc0:gc < w0.heap.size:=Nat.lt_of_lt_of_le hgl hE.size;obtain ⟨gf,hgf,gt,hgt⟩:=V2 (w.heap.size + 1) (w.heap.size);rw [← hgf] at hF hlo n1;rw [← hgt] at hT n2;obtain ⟨HW,HGF,HGT,HF,HE,HC,HT,HN⟩:=Z8 hw0 hgf hgt hF hE hC1 hT n1;obtain ⟨HN2,HLO,HBW,HBG,HGC⟩:=Z5 n2 hlo hBw0 hBg hgc0;obtain ⟨b0,b1⟩:=X2 HF.out;obtain ⟨f0,f1⟩:=Y2 HF.out;have t0:=hT.cell 0;have t1:=hT.cell 1;have t6:=hT.cell 6;simp only [gA,gH,gS] at t0 t1 t6;clear hw0 hF hE hC1 hT n1 n2 hlo hgf hgt hS hBw hBg hgl hC hP hBw0 hgc0;by_cases c0:n=0
 ·obtain ⟨R,hR⟩:∃ R:Wr,R=((15,a),m):=⟨_,rfl⟩;have HR:=hide hR;rw [if_pos c0,← hR];subst c0;clear hP0 hsz hsub hR;go_enter Tryz.func131,Tryz.ntmps131
  go_upto_region 1 with fail
  rw [← HW.out,← HGF.out,← HGT.out];go_wp2_with fail
  refine (Qn 15 a _).mono ?_;rintro e w5 ⟨rfl,hE5⟩;obtain ⟨HF5,HE5,HC5⟩:=Z3 (HF.out.ext hE5) (HE.out.trans' hE5) (HC.out.ext hE5);obtain ⟨b0,b1⟩:=X2 HF5.out;obtain ⟨f0,f1⟩:=Y2 HF5.out;unfold fltV;clear hE5;go_wp2_with fail
  exact Qa (f:=(15,a)) (g:=gf) ((HF5.out.set_ 0 _).set_ 1 _) rfl rfl rfl ⟨by rw [HR.out],((Grw.of_ext HE5.out).set (.inl HLO.out) _).set (.inl HLO.out) _,by rw [HR.out]; exact (HC5.out.far HN.out.symm _).far HN.out.symm _⟩
 rw [if_neg c0];by_cases c1:64 < n
 ·obtain ⟨R,hR⟩:∃ R:Wr,R=((8,(p 64).name.2),m):=⟨_,rfl⟩;rw [if_pos c1,← hR];obtain ⟨b,o,rfl,hbs,_⟩:=hP0 (by omega)
  obtain ⟨_,d1⟩:=Qc5 hP0 rfl c1;obtain ⟨x,hx⟩:=V1 ((p 64).name.2);rw [← hx] at d1 hR;have HR:=hide hR;have i0:((n:Int) == 0)=false:=by simp; omega
  have i1:(64:Int) < (n:Int):=by omega
  clear hP0 hsz hsub hR hx hbs;go_enter Tryz.func131,Tryz.ntmps131
  go_upto_region 1 with fail
  rw [← HW.out,← HGF.out,← HGT.out];go_wp2_with fail
  refine (Qn 8 x _).mono ?_;rintro e w5 ⟨rfl,hE5⟩;obtain ⟨HF5,HE5,HC5⟩:=Z3 (HF.out.ext hE5) (HE.out.trans' hE5) (HC.out.ext hE5);obtain ⟨b0,b1⟩:=X2 HF5.out;obtain ⟨f0,f1⟩:=Y2 HF5.out;unfold fltV;clear hE5;go_wp2_with fail
  exact Qa (f:=(8,x)) (g:=gf) ((HF5.out.set_ 0 _).set_ 1 _) rfl rfl rfl ⟨by rw [HR.out],((Grw.of_ext HE5.out).set (.inl HLO.out) _).set (.inl HLO.out) _,by rw [HR.out]; exact (HC5.out.far HN.out.symm _).far HN.out.symm _⟩
 rw [if_neg c1];obtain ⟨g,hg⟩:=V1 (stepF 8 n p t (fun i m'=>chk (t i) (wrap64 (d + 1)) m'))
 rw [← hg];obtain ⟨HSTEP,HBAD⟩:=Z2 (fun k m' (hl:listE (Qd n p) k=0)=>(show g k m'=Qag true (p k) (t k) (fun m=>chk (t k) (wrap64 (d + 1)) m) m' by rw [hg]; exact Qcl true (by decide) hl)) (fun k m' (hl:listE (Qd n p) k≠0)=>(show g k m'=((listE (Qd n p) k,(p k).name.2),m') by rw [hg]; exact Qc6 hl))
 have hz:∀ i m',i < n→(g i m').1.1=0→(g i m').1=(0,0):=fun i m' _ e=>by rw [hg] at e ⊢; exact Qdn e
 obtain ⟨HZ,HPP,HSZ,HSUB⟩:=Z4 (fun (h:(goTo g n m).1.1=0)=>Qc2 hz nL h) hP0 hsz hsub
 have i0:((n:Int) == 0)=false∨n=0:=by by_cases h:n=0; exact .inr h; exact .inl (by simp; omega)
 have i1:¬ (64:Int) < (n:Int):=by omega
 have H64:=hide c1;obtain ⟨base,hbase⟩:=V1 (w0.heap.size);have HBASE:=hide hbase;clear hg hz hP0 hsz hsub c1 hbase;replace i0:=i0.resolve_right c0
 clear c0;go_enter Tryz.func131,Tryz.ntmps131
 go_upto_region 1 with fail
 rw [← HW.out,← HGF.out,← HGT.out];go_wp2_with fail
 go_loopw [40,7] (fun i o wr=>∃ (k:Nat) (Ao:Option Addr) (co:Nat),k≤n∧i = .int .i64 k∧o = .slice Ao k co∧Grw gc w0 wr∧(goTo g k m).1.1=0∧Blk wr gc 180 #[.int .i64 (goTo g k m).2]∧wr.ownsRow base 9 1 (.slice Ao k co) k (Qg (Qd k p))∧Hid (∀ j,j < k→listE (Qd n p) j=0)) (fun i _ _=>n - (intOf i).toNat)
 case atStart=>exact ⟨0,none,0,Nat.zero_le _,rfl,rfl,.of_ext (Ext.rfl' _),rfl,HC.out,World.ownsRow_nil _ _ _ _,fun j hj=>absurd hj (by omega)⟩
 case round =>
  obtain ⟨k,Ao,co,hk,rfl,rfl,hG,hgo,hCk,hO,HA⟩:=hrel;obtain ⟨HO,HCK,HG,HGO⟩:=Z4 hO hCk hG hgo;have hbs0:base≤wr.heap.size:=by rw [HBASE.out]; exact hG.sz
  by_cases hlt:k < n
  ·have hkn:k < (Qd n p).length:=by rw [Qaz]; exact hlt
   obtain ⟨b,o,rfl,hbs,hcell⟩:=HPP.out (by omega)
   obtain ⟨vs,hr0,hpa⟩:=hcell k hlt;have hs:=HSZ.out k hlt;have hcells:=hG.cells HBW.out HBG.out;have hr1:wr.rangeAt b (o + k * 18) vs:=fun j v hv=>(hcells ⟨b,o + k * 18 + j,none⟩ hbs).trans (hr0 j v hv)
   have hvl:vs.length=18:=hpa.len;have hvo:vs.toArray.all (·.oneCell')=true:=hpa.one;have hv0:vs[0]? = some (.string (p k).name.1):=by obtain ⟨Al,cl,Ac,cc,vt,rfl,_⟩:=hpa; rfl
   have hv1:vs[1]? = some (.int .i64 (p k).name.2):=by obtain ⟨Al,cl,Ac,cc,vt,rfl,_⟩:=hpa; rfl
   have hne:=Qes hkn (p k).name.2 HA.out;have HST:=hide (fun hh=>Q0 HA.out (show listE (Qd n p) k=0 from hh))
   have hst:=Qhh k p;have htk:(Qd n p).take (k + 1)=Qd (k + 1) p:=Qha hlt;rw [htk] at hne;have hgd:(Qd (k + 1) p).getD k ⟨#[]⟩=(p k).name.1:=by
    rw [List.getD_eq_getElem?_getD,List.getElem?_eq_getElem (by rw [Qaz]; exact Nat.lt_succ_self k),Qjp]; rfl
   have hxs:=hs.1;rw [← hgd] at hxs;have hbad:=fun hh=>HBAD.out k (goTo g k m).2 hh
   have hstp:=fun hh=>HSTEP.out k (goTo g k m).2 hh
   have hnx:goTo g (k + 1) m=g k (goTo g k m).2:=Qae hgo;have hstk:(goTo g (k + 1) m).1.1≠0→goTo g n m=goTo g (k + 1) m:=Qa1 hlt;have HPA:=hide (fun w6 (hG6:Grw gc w0 w6) (hC6:Blk w6 gc 180 #[.int .i64 (goTo g k m).2])=>(by have hq:=Qlm true (p k) (t k) d (goTo g k m).2 gc B w6 vs (hpa.keep (hG6.cells HBW.out HBG.out)) hs.2.1 hs.2.2.1 hs.2.2.2 HBG.out hC6 (by rw [IntWalk.i64_left]; exact HSUB.out k hlt); rw [IntWalk.i64_left] at hq; exact hq:Calls Tryz.prog 163 #[.pointer (some ⟨gc,0,none⟩),.agg vs.toArray,.bool true,.int .i64 d] w6 (Qav (Qag true (p k) (t k) (fun m=>chk (t k) (wrap64 (d + 1)) m) (goTo g k m).2) gc w6)))
   obtain ⟨NX,hNX,R,hRn⟩:=V2 (goTo g (k + 1) m) (goTo g n m);rw [← hNX] at hnx hstk;rw [← hRn] at hstk;obtain ⟨HNXE,HRN⟩:=Z2 hNX hRn;clear hNX hRn;generalize (goTo g k m).2=mk at HCK hbad hstp hnx HPA
   generalize Qag true (p k) (t k) (fun m=>chk (t k) (wrap64 (d + 1)) m) mk=PR at hstp HPA
   obtain ⟨x,hx,y,hy,ev,hev⟩:=V3 ((p k).name.1) ((p k).name.2) (listE (Qd n p) k);rw [← hx] at hst hv0;rw [← hy] at hne hbad hv1;rw [← hev] at hne hbad hstp HST;obtain ⟨w1,hw1⟩:=V1 (wr.alloc (.cells vs.toArray 131));have hV:Blk w1 wr.heap.size 131 vs.toArray:=by rw [hw1]; exact Blk.new _ _ _
   have hC1:Blk w1 gc 180 #[.int .i64 mk]:=by rw [hw1]; exact HCK.out.alloc _
   have hO1:w1.ownsRow base 9 1 (.slice Ao k co) k (Qg (Qd k p)):=by rw [hw1]; exact hO.alloc _
   have hG1:Grw gc w0 w1:=by rw [hw1]; exact hG.ext ((Ext.rfl' wr).alloc nL _)
   have hs1:w1.heap.size=wr.heap.size + 1:=by rw [hw1]; simp only [World.size_alloc]
   obtain ⟨gv,hgv⟩:=V1 (wr.heap.size);rw [← hgv] at hV;have hgvb:base≤gv:=by rw [hgv]; exact hbs0
   have hgvc:gv≠gc:=by have:=HGC.out; rw [← HBASE.out] at this; omega
   have hgvO:∀ g,Value.ownBlock (.slice Ao k co)=some g→g < gv:=fun g e=>by rw [hgv]; exact (HO.out.lt g e).2
   have v0:=blk_at hV hv0;have v1:=blk_at hV hv1;obtain ⟨HNE,HHIT,HSTP,HNX,HSTK,HST2,HXS,HW1⟩:=Z8 hne hbad hstp hnx hstk hst hxs hw1;obtain ⟨HG1,HV1,HC1,HO1,HGR1,HGV,HGVC⟩:=Z7 hgv hV hC1 hO1 hG1 hgvO hgvc;have hbs1:base≤w1.heap.size:=by rw [hs1]; omega
   obtain ⟨HVL,HVO,HV0,HV1c,HR1⟩:=Z5 hvl hvo hv0 hv1 hr1;have i2:=nZ k;have i3:(k:Int) < (n:Int):=by omega
   clear hw1 hV hC1 hO1 hG1 hs1 hgv hgvO hgvc hne hbad hstp hnx hstk hst hxs hx hy hev hgd hkn hcell hO hG hgo hCk HO HG HCK HGO HZ hvl hvo hv0 hv1 hr0 hr1 hpa hs hcells htk;go_upto_region 8 with fail
   refine wp_region_lit ?_;refine wpList_plain rfl fun K1 hK1=>?_
   go_simp;refine hK1 _ _ ?_;refine wpList_load_mid rfl 131 _ rfl b (o + k * 18) rfl vs _ HR1.out Tryz.underlying131 rfl (infoPart' HVL.out) ?_;refine wpList_plain rfl fun K2 hK2=>?_
   go_simp;refine hK2 _ _ ?_;refine Qc rfl 131 _ _ rfl _ vs.toArray rfl rfl (Qan HVL.out) (by show _=vs.length; rw [HVL.out]; rfl) HVO.out ?_
   go_upto_region 9 with fail
   rw [← HW1.out,← HG1.out];go_wp2_with (at_builtin; refine Qa0 _ rfl _ _ rfl base _ k (Qd k p) rfl w1.heap.size x _ rfl (HO1.out.alloc _) (reads_at _ _ _ _ rfl) (by omega) (by simp; omega) ?_)
   intro A3 c3 w3 hown3 hgrow3 _;have hG3:Grw gc w0 w3:=(HGR1.out.ext ((Ext.rfl' w1).alloc nL _)).append hgrow3 HO1.out (by rw [HBASE.out]; exact Nat.le_refl _)
   have hC3:=Qej (HC1.out.alloc (.cells #[.string x] 9)) hgrow3 HO1.out (.inl (by rw [HBASE.out]; exact HGC.out))
   have hV3:Blk w3 gv 131 vs.toArray:=by
    refine (hgrow3.block gv (HV1.out.alloc _).lt ?_).trans (HV1.out.alloc _);intro e;exact absurd (HGV.out gv e.symm) (Nat.lt_irrefl _)
   have v0:=blk_at hV3 HV0.out;have v1:=blk_at hV3 HV1c.out;rw [← HST2.out] at hown3;have hlen:k + 1=(Qd (k + 1) p).length:=by rw [Qaz]
   have hsa:StrAt w3 w3.heap.size A3 (Qd (k + 1) p):=by
    unfold StrAt;rw [← hlen];exact Reads.of_own hown3
   have hli:=Qfe A3 c3 (k + 1) k y _ w3 hsa hlen rfl (by have:=H64.out; omega) HXS.out
   rw [HNE.out] at hli;obtain ⟨HLI,HC3,HG3,HO3,HV3⟩:=Z5 hli hC3 hG3 hown3 hV3;clear hgrow3 hown3 hC3 hV3 hG3 hli hsa hlen HNE HV1;by_cases he:ev=0
   ·have hli:=HLI.out;rw [if_pos he] at hli;obtain ⟨HLJ,HA2,HPR⟩:=Z3 hli (HST.out he) (HSTP.out he);clear hli HLI HST HHIT HA he HSTP;go_upto_region 10 with fail
    go_wp2_with fail
    refine HLJ.out.mono ?_;rintro e w5 ⟨rfl,hE5⟩;obtain ⟨w6,hw6⟩:=V1 (w5.alloc (.cells #[.int .i64 0,.int .i64 0] 34));have hE6:Ext w3 w6:=by rw [hw6]; exact hE5.alloc hE5.size _
    obtain ⟨HC6,HG6,HV6,HO6⟩:=Z4 (HC3.out.ext hE6) (HG3.out.ext hE6) (HV3.out.ext hE6) (own_ext HO3.out hE6);have hf6:=bN hw6;obtain ⟨g5,hg5⟩:=V1 (w5.heap.size);rw [← hg5] at hf6;have u0:=hf6.cell 0;have u1:=hf6.cell 1;have t0:=(HG6.out.blk HT.out HN2.out).cell 0;simp only [gA,gH,gS] at u0 u1 t0;obtain ⟨HW6,HG5⟩:=Z2 hw6 hg5;clear hw6 hg5 hf6 hE6 hE5 v0 v1;unfold fltV;go_upto_region 11 with fail
    rw [← HW6.out,← HG5.out];go_upto_region 13 with fail
    refine wp_region_lit ?_;refine wpList_plain rfl fun K3 hK3=>?_
    go_simp;refine hK3 _ _ ?_;refine wpList_load_mid rfl 131 _ rfl gv 0 rfl vs _ (Qv HV6.out) Tryz.underlying131 rfl (infoPart' HVL.out) ?_;go_wp2_with fail
    refine (HPA.out _ HG6.out HC6.out).mono ?_;rintro e w8 ⟨rfl,hE8,hC8⟩;obtain ⟨⟨P1,P2⟩,P3⟩:=PR;obtain ⟨w9,hw9⟩:=V1 (w8.alloc (.cells #[.int .i64 P1,.int .i64 P2] 34));have hE9:Ext w8 w9:=by rw [hw9]; exact (Ext.rfl' w8).alloc nL _
    have HC9:=hide (show Blk w9 gc 180 #[.int .i64 P3] from hC8.ext hE9)
    obtain ⟨HG9,HO9⟩:=Z2 ((HG6.out.trans hE8).ext hE9) (own_ext (Qn2 HO6.out hE8 (by rw [HBASE.out]; exact HGC.out)) hE9)
    have hf9:=bN hw9;obtain ⟨g8,hg8⟩:=V1 (w8.heap.size);rw [← hg8] at hf9;have u0:=hf9.cell 0;have u1:=hf9.cell 1;have HF9:=hide (HG9.out.blk HF.out HN.out);obtain ⟨b0,b1⟩:=X2 HF9.out;obtain ⟨f0,f1⟩:=Y2 HF9.out;simp only [gA,gH,gS] at u0 u1;obtain ⟨HW9,HG8⟩:=Z2 hw9 hg8;clear hw9 hg8 hf9 hE9 hE8 hC8 t0;unfold fltV;go_upto_region 14 with fail
    rw [← HW9.out,← HG8.out];by_cases c4:P1=0
    ·have HNX2:=hide (show NX.1.1=0 by rw [HNX.out,HPR.out]; exact c4)
     have HNX3:=hide (show NX.2=P3 by rw [HNX.out,HPR.out])
     subst c4;clear b0 b1 f0 f1 HNX HSTK HPR;go_wp2_with fail
     go_roundw
     case rel=>exact ⟨k + 1,A3,c3,by omega,by go_num,rfl,HG9.out,by rw [← HNXE.out]; exact HNX2.out,by rw [← HNXE.out,HNX3.out]; exact HC9.out,HO9.out,HA2.out⟩
     case measure=>simp [intOf]; omega
    ·have HR:=hide (show R=((P1,P2),P3) by rw [HSTK.out (by rw [HNX.out,HPR.out]; exact c4),HNX.out,HPR.out])
     have j0:(P1 == 0)=false:=by simpa using c4
     clear HNX HSTK HPR c4;go_wp2_with fail
     exact Qa (f:=(P1,P2)) (g:=gf) ((HF9.out.set_ 0 _).set_ 1 _) rfl rfl rfl ⟨by rw [← HRN.out,HR.out],(((Grw.of_ext HE.out).trans HG9.out).set (.inl HLO.out) _).set (.inl HLO.out) _,by rw [← HRN.out,HR.out]; exact (HC9.out.far HN.out.symm _).far HN.out.symm _⟩
   ·have hli:=HLI.out;rw [if_neg he] at hli;obtain ⟨HLJ,HGK⟩:=Z2 hli (HHIT.out he);have HR:=hide (show R=((ev,y),mk) by rw [HSTK.out (by rw [HNX.out,HGK.out]; exact he),HNX.out,HGK.out])
    have j0:(ev == 0)=false:=by simpa using he
    clear hli HLI HST HHIT HA he HSTP HGK HNX HSTK;go_upto_region 10 with fail
    go_wp2_with fail
    refine HLJ.out.mono ?_;rintro e w5 ⟨rfl,hE5⟩;obtain ⟨w6,hw6⟩:=V1 (w5.alloc (.cells #[.int .i64 ev,.int .i64 y] 34));have hE6:Ext w3 w6:=by rw [hw6]; exact hE5.alloc hE5.size _
    obtain ⟨HC6,HG6⟩:=Z2 (HC3.out.ext hE6) (HG3.out.ext hE6);have HF6:=hide (HG6.out.blk HF.out HN.out);have hf6:=bN hw6;obtain ⟨g5,hg5⟩:=V1 (w5.heap.size);rw [← hg5] at hf6;obtain ⟨b0,b1⟩:=X2 HF6.out;obtain ⟨f0,f1⟩:=Y2 HF6.out;have u0:=hf6.cell 0;have u1:=hf6.cell 1;simp only [gA,gH,gS] at u0 u1;obtain ⟨HW6,HG5⟩:=Z2 hw6 hg5;clear hw6 hg5 hf6 hE6 hE5 v0 v1;unfold fltV;go_upto_region 11 with fail
    rw [← HW6.out,← HG5.out];go_wp2_with fail
    exact Qa (f:=(ev,y)) (g:=gf) ((HF6.out.set_ 0 _).set_ 1 _) rfl rfl rfl ⟨by rw [← HRN.out,HR.out],(((Grw.of_ext HE.out).trans HG6.out).set (.inl HLO.out) _).set (.inl HLO.out) _,by rw [← HRN.out,HR.out]; exact (HC6.out.far HN.out.symm _).far HN.out.symm _⟩
  ·obtain rfl:k=n:=by omega
   obtain ⟨HX,HFr⟩:=Z2 (HZ.out hgo) (hG.blk HF.out HN.out);obtain ⟨b0,b1⟩:=X2 HFr.out;obtain ⟨f0,f1⟩:=Y2 HFr.out;clear hO hG hgo hCk HA;go_wp2_with fail
   exact Qa (f:=(0,0)) (g:=gf) ((HFr.out.set_ 0 _).set_ 1 _) rfl rfl rfl ⟨by rw [HX.out],(((Grw.of_ext HE.out).trans HG.out).set (.inl HLO.out) _).set (.inl HLO.out) _,(HCK.out.far HN.out.symm _).far HN.out.symm _⟩
def Qg0 (kd a lo hi mo s1 d m1:Int) (OB RB:Bool) (EN:Flt) (SUB:Wr):Wr :=
 if 24 < d then ((6,a),m1) else if 512 < m1 then ((8,a),m1) else if kd < 1∨9 < kd then ((14,a),m1) else if OB=false then ((19,a),m1) else
 if kd=2 then (if hi < lo then ((20,a),m1) else ((0,0),m1)) else if kd=3 then (if mo < 0∨4096 < mo then ((20,a),m1) else ((0,0),m1)) else
 if kd=4 then (EN,m1) else if kd=5∨kd=6∨kd=7∨kd=8 then SUB else if kd=9 then (if RB=true then ((0,0),m1) else ((9,s1),m1)) else ((0,0),m1)
set_option maxRecDepth 100000 in
theorem Qqw (kd a lo hi mo s1 d m m1:Int) (s0:ByteArray) (nn cn n cp:Nat) (An Ap:Option Addr) (gc:Nat) (w:World) (OB RB:Bool) (EN:Flt) (SUB:Wr) (hm1:m1=IntKind.i64.wrap (m + 1)) (hC:Blk w gc 180 #[.int .i64 m])
  (hown:∀ w1,Grw gc w w1→Calls Tryz.prog 128 #[.agg #[.int .i64 kd,.int .i64 a,.int .i64 lo,.int .i64 hi,.int .i64 mo,.slice An nn cn,.slice Ap n cp,.string s0,.int .i64 s1]] w1 (fun e w'=>e = .returned (.bool OB)∧Ext w1 w'))
  (henum:kd=4→∀ w1,Grw gc w w1→Calls Tryz.prog 129 #[.agg #[.int .i64 kd,.int .i64 a,.int .i64 lo,.int .i64 hi,.int .i64 mo,.slice An nn cn,.slice Ap n cp,.string s0,.int .i64 s1]] w1 (fun e w'=>e = .returned (fltV EN)∧Ext w1 w'))
  (hone:kd=5∨kd=6→∀ w1,Grw gc w w1→Blk w1 gc 180 #[.int .i64 m1]→Calls Tryz.prog 130 #[.pointer (some ⟨gc,0,none⟩),.agg #[.int .i64 kd,.int .i64 a,.int .i64 lo,.int .i64 hi,.int .i64 mo,.slice An nn cn,.slice Ap n cp,.string s0,.int .i64 s1],.int .i64 d] w1 (Qav SUB gc w1))
  (hparts:kd=7∨kd=8→∀ w1,Grw gc w w1→Blk w1 gc 180 #[.int .i64 m1]→Calls Tryz.prog 131 #[.pointer (some ⟨gc,0,none⟩),.agg #[.int .i64 kd,.int .i64 a,.int .i64 lo,.int .i64 hi,.int .i64 mo,.slice An nn cn,.slice Ap n cp,.string s0,.int .i64 s1],.int .i64 d] w1 (Qav SUB gc w1))
  (hright:∀ w1:World,Calls Tryz.prog 68 #[.string s0] w1 (fun e w'=>e = .returned (.bool RB)∧w1=w')) :
  Calls Tryz.prog 107 #[.pointer (some ⟨gc,0,none⟩),.agg #[.int .i64 kd,.int .i64 a,.int .i64 lo,.int .i64 hi,.int .i64 mo,.slice An nn cn,.slice Ap n cp,.string s0,.int .i64 s1],.int .i64 d] w (Qav (Qg0 kd a lo hi mo s1 d m1 OB RB EN SUB) gc w):=by
 have hx:Qg0 kd a lo hi mo s1 d m1 OB RB EN SUB=if 24 < d then ((6,a),m1) else if 512 < m1 then ((8,a),m1) else if kd < 1∨9 < kd then ((14,a),m1) else if OB=false then ((19,a),m1) else
  if kd=2 then (if hi < lo then ((20,a),m1) else ((0,0),m1)) else if kd=3 then (if mo < 0∨4096 < mo then ((20,a),m1) else ((0,0),m1)) else
  if kd=4 then (EN,m1) else if kd=5∨kd=6∨kd=7∨kd=8 then SUB else if kd=9 then (if RB=true then ((0,0),m1) else ((9,s1),m1)) else ((0,0),m1):=rfl
 generalize Qg0 kd a lo hi mo s1 d m1 OB RB EN SUB=R at hx ⊢
 obtain ⟨w0,hw0⟩:=V1 ((w.alloc (.cells #[.int .i64 kd,.int .i64 a,.int .i64 lo,.int .i64 hi,.int .i64 mo,.slice An nn cn,.slice Ap n cp,.string s0,.int .i64 s1] 29)).alloc (.cells #[.int .i64 0,.int .i64 0] 34));have hT:Blk w0 w.heap.size 29 #[.int .i64 kd,.int .i64 a,.int .i64 lo,.int .i64 hi,.int .i64 mo,.slice An nn cn,.slice Ap n cp,.string s0,.int .i64 s1]:=by rw [hw0]; exact (Blk.new _ _ _).alloc _
 have hF:Blk w0 (w.heap.size + 1) 34 #[.int .i64 0,.int .i64 0]:=by
  rw [hw0]; have:=Blk.new (w.alloc (.cells #[.int .i64 kd,.int .i64 a,.int .i64 lo,.int .i64 hi,.int .i64 mo,.slice An nn cn,.slice Ap n cp,.string s0,.int .i64 s1] 29)) 34 #[.int .i64 0,.int .i64 0]; simpa only [World.size_alloc] using this
 have hE:Ext w w0:=by rw [hw0]; exact ((Ext.rfl' w).alloc nL _).alloc (by simp only [World.size_alloc]; omega) _
 have hC0:Blk w0 gc 180 #[.int .i64 m]:=hC.ext hE;have hgl:=hC.lt;have n1:w.heap.size + 1≠gc:=by omega
 have n2:w.heap.size≠gc:=by omega
 have hlo:w.heap.size≤w.heap.size + 1:=Nat.le_succ _;obtain ⟨w1,hw1⟩:=V1 (w0.setCell ⟨gc,0,none⟩ (.int .i64 m1));have hT1:Blk w1 w.heap.size 29 #[.int .i64 kd,.int .i64 a,.int .i64 lo,.int .i64 hi,.int .i64 mo,.slice An nn cn,.slice Ap n cp,.string s0,.int .i64 s1]:=by rw [hw1]; exact hT.far n2 _
 have hF1:Blk w1 (w.heap.size + 1) 34 #[.int .i64 0,.int .i64 0]:=by rw [hw1]; exact hF.far n1 _
 have hC1:Blk w1 gc 180 #[.int .i64 m1]:=by rw [hw1]; exact hC0.set_ 0 _
 have hE1:Grw gc w w1:=by rw [hw1]; exact (Grw.of_ext hE).set (.inr rfl) _
 obtain ⟨gf,hgf,gt,hgt⟩:=V2 (w.heap.size + 1) (w.heap.size);rw [← hgf] at hF1 hlo n1;rw [← hgt] at hT1;obtain ⟨HX,HW,HW1,HGF,HGT,HF1,HE1,HC1⟩:=Z8 hx hw0 hw1 hgf hgt hF1 hE1 hC1;obtain ⟨HT1,HN,HLO⟩:=Z3 hT1 n1 hlo;have HM:=hide (show m1=wrap64 (m + 1) by rw [hm1]; exact IntWalk.i64_left _)
 obtain ⟨HOWN,HENUM,HONE,HPARTS,HRIGHT⟩:=Z5 hown henum hone hparts hright;have c0:=X1 hC0;have cf:=hC0.free 0;clear hx hw0 hw1 hF hF1 hE hE1 hC0 hC1 hT hT1 n1 n2 hlo hgf hgt hgl hC hown henum hone hparts hright hm1;go_enter Tryz.func107,Tryz.ntmps107
 go_upto_region 1 with fail
 rw [← HW.out,← HGF.out,← HGT.out];go_upto_region 2 with fail
 rw [← HM.out,← HW1.out];clear c0 cf;obtain ⟨t0,t1,t2,t3,t4,t5,t6,t7,t8⟩:=X9 HT1.out;obtain ⟨b0,b1⟩:=X2 HF1.out;obtain ⟨f0,f1⟩:=Y2 HF1.out;have c0:=X1 HC1.out;by_cases c1:24 < d
 ·have HR:=hide (show R=((6,a),m1) by rw [HX.out,if_pos c1])
  go_wp2_with fail
  refine (Qn 6 a _).mono ?_;rintro e w5 ⟨rfl,hE5⟩;obtain ⟨HF5,HE5,HC5⟩:=Z3 (HF1.out.ext hE5) (HE1.out.ext hE5) (HC1.out.ext hE5);obtain ⟨b0,b1⟩:=X2 HF5.out;obtain ⟨f0,f1⟩:=Y2 HF5.out;unfold fltV;clear hE5;go_wp2_with fail
  exact Qa (f:=(6,a)) (g:=gf) ((HF5.out.set_ 0 _).set_ 1 _) rfl rfl rfl ⟨by rw [HR.out],(HE5.out.set (.inl HLO.out) _).set (.inl HLO.out) _,by rw [HR.out]; exact (HC5.out.far HN.out.symm _).far HN.out.symm _⟩
 have HX2:=hide (HX.out.trans (if_neg c1));by_cases c2:512 < m1
 ·have HR:=hide (show R=((8,a),m1) by rw [HX2.out,if_pos c2])
  go_wp2_with fail
  refine (Qn 8 a _).mono ?_;rintro e w5 ⟨rfl,hE5⟩;obtain ⟨HF5,HE5,HC5⟩:=Z3 (HF1.out.ext hE5) (HE1.out.ext hE5) (HC1.out.ext hE5);obtain ⟨b0,b1⟩:=X2 HF5.out;obtain ⟨f0,f1⟩:=Y2 HF5.out;unfold fltV;clear hE5;go_wp2_with fail
  exact Qa (f:=(8,a)) (g:=gf) ((HF5.out.set_ 0 _).set_ 1 _) rfl rfl rfl ⟨by rw [HR.out],(HE5.out.set (.inl HLO.out) _).set (.inl HLO.out) _,by rw [HR.out]; exact (HC5.out.far HN.out.symm _).far HN.out.symm _⟩
 have HX3:=hide (HX2.out.trans (if_neg c2));by_cases c3:kd < 1
 ·have HR:=hide (show R=((14,a),m1) by rw [HX3.out,if_pos (.inl c3)])
  go_wp2_with fail
  refine (Qn 14 a _).mono ?_;rintro e w5 ⟨rfl,hE5⟩;obtain ⟨HF5,HE5,HC5⟩:=Z3 (HF1.out.ext hE5) (HE1.out.ext hE5) (HC1.out.ext hE5);obtain ⟨b0,b1⟩:=X2 HF5.out;obtain ⟨f0,f1⟩:=Y2 HF5.out;unfold fltV;clear hE5;go_wp2_with fail
  exact Qa (f:=(14,a)) (g:=gf) ((HF5.out.set_ 0 _).set_ 1 _) rfl rfl rfl ⟨by rw [HR.out],(HE5.out.set (.inl HLO.out) _).set (.inl HLO.out) _,by rw [HR.out]; exact (HC5.out.far HN.out.symm _).far HN.out.symm _⟩
 by_cases c4:9 < kd
 ·have HR:=hide (show R=((14,a),m1) by rw [HX3.out,if_pos (.inr c4)])
  go_wp2_with fail
  refine (Qn 14 a _).mono ?_;rintro e w5 ⟨rfl,hE5⟩;obtain ⟨HF5,HE5,HC5⟩:=Z3 (HF1.out.ext hE5) (HE1.out.ext hE5) (HC1.out.ext hE5);obtain ⟨b0,b1⟩:=X2 HF5.out;obtain ⟨f0,f1⟩:=Y2 HF5.out;unfold fltV;clear hE5;go_wp2_with fail
  exact Qa (f:=(14,a)) (g:=gf) ((HF5.out.set_ 0 _).set_ 1 _) rfl rfl rfl ⟨by rw [HR.out],(HE5.out.set (.inl HLO.out) _).set (.inl HLO.out) _,by rw [HR.out]; exact (HC5.out.far HN.out.symm _).far HN.out.symm _⟩
 have HX4:=hide (HX3.out.trans (if_neg (fun hh=>hh.elim c3 c4)))
 clear HX HX2 HX3;go_upto_region 8 with fail
 clear c0;go_wp2_with fail
 refine (HOWN.out _ HE1.out).mono ?_;rintro e w3 ⟨rfl,hE3⟩;obtain ⟨HF3,HE3,HC3,HT3⟩:=Z4 (HF1.out.ext hE3) (HE1.out.ext hE3) (HC1.out.ext hE3) (HT1.out.ext hE3);obtain ⟨t0,t1,t2,t3,t4,t5,t6,t7,t8⟩:=X9 HT3.out;obtain ⟨b0,b1⟩:=X2 HF3.out;obtain ⟨f0,f1⟩:=Y2 HF3.out;clear hE3;cases OB with
 | false =>
  have HR:=hide (show R=((19,a),m1) by rw [HX4.out,if_pos rfl])
  go_wp2_with fail
  refine (Qn 19 a _).mono ?_;rintro e w5 ⟨rfl,hE5⟩;obtain ⟨HF5,HE5,HC5⟩:=Z3 (HF3.out.ext hE5) (HE3.out.ext hE5) (HC3.out.ext hE5);obtain ⟨b0,b1⟩:=X2 HF5.out;obtain ⟨f0,f1⟩:=Y2 HF5.out;unfold fltV;clear hE5;go_wp2_with fail
  exact Qa (f:=(19,a)) (g:=gf) ((HF5.out.set_ 0 _).set_ 1 _) rfl rfl rfl ⟨by rw [HR.out],(HE5.out.set (.inl HLO.out) _).set (.inl HLO.out) _,by rw [HR.out]; exact (HC5.out.far HN.out.symm _).far HN.out.symm _⟩
 | true =>
 have HX5:=hide (HX4.out.trans (if_neg (by decide)))
 clear HX4;go_upto_region 10 with fail
 by_cases k2:kd=2
 ·subst k2;by_cases e1:hi < lo
  ·have HR:=hide (show R=((20,a),m1) by rw [HX5.out,if_pos rfl,if_pos e1])
   go_wp2_with fail
   refine (Qn 20 a _).mono ?_;rintro e w5 ⟨rfl,hE5⟩;obtain ⟨HF5,HE5,HC5⟩:=Z3 (HF3.out.ext hE5) (HE3.out.ext hE5) (HC3.out.ext hE5);obtain ⟨b0,b1⟩:=X2 HF5.out;obtain ⟨f0,f1⟩:=Y2 HF5.out;unfold fltV;clear hE5;go_wp2_with fail
   exact Qa (f:=(20,a)) (g:=gf) ((HF5.out.set_ 0 _).set_ 1 _) rfl rfl rfl ⟨by rw [HR.out],(HE5.out.set (.inl HLO.out) _).set (.inl HLO.out) _,by rw [HR.out]; exact (HC5.out.far HN.out.symm _).far HN.out.symm _⟩
  ·have HR:=hide (show R=((0,0),m1) by rw [HX5.out,if_pos rfl,if_neg e1])
   go_wp2_with fail
   exact Qa (f:=(0,0)) (g:=gf) ((HF3.out.set_ 0 _).set_ 1 _) rfl rfl rfl ⟨by rw [HR.out],(HE3.out.set (.inl HLO.out) _).set (.inl HLO.out) _,by rw [HR.out]; exact (HC3.out.far HN.out.symm _).far HN.out.symm _⟩
 by_cases k3:kd=3
 ·subst k3;by_cases e1:mo < 0
  ·have HR:=hide (show R=((20,a),m1) by rw [HX5.out,if_neg (by decide),if_pos rfl,if_pos (.inl e1)])
   go_wp2_with fail
   refine (Qn 20 a _).mono ?_;rintro e w5 ⟨rfl,hE5⟩;obtain ⟨HF5,HE5,HC5⟩:=Z3 (HF3.out.ext hE5) (HE3.out.ext hE5) (HC3.out.ext hE5);obtain ⟨b0,b1⟩:=X2 HF5.out;obtain ⟨f0,f1⟩:=Y2 HF5.out;unfold fltV;clear hE5;go_wp2_with fail
   exact Qa (f:=(20,a)) (g:=gf) ((HF5.out.set_ 0 _).set_ 1 _) rfl rfl rfl ⟨by rw [HR.out],(HE5.out.set (.inl HLO.out) _).set (.inl HLO.out) _,by rw [HR.out]; exact (HC5.out.far HN.out.symm _).far HN.out.symm _⟩
  by_cases e2:4096 < mo
  ·have HR:=hide (show R=((20,a),m1) by rw [HX5.out,if_neg (by decide),if_pos rfl,if_pos (.inr e2)])
   go_wp2_with fail
   refine (Qn 20 a _).mono ?_;rintro e w5 ⟨rfl,hE5⟩;obtain ⟨HF5,HE5,HC5⟩:=Z3 (HF3.out.ext hE5) (HE3.out.ext hE5) (HC3.out.ext hE5);obtain ⟨b0,b1⟩:=X2 HF5.out;obtain ⟨f0,f1⟩:=Y2 HF5.out;unfold fltV;clear hE5;go_wp2_with fail
   exact Qa (f:=(20,a)) (g:=gf) ((HF5.out.set_ 0 _).set_ 1 _) rfl rfl rfl ⟨by rw [HR.out],(HE5.out.set (.inl HLO.out) _).set (.inl HLO.out) _,by rw [HR.out]; exact (HC5.out.far HN.out.symm _).far HN.out.symm _⟩
  ·have HR:=hide (show R=((0,0),m1) by rw [HX5.out,if_neg (by decide),if_pos rfl,if_neg (fun hh=>hh.elim e1 e2)])
   go_wp2_with fail
   exact Qa (f:=(0,0)) (g:=gf) ((HF3.out.set_ 0 _).set_ 1 _) rfl rfl rfl ⟨by rw [HR.out],(HE3.out.set (.inl HLO.out) _).set (.inl HLO.out) _,by rw [HR.out]; exact (HC3.out.far HN.out.symm _).far HN.out.symm _⟩
 by_cases k4:kd=4
 ·subst k4;have HR:=hide (show R=(EN,m1) by rw [HX5.out,if_neg (by decide),if_neg (by decide),if_pos rfl])
  obtain ⟨D1,D2⟩:=EN;go_upto_region 18 with fail
  go_wp2_with fail
  refine (HENUM.out (by trivial) _ HE3.out).mono ?_
  rintro e w8 ⟨rfl,hE8⟩;obtain ⟨HF8,HE8,HC8⟩:=Z3 (HF3.out.ext hE8) (HE3.out.ext hE8) (HC3.out.ext hE8);obtain ⟨b0,b1⟩:=X2 HF8.out;obtain ⟨f0,f1⟩:=Y2 HF8.out;unfold fltV;clear hE8;go_wp2_with fail
  exact Qa (f:=(D1,D2)) (g:=gf) ((HF8.out.set_ 0 _).set_ 1 _) rfl rfl rfl ⟨by rw [HR.out],(HE8.out.set (.inl HLO.out) _).set (.inl HLO.out) _,by rw [HR.out]; exact (HC8.out.far HN.out.symm _).far HN.out.symm _⟩
 by_cases k5:kd=5
 ·subst k5;have HR:=hide (show R=SUB by rw [HX5.out,if_neg (by decide),if_neg (by decide),if_neg (by decide),if_pos (by decide)])
  go_wp2_with fail
  refine (HONE.out (by decide) _ HE3.out HC3.out).mono ?_
  rintro e w8 ⟨rfl,hE8,hC8⟩;obtain ⟨⟨D1,D2⟩,D3⟩:=SUB;obtain ⟨HF8,HE8,HC8⟩:=Z3 (hE8.blk HF3.out HN.out) (HE3.out.trans hE8) hC8;obtain ⟨b0,b1⟩:=X2 HF8.out;obtain ⟨f0,f1⟩:=Y2 HF8.out;unfold fltV;clear hE8 hC8;go_wp2_with fail
  exact Qa (f:=(D1,D2)) (g:=gf) ((HF8.out.set_ 0 _).set_ 1 _) rfl rfl rfl ⟨by rw [HR.out],(HE8.out.set (.inl HLO.out) _).set (.inl HLO.out) _,by rw [HR.out]; exact (HC8.out.far HN.out.symm _).far HN.out.symm _⟩
 by_cases k6:kd=6
 ·subst k6;have HR:=hide (show R=SUB by rw [HX5.out,if_neg (by decide),if_neg (by decide),if_neg (by decide),if_pos (by decide)])
  go_wp2_with fail
  refine (HONE.out (by decide) _ HE3.out HC3.out).mono ?_
  rintro e w8 ⟨rfl,hE8,hC8⟩;obtain ⟨⟨D1,D2⟩,D3⟩:=SUB;obtain ⟨HF8,HE8,HC8⟩:=Z3 (hE8.blk HF3.out HN.out) (HE3.out.trans hE8) hC8;obtain ⟨b0,b1⟩:=X2 HF8.out;obtain ⟨f0,f1⟩:=Y2 HF8.out;unfold fltV;clear hE8 hC8;go_wp2_with fail
  exact Qa (f:=(D1,D2)) (g:=gf) ((HF8.out.set_ 0 _).set_ 1 _) rfl rfl rfl ⟨by rw [HR.out],(HE8.out.set (.inl HLO.out) _).set (.inl HLO.out) _,by rw [HR.out]; exact (HC8.out.far HN.out.symm _).far HN.out.symm _⟩
 by_cases k7:kd=7
 ·subst k7;have HR:=hide (show R=SUB by rw [HX5.out,if_neg (by decide),if_neg (by decide),if_neg (by decide),if_pos (by decide)])
  go_wp2_with fail
  refine (HPARTS.out (by decide) _ HE3.out HC3.out).mono ?_
  rintro e w8 ⟨rfl,hE8,hC8⟩;obtain ⟨⟨D1,D2⟩,D3⟩:=SUB;obtain ⟨HF8,HE8,HC8⟩:=Z3 (hE8.blk HF3.out HN.out) (HE3.out.trans hE8) hC8;obtain ⟨b0,b1⟩:=X2 HF8.out;obtain ⟨f0,f1⟩:=Y2 HF8.out;unfold fltV;clear hE8 hC8;go_wp2_with fail
  exact Qa (f:=(D1,D2)) (g:=gf) ((HF8.out.set_ 0 _).set_ 1 _) rfl rfl rfl ⟨by rw [HR.out],(HE8.out.set (.inl HLO.out) _).set (.inl HLO.out) _,by rw [HR.out]; exact (HC8.out.far HN.out.symm _).far HN.out.symm _⟩
 by_cases k8:kd=8
 ·subst k8;have HR:=hide (show R=SUB by rw [HX5.out,if_neg (by decide),if_neg (by decide),if_neg (by decide),if_pos (by decide)])
  go_wp2_with fail
  refine (HPARTS.out (by decide) _ HE3.out HC3.out).mono ?_
  rintro e w8 ⟨rfl,hE8,hC8⟩;obtain ⟨⟨D1,D2⟩,D3⟩:=SUB;obtain ⟨HF8,HE8,HC8⟩:=Z3 (hE8.blk HF3.out HN.out) (HE3.out.trans hE8) hC8;obtain ⟨b0,b1⟩:=X2 HF8.out;obtain ⟨f0,f1⟩:=Y2 HF8.out;unfold fltV;clear hE8 hC8;go_wp2_with fail
  exact Qa (f:=(D1,D2)) (g:=gf) ((HF8.out.set_ 0 _).set_ 1 _) rfl rfl rfl ⟨by rw [HR.out],(HE8.out.set (.inl HLO.out) _).set (.inl HLO.out) _,by rw [HR.out]; exact (HC8.out.far HN.out.symm _).far HN.out.symm _⟩
 by_cases k9:kd=9
 ·subst k9;cases RB with
  | true =>
   have HR:=hide (show R=((0,0),m1) by rw [HX5.out,if_neg (by decide),if_neg (by decide),if_neg (by decide),if_neg (by decide),if_pos rfl,if_pos rfl])
   go_wp2_with fail
   refine (HRIGHT.out _).mono ?_;rintro e w8 ⟨rfl,rfl⟩;go_wp2_with fail
   exact Qa (f:=(0,0)) (g:=gf) ((HF3.out.set_ 0 _).set_ 1 _) rfl rfl rfl ⟨by rw [HR.out],(HE3.out.set (.inl HLO.out) _).set (.inl HLO.out) _,by rw [HR.out]; exact (HC3.out.far HN.out.symm _).far HN.out.symm _⟩
  | false =>
   have HR:=hide (show R=((9,s1),m1) by rw [HX5.out,if_neg (by decide),if_neg (by decide),if_neg (by decide),if_neg (by decide),if_pos rfl,if_neg (by decide)])
   go_wp2_with fail
   refine (HRIGHT.out _).mono ?_;rintro e w8 ⟨rfl,rfl⟩;go_wp2_with fail
   refine (Qn 9 s1 _).mono ?_;rintro e w5 ⟨rfl,hE5⟩;obtain ⟨HF5,HE5,HC5⟩:=Z3 (HF3.out.ext hE5) (HE3.out.ext hE5) (HC3.out.ext hE5);obtain ⟨b0,b1⟩:=X2 HF5.out;obtain ⟨f0,f1⟩:=Y2 HF5.out;unfold fltV;clear hE5;go_wp2_with fail
   exact Qa (f:=(9,s1)) (g:=gf) ((HF5.out.set_ 0 _).set_ 1 _) rfl rfl rfl ⟨by rw [HR.out],(HE5.out.set (.inl HLO.out) _).set (.inl HLO.out) _,by rw [HR.out]; exact (HC5.out.far HN.out.symm _).far HN.out.symm _⟩
 obtain rfl:kd=1:=by omega
 have HR:=hide (show R=((0,0),m1) by rw [HX5.out,if_neg (by decide),if_neg (by decide),if_neg (by decide),if_neg (by decide),if_neg (by decide)])
 go_wp2_with fail
 exact Qa (f:=(0,0)) (g:=gf) ((HF3.out.set_ 0 _).set_ 1 _) rfl rfl rfl ⟨by rw [HR.out],(HE3.out.set (.inl HLO.out) _).set (.inl HLO.out) _,by rw [HR.out]; exact (HC3.out.far HN.out.symm _).far HN.out.symm _⟩
theorem headF_R (h:TyH) (n:Nat) (p:Nat→PtH) (t:Nat→Ty) (sub:Nat→Int→Wr) (d m:Int):Qe7 h n p t sub d m=Qg0 h.kind h.at_ h.lo h.hi h.most h.name.2 d m (Qcd h n) (Qj h.name.1) (Qao h.at_ h.names) (Qcz h n p t sub m):=by
 unfold Qe7 Qg0;split
 ·rfl
 split
 ·rfl
 split
 ·rfl
 cases Qcd h n with
 | false=>rfl
 | true =>
  rw [if_pos rfl,if_neg (show ¬ (true=false) by decide)]
  unfold Qcz;split
  ·rfl
  split
  ·rfl
  split
  ·rfl
  by_cases c5:h.kind=5∨h.kind=6
  ·rw [if_pos c5,if_pos (show h.kind=5∨h.kind=6∨h.kind=7∨h.kind=8 by omega)]
  by_cases c7:h.kind=7∨h.kind=8
  ·rw [if_neg c5,if_pos c7,if_pos (show h.kind=5∨h.kind=6∨h.kind=7∨h.kind=8 by omega)]
  rw [if_neg c5,if_neg c7,if_neg (show ¬ (h.kind=5∨h.kind=6∨h.kind=7∨h.kind=8) by omega)]
theorem kindF_one {h:TyH} {n:Nat} {p:Nat→PtH} {t:Nat→Ty} {sub:Nat→Int→Wr} {m:Int} (k:h.kind=5∨h.kind=6):Qcz h n p t sub m=Qf1 h n p (sub 0) m:=by
 unfold Qcz;rw [if_neg (show ¬ h.kind=2 by omega),if_neg (show ¬ h.kind=3 by omega),if_neg (show ¬ h.kind=4 by omega),if_pos k]
theorem kindF_parts {h:TyH} {n:Nat} {p:Nat→PtH} {t:Nat→Ty} {sub:Nat→Int→Wr} {m:Int} (k:h.kind=7∨h.kind=8):Qcz h n p t sub m=Qcf h n p (stepF h.kind n p t sub) m:=by
 unfold Qcz;rw [if_neg (show ¬ h.kind=2 by omega),if_neg (show ¬ h.kind=3 by omega),if_neg (show ¬ h.kind=4 by omega),if_neg (show ¬ (h.kind=5∨h.kind=6) by omega),if_pos k]
theorem parts_any (h:TyH) (hk:h.kind=7∨h.kind=8) (n:Nat) (p:Nat→PtH) (t:Nat→Ty) (d m:Int) (gc B:Nat) (An Ap:Option Addr) (cn cp:Nat) (w:World) (hP:PartsAt w B Ap n p t) (hsz:∀ i,i < n→(p i).name.1.size≤maxLen∧Qi (p i).label∧Qi (p i).cl∧Qr (t i)) (hBg:B≤gc) (hC:Blk w gc 180 #[.int .i64 m]) (hsub:∀ i,i < n→ChkC (t i) (IntKind.i64.wrap (d + 1)) B) :
  Calls Tryz.prog 131 #[.pointer (some ⟨gc,0,none⟩),.agg (tyV h An cn Ap n cp).toArray,.int .i64 d] w (Qav (Qcf h n p (stepF h.kind n p t (fun i m'=>chk (t i) (IntKind.i64.wrap (d + 1)) m')) m) gc w):=by
 unfold Qcf tyV;rcases hk with k | k
 ·rw [k,if_neg (show ¬ ((7:Int)=8∧n=0) from fun hh=>by cases hh.1)]
  exact Qt0 h.at_ h.lo h.hi h.most h.name.2 h.name.1 h.names.length cn cp n An Ap p t d m gc B w hP hsz hBg hC hsub
 ·rw [k];simp only [true_and];exact Qt1 h.at_ h.lo h.hi h.most h.name.2 h.name.1 h.names.length cn cp n An Ap p t d m gc B w hP hsz hBg hC hsub
theorem Qqx (t:Ty):Qr t→∀ (d:Int) (B:Nat),ChkC t d B:=by
 induction t with
 | nil=>intro h; exact h.elim
 | mk h n p t ih =>
  intro hsz d B gc m w vs hT hBg hC;have hBw:B≤w.heap.size:=Nat.le_of_lt (Nat.lt_of_le_of_lt hBg hC.lt);have hTT:=id hT;obtain ⟨An,cn,Ap,cp,hvs,hwd,hpp⟩:=hT.open_;rw [chk_mk,headF_R];have hsub:∀ i,i < n→ChkC (t i) (IntKind.i64.wrap (d + 1)) B:=fun i hi=>ih i (hsz.2.2.2 i hi).2.2.2 _ _
  subst hvs;refine Qqw h.kind h.at_ h.lo h.hi h.most h.name.2 d m _ h.name.1 h.names.length cn n cp An Ap gc w _ _ _ _ rfl hC ?_ ?_ ?_ ?_ ?_
  ·intro w1 hG;exact kOwn_any h n p t w1 _ ((hTT.keep (hG.cells hBw hBg)).more (Nat.le_trans hBw hG.sz))
  ·intro _ w1 hG;exact enum_any _ _ _ _ _ _ _ _ An cn _ h.names w1 (Reads.more (Reads.keep hwd (hG.cells hBw hBg)) (Nat.le_trans hBw hG.sz)) rfl hsz.1
  ·intro k w1 hG hC1;rw [kindF_one k];exact one_any h n p t d _ gc B An Ap cn cp w1 (hpp.keep (hG.cells hBw hBg)) (fun i hi=>⟨(hsz.2.2.2 i hi).2.1,(hsz.2.2.2 i hi).2.2.1⟩) hBg hC1 (fun h0=>hsub 0 h0)
  ·intro k w1 hG hC1;rw [kindF_parts k];exact parts_any h k n p t d _ gc B An Ap cn cp w1 (hpp.keep (hG.cells hBw hBg)) (fun i hi=>hsz.2.2.2 i hi) hBg hC1 hsub
  ·intro w1;exact right_any h.name.1 w1 hsz.2.1
theorem ext_of_grwD {gc:Nat} {w w':World} (h:Grw gc w w') (hg:w.heap.size≤gc):Ext w w' :=
 ext_of_grown ⟨h.os,h.tape,h.output,h.size,fun i hi _=>h.block i hi (fun e=>by cases e; exact absurd hi (Nat.not_lt.2 hg))⟩
set_option maxRecDepth 100000 in
theorem Qo2 (t:Ty) (w:World) (vs:List Value) (hT:TyAt w w.heap.size t vs) (hsz:Qr t) :
  Calls Tryz.prog 70 #[.agg vs.toArray] w (fun e w'=>e = .returned (fltV (chk t 1 0).1)∧Ext w w'):=by
 have hchk:=Qqx t hsz 1 w.heap.size;obtain ⟨R,hR⟩:=V1 (chk t 1 0);have hcall:=fun gc w1 (hE:Ext w w1) (hg:w.heap.size≤gc) (hC:Blk w1 gc 180 #[.int .i64 0])=>hchk gc 0 w1 vs (hT.keep fun q hq=>hE.cell hq) hg hC
 rw [← hR] at hcall ⊢;obtain ⟨x0,x1,x2,x3,x4,x5,x6,x7,x8,rfl⟩:=hT.nine;obtain ⟨w0,hw0⟩:=V1 ((w.alloc (.cells #[x0,x1,x2,x3,x4,x5,x6,x7,x8] 29)).alloc (.cells #[.int .i64 0,.int .i64 0] 34));have hT0:Blk w0 w.heap.size 29 #[x0,x1,x2,x3,x4,x5,x6,x7,x8]:=by rw [hw0]; exact (Blk.new _ _ _).alloc _
 have hF0:Blk w0 (w.heap.size + 1) 34 #[.int .i64 0,.int .i64 0]:=by
  rw [hw0]; have:=Blk.new (w.alloc (.cells #[x0,x1,x2,x3,x4,x5,x6,x7,x8] 29)) 34 #[.int .i64 0,.int .i64 0]; simpa only [World.size_alloc] using this
 have hE0:Ext w w0:=by rw [hw0]; exact ((Ext.rfl' w).alloc nL _).alloc (by simp only [World.size_alloc]; omega) _
 have hs0:w0.heap.size=w.heap.size + 2:=by rw [hw0]; simp only [World.size_alloc]
 obtain ⟨w1,hw1⟩:=V1 (w0.alloc (.cells #[.int .i64 0] 180));have hT1:Blk w1 w.heap.size 29 #[x0,x1,x2,x3,x4,x5,x6,x7,x8]:=by rw [hw1]; exact hT0.alloc _
 have hF1:Blk w1 (w.heap.size + 1) 34 #[.int .i64 0,.int .i64 0]:=by rw [hw1]; exact hF0.alloc _
 have hC1:=bN hw1;have hE1:Ext w w1:=by rw [hw1]; exact hE0.alloc hE0.size _
 have n1:w.heap.size + 1≠w0.heap.size:=by omega
 have hlo:w.heap.size≤w.heap.size + 1:=Nat.le_succ _;have hgl:w.heap.size≤w0.heap.size:=hE0.size;obtain ⟨gc,hgc,gf,hgf,gt,hgt⟩:=V3 (w0.heap.size) (w.heap.size + 1) (w.heap.size);rw [← hgc] at n1 hgl hC1;rw [← hgf] at hF1 hlo n1;have hcl:=hcall gc w1 hE1 hgl hC1;rw [← hgt] at hT1;obtain ⟨t0,t1,t2,t3,t4,t5,t6,t7,t8⟩:=X9 hT1;obtain ⟨HCL,HF,HE,HN,HLO,HGL,HW0,HW1⟩:=Z8 hcl hF1 hE1 n1 hlo hgl hw0 hw1;obtain ⟨HGC,HGF,HGT⟩:=Z3 hgc hgf hgt;clear hcl hF1 hE1 n1 hlo hw0 hw1 hgc hgf hgt hT1 hC1 hcall hgl hE0 hs0 hT0 hF0 hT hR hchk;show Calls Tryz.prog 70 #[.agg #[x0,x1,x2,x3,x4,x5,x6,x7,x8]] w _
 go_enter Tryz.func70,Tryz.ntmps70
 go_upto_region 1 with fail
 rw [← HW0.out,← HGF.out,← HGT.out];go_upto_region 2 with fail
 rw [← HW1.out,← HGC.out];go_wp2_with fail
 refine HCL.out.mono ?_;rintro e w8 ⟨rfl,hE8,hC8⟩;obtain ⟨⟨D1,D2⟩,D3⟩:=R;obtain ⟨HF8,HE8⟩:=Z2 (hE8.blk HF.out HN.out) (ext_of_grwD ((Grw.of_ext HE.out).trans hE8) HGL.out);obtain ⟨b0,b1⟩:=X2 HF8.out;obtain ⟨f0,f1⟩:=Y2 HF8.out;unfold fltV;clear hE8 hC8;go_wp2_with fail
 exact Qa (f:=(D1,D2)) (g:=gf) ((HF8.out.set_ 0 _).set_ 1 _) rfl rfl rfl ⟨rfl,ext_two' HE8.out HLO.out _ _⟩
end Go.Proofs.YtanpljalbijfkaaGreat
