/- . -/
import Derived.Test.YtanpljalbijfkaaGreatQ15
namespace Go.Proofs.YtanpljalbijfkaaGreat
open Go.RowKit
set_option maxHeartbeats 16000000
def PartAt (w:World) (B:Nat) (q:PtH) (t:Ty) (vs:List Value):Prop:=∃ Al cl Ac cc vt,vs=ptV q Al cl Ac cc ++ vt∧WdsAt w B Al q.label∧WdsAt w B Ac q.cl∧TyAt w B t vt
theorem PartAt.ext {w w':World} {q:PtH} {t:Ty} {vs:List Value} (h:PartAt w w.heap.size q t vs) (hE:Ext w w'):PartAt w' w'.heap.size q t vs:=by
 obtain ⟨Al,cl,Ac,cc,vt,e,h1,h2,h3⟩:=h;exact ⟨Al,cl,Ac,cc,vt,e,h1.ext hE,h2.ext hE,h3.ext hE⟩
theorem TyAt.nine {t:Ty} {w:World} {B:Nat} {vs:List Value} (h:TyAt w B t vs):∃ a0 a1 a2 a3 a4 a5 a6 a7 a8:Value,vs = [a0,a1,a2,a3,a4,a5,a6,a7,a8]:=by
 obtain ⟨h',n',An,cn,Ap,cp,rfl⟩:=h.form;exact ⟨_,_,_,_,_,_,_,_,_,rfl⟩
set_option maxRecDepth 100000 in
theorem Qc4 (p q:PtH) (t u:Ty) (w:World) (vs us:List Value) (h:PartAt w w.heap.size p t vs) (h':PartAt w w.heap.size q u us) (hs:Qi p.label) (hs2:Qi p.cl) :
  Calls Tryz.prog 94 #[.agg vs.toArray,.agg us.toArray] w (fun e w'=>e = .returned (.bool (Q5 p q))∧Ext w w'):=by
 obtain ⟨Al1,cl1,Ac1,cc1,vt,rfl,hl1,hc1,ht1⟩:=h;obtain ⟨Al2,cl2,Ac2,cc2,ut,rfl,hl2,hc2,ht2⟩:=h';obtain ⟨x01,x11,x21,x31,x41,x51,x61,x71,x81,rfl⟩:=ht1.nine;obtain ⟨x02,x12,x22,x32,x42,x52,x62,x72,x82,rfl⟩:=ht2.nine;have hw1:=fun w1 (hE:Ext w w1)=>Qd3 Al1 cl1 p.label.length p.label Al2 cl2 q.label.length q.label w1 (hl1.ext hE) rfl hs.1 (hl2.ext hE) rfl
 have hw2:=fun w1 (hE:Ext w w1)=>Qd3 Ac1 cc1 p.cl.length p.cl Ac2 cc2 q.cl.length q.cl w1 (hc1.ext hE) rfl hs2.1 (hc2.ext hE) rfl
 have hx:Q5 p q=((p.bare == q.bare) && (p.wide == q.wide) && Qx p.label q.label && (p.ck == q.ck) && (p.cn == q.cn) && Qx p.cl q.cl):=by
  unfold Q5;rfl
 clear ht1 ht2 hl1 hl2 hc1 hc2 hs hs2;unfold ptV;simp only [List.cons_append,List.nil_append];obtain ⟨n1,hn1⟩:=V1 (p.name.1);rw [← hn1] at ⊢;obtain ⟨a1,ha1⟩:=V1 (p.name.2);rw [← ha1] at ⊢;obtain ⟨b1,hb1⟩:=V1 (p.bare);rw [← hb1] at hx ⊢;obtain ⟨l1,hl1⟩:=V1 (p.label.length);rw [← hl1] at hw1 ⊢;obtain ⟨wi1,hwi1⟩:=V1 (p.wide);rw [← hwi1] at hx ⊢;obtain ⟨ck1,hck1⟩:=V1 (p.ck);rw [← hck1] at hx ⊢;obtain ⟨cn1,hcn1⟩:=V1 (p.cn);rw [← hcn1] at hx ⊢;obtain ⟨ca1,hca1⟩:=V1 (p.cat);rw [← hca1] at ⊢;obtain ⟨lc1,hlc1⟩:=V1 (p.cl.length);rw [← hlc1] at hw2 ⊢;obtain ⟨n2,hn2⟩:=V1 (q.name.1);rw [← hn2] at ⊢;obtain ⟨a2,ha2⟩:=V1 (q.name.2);rw [← ha2] at ⊢;obtain ⟨b2,hb2⟩:=V1 (q.bare);rw [← hb2] at hx ⊢;obtain ⟨l2,hl2⟩:=V1 (q.label.length);rw [← hl2] at hw1 ⊢;obtain ⟨wi2,hwi2⟩:=V1 (q.wide);rw [← hwi2] at hx ⊢;obtain ⟨ck2,hck2⟩:=V1 (q.ck);rw [← hck2] at hx ⊢;obtain ⟨cn2,hcn2⟩:=V1 (q.cn);rw [← hcn2] at hx ⊢;obtain ⟨ca2,hca2⟩:=V1 (q.cat);rw [← hca2] at ⊢;obtain ⟨lc2,hlc2⟩:=V1 (q.cl.length);rw [← hlc2] at hw2 ⊢;obtain ⟨W1,hW1,W2,hW2⟩:=V2 (Qx p.label q.label) (Qx p.cl q.cl);rw [← hW1] at hw1 hx;rw [← hW2] at hw2 hx;obtain ⟨B1,hB1,B2,hB2,B3,hB3,B4,hB4⟩:=V4 ((b1 == b2)) ((wi1 == wi2)) ((ck1 == ck2)) ((cn1 == cn2));rw [← hB1,← hB2,← hB3,← hB4] at hx;have e1:=hB1.symm;have e2:=hB2.symm;have e3:=hB3.symm;have e4:=hB4.symm;have HX:=hide hx;obtain ⟨R,hR⟩:=V1 (Q5 p q);rw [← hR] at HX ⊢;obtain ⟨HW1,HW2⟩:=Z2 hw1 hw2;obtain ⟨w0,hw0⟩:=V1 ((w.alloc (.cells #[.string n1,.int .i64 a1,.bool b1,.slice Al1 l1 cl1,.int .i64 wi1,.int .i64 ck1,.int .i64 cn1,.int .i64 ca1,.slice Ac1 lc1 cc1,x01,x11,x21,x31,x41,x51,x61,x71,x81] 131)).alloc (.cells #[.string n2,.int .i64 a2,.bool b2,.slice Al2 l2 cl2,.int .i64 wi2,.int .i64 ck2,.int .i64 cn2,.int .i64 ca2,.slice Ac2 lc2 cc2,x02,x12,x22,x32,x42,x52,x62,x72,x82] 131));have hBa:Blk w0 w.heap.size 131 #[.string n1,.int .i64 a1,.bool b1,.slice Al1 l1 cl1,.int .i64 wi1,.int .i64 ck1,.int .i64 cn1,.int .i64 ca1,.slice Ac1 lc1 cc1,x01,x11,x21,x31,x41,x51,x61,x71,x81]:=by rw [hw0]; exact (Blk.new _ _ _).alloc _
 have hBb:Blk w0 (w.heap.size + 1) 131 #[.string n2,.int .i64 a2,.bool b2,.slice Al2 l2 cl2,.int .i64 wi2,.int .i64 ck2,.int .i64 cn2,.int .i64 ca2,.slice Ac2 lc2 cc2,x02,x12,x22,x32,x42,x52,x62,x72,x82]:=by
  rw [hw0]; have:=Blk.new (w.alloc (.cells #[.string n1,.int .i64 a1,.bool b1,.slice Al1 l1 cl1,.int .i64 wi1,.int .i64 ck1,.int .i64 cn1,.int .i64 ca1,.slice Ac1 lc1 cc1,x01,x11,x21,x31,x41,x51,x61,x71,x81] 131)) 131 #[.string n2,.int .i64 a2,.bool b2,.slice Al2 l2 cl2,.int .i64 wi2,.int .i64 ck2,.int .i64 cn2,.int .i64 ca2,.slice Ac2 lc2 cc2,x02,x12,x22,x32,x42,x52,x62,x72,x82]; simpa only [World.size_alloc] using this
 have HE0:=hide (show Ext w w0 by rw [hw0]; exact ((Ext.rfl' w).alloc nL _).alloc (by simp only [World.size_alloc]; omega) _)
 obtain ⟨gb,hgb,ga,hga⟩:=V2 (w.heap.size + 1) (w.heap.size);rw [← hgb] at hBb;rw [← hga] at hBa;obtain ⟨HBa,HBb⟩:=Z2 hBa hBb;obtain ⟨-,-,v2a,v3a,v4a⟩:=X5 (HBa.out);obtain ⟨-,-,v2b,v3b,v4b⟩:=X5 (HBb.out);obtain ⟨HW0,HGa,HGb⟩:=Z3 hw0 hga hgb;clear hBa hBb hw0 hga hgb hw1 hw2 hx hB1 hB2 hB3 hB4 hW1 hW2 hR hn1 ha1 hb1 hl1 hwi1 hck1 hcn1 hca1 hlc1 hn2 ha2 hb2 hl2 hwi2 hck2 hcn2 hca2 hlc2;go_enter Tryz.func94,Tryz.ntmps94
 go_upto_region 1 with fail
 rw [← HW0.out,← HGb.out,← HGa.out];cases B1 with
 | false =>
  go_wp2_with fail
  go_ret
  exact ⟨Qb (by rw [HX.out]; rfl),HE0.out⟩
 | true =>
  cases B2 with
  | false =>
   go_wp2_with fail
   go_ret
   exact ⟨Qb (by rw [HX.out]; rfl),HE0.out⟩
  | true =>
   go_wp2_with fail
   refine (HW1.out w0 HE0.out).mono ?_;rintro e w3 ⟨rfl,hE3⟩;have HE3:=hide (HE0.out.trans' hE3);have u5a:=(HBa.out.ext hE3).cell 5;have u6a:=(HBa.out.ext hE3).cell 6;have u8a:=(HBa.out.ext hE3).cell 8;have u5b:=(HBb.out.ext hE3).cell 5;have u6b:=(HBb.out.ext hE3).cell 6;have u8b:=(HBb.out.ext hE3).cell 8;simp only [gA,gH,gS] at u5a u6a u8a u5b u6b u8b;clear hE3 v2a v2b v3a v3b v4a v4b;cases W1 with
   | false =>
    go_wp2_with fail
    go_ret
    exact ⟨Qb (by rw [HX.out]; rfl),HE3.out⟩
   | true =>
    cases B3 with
    | false =>
     go_wp2_with fail
     go_ret
     exact ⟨Qb (by rw [HX.out]; rfl),HE3.out⟩
    | true =>
     cases B4 with
     | false =>
      go_wp2_with fail
      go_ret
      exact ⟨Qb (by rw [HX.out]; rfl),HE3.out⟩
     | true =>
      go_wp2_with fail
      refine (HW2.out w3 HE3.out).mono ?_;rintro e w4 ⟨rfl,hE4⟩;have HE4:=hide (HE3.out.trans' hE4);clear hE4;go_wp2_with fail
      go_ret
      exact ⟨Qb (by rw [HX.out]; rfl),HE4.out⟩
set_option maxRecDepth 100000 in
theorem Qf8 (p q:PtH) (t u:Ty) (w:World) (vs us:List Value) (h:PartAt w w.heap.size p t vs) (h':PartAt w w.heap.size q u us) (hs:Qi p.label) (hs2:Qi p.cl) (hsq:Qi q.label) (hsq2:Qi q.cl)
  (hsame:∀ (w1:World) (vt ut:List Value),Ext w w1→TyAt w1 w1.heap.size t vt→TyAt w1 w1.heap.size u ut→Calls Tryz.prog 181 #[.agg vt.toArray,.agg ut.toArray] w1 (fun e w'=>e = .returned (.bool (Qu t u))∧Ext w1 w')) :
  Calls Tryz.prog 175 #[.agg vs.toArray,.agg us.toArray] w (fun e w'=>e = .returned (.bool (Q3 p q && Qu t u))∧Ext w w'):=by
 obtain ⟨Al1,cl1,Ac1,cc1,vt,rfl,hl1,hc1,ht1⟩:=h;obtain ⟨Al2,cl2,Ac2,cc2,ut,rfl,hl2,hc2,ht2⟩:=h';have hsm:=fun w1 (hE:Ext w w1)=>hsame w1 vt ut hE (ht1.ext hE) (ht2.ext hE)
 obtain ⟨x01,x11,x21,x31,x41,x51,x61,x71,x81,rfl⟩:=ht1.nine;obtain ⟨x02,x12,x22,x32,x42,x52,x62,x72,x82,rfl⟩:=ht2.nine;have hw1:=fun w1 (hE:Ext w w1)=>Qda Al1 cl1 p.label.length p.label Al2 cl2 q.label.length q.label w1 (hl1.ext hE) rfl hs.1 (hl2.ext hE) rfl hsq.1
 have hw2:=fun w1 (hE:Ext w w1)=>Qda Ac1 cc1 p.cl.length p.cl Ac2 cc2 q.cl.length q.cl w1 (hc1.ext hE) rfl hs2.1 (hc2.ext hE) rfl hsq2.1
 have hx:(Q3 p q && Qu t u)=(((p.name.1.toList == q.name.1.toList) && (p.bare == q.bare) && (p.wide == q.wide) && Qx p.label q.label) && ((p.ck == q.ck) && (p.cn == q.cn) && Qx p.cl q.cl) && Qu t u):=by
  unfold Q3 Q5;rw [Q8];simp only [Bool.and_assoc];rfl
 clear ht1 ht2 hl1 hl2 hc1 hc2 hs hs2 hsq hsq2 hsame;unfold ptV;simp only [List.cons_append,List.nil_append];obtain ⟨n1,hn1⟩:=V1 (p.name.1);rw [← hn1] at hx ⊢;obtain ⟨a1,ha1⟩:=V1 (p.name.2);rw [← ha1] at ⊢;obtain ⟨b1,hb1⟩:=V1 (p.bare);rw [← hb1] at hx ⊢;obtain ⟨l1,hl1⟩:=V1 (p.label.length);rw [← hl1] at hw1 ⊢;obtain ⟨wi1,hwi1⟩:=V1 (p.wide);rw [← hwi1] at hx ⊢;obtain ⟨ck1,hck1⟩:=V1 (p.ck);rw [← hck1] at hx ⊢;obtain ⟨cn1,hcn1⟩:=V1 (p.cn);rw [← hcn1] at hx ⊢;obtain ⟨ca1,hca1⟩:=V1 (p.cat);rw [← hca1] at ⊢;obtain ⟨lc1,hlc1⟩:=V1 (p.cl.length);rw [← hlc1] at hw2 ⊢;obtain ⟨n2,hn2⟩:=V1 (q.name.1);rw [← hn2] at hx ⊢;obtain ⟨a2,ha2⟩:=V1 (q.name.2);rw [← ha2] at ⊢;obtain ⟨b2,hb2⟩:=V1 (q.bare);rw [← hb2] at hx ⊢;obtain ⟨l2,hl2⟩:=V1 (q.label.length);rw [← hl2] at hw1 ⊢;obtain ⟨wi2,hwi2⟩:=V1 (q.wide);rw [← hwi2] at hx ⊢;obtain ⟨ck2,hck2⟩:=V1 (q.ck);rw [← hck2] at hx ⊢;obtain ⟨cn2,hcn2⟩:=V1 (q.cn);rw [← hcn2] at hx ⊢;obtain ⟨ca2,hca2⟩:=V1 (q.cat);rw [← hca2] at ⊢;obtain ⟨lc2,hlc2⟩:=V1 (q.cl.length);rw [← hlc2] at hw2 ⊢;obtain ⟨W1,hW1,W2,hW2,S,hS,R,hR⟩:=V4 (Qx p.label q.label) (Qx p.cl q.cl) (Qu t u) ((Q3 p q && Qu t u));rw [← hR] at hx ⊢;rw [← hW1] at hw1 hx;rw [← hW2] at hw2 hx;rw [← hS] at hsm hx;obtain ⟨B0,hB0,B1,hB1,B2,hB2,B3,hB3,B4,hB4⟩:=V5 ((n1.toList == n2.toList)) ((b1 == b2)) ((wi1 == wi2)) ((ck1 == ck2)) ((cn1 == cn2));rw [← hB0,← hB1,← hB2,← hB3,← hB4] at hx;have e0:=hB0.symm;have e1:=hB1.symm;have e2:=hB2.symm;have e3:=hB3.symm;have e4:=hB4.symm;obtain ⟨PL,hPL,CO,hCO⟩:=V2 ((B0 && B1 && B2 && W1)) ((B3 && B4 && W2));rw [← hPL,← hCO] at hx;obtain ⟨HX,HPL,HCO,HW1,HW2⟩:=Z5 hx hPL hCO hw1 hw2;have HSM:=hide (show ∀ w1,Ext w w1→Calls Tryz.prog 181 #[.agg #[x01,x11,x21,x31,x41,x51,x61,x71,x81],.agg #[x02,x12,x22,x32,x42,x52,x62,x72,x82]] w1 (fun e w'=>e = .returned (.bool S)∧Ext w1 w') from hsm)
 obtain ⟨w0,hw0⟩:=V1 ((w.alloc (.cells #[.string n1,.int .i64 a1,.bool b1,.slice Al1 l1 cl1,.int .i64 wi1,.int .i64 ck1,.int .i64 cn1,.int .i64 ca1,.slice Ac1 lc1 cc1,x01,x11,x21,x31,x41,x51,x61,x71,x81] 131)).alloc (.cells #[.string n2,.int .i64 a2,.bool b2,.slice Al2 l2 cl2,.int .i64 wi2,.int .i64 ck2,.int .i64 cn2,.int .i64 ca2,.slice Ac2 lc2 cc2,x02,x12,x22,x32,x42,x52,x62,x72,x82] 131));have hBa:Blk w0 w.heap.size 131 #[.string n1,.int .i64 a1,.bool b1,.slice Al1 l1 cl1,.int .i64 wi1,.int .i64 ck1,.int .i64 cn1,.int .i64 ca1,.slice Ac1 lc1 cc1,x01,x11,x21,x31,x41,x51,x61,x71,x81]:=by rw [hw0]; exact (Blk.new _ _ _).alloc _
 have hBb:Blk w0 (w.heap.size + 1) 131 #[.string n2,.int .i64 a2,.bool b2,.slice Al2 l2 cl2,.int .i64 wi2,.int .i64 ck2,.int .i64 cn2,.int .i64 ca2,.slice Ac2 lc2 cc2,x02,x12,x22,x32,x42,x52,x62,x72,x82]:=by
  rw [hw0]; have:=Blk.new (w.alloc (.cells #[.string n1,.int .i64 a1,.bool b1,.slice Al1 l1 cl1,.int .i64 wi1,.int .i64 ck1,.int .i64 cn1,.int .i64 ca1,.slice Ac1 lc1 cc1,x01,x11,x21,x31,x41,x51,x61,x71,x81] 131)) 131 #[.string n2,.int .i64 a2,.bool b2,.slice Al2 l2 cl2,.int .i64 wi2,.int .i64 ck2,.int .i64 cn2,.int .i64 ca2,.slice Ac2 lc2 cc2,x02,x12,x22,x32,x42,x52,x62,x72,x82]; simpa only [World.size_alloc] using this
 have HE0:=hide (show Ext w w0 by rw [hw0]; exact ((Ext.rfl' w).alloc nL _).alloc (by simp only [World.size_alloc]; omega) _)
 obtain ⟨gb,hgb,ga,hga⟩:=V2 (w.heap.size + 1) (w.heap.size);rw [← hgb] at hBb;rw [← hga] at hBa;obtain ⟨HBa,HBb⟩:=Z2 hBa hBb;obtain ⟨v0a,-,v2a,v3a,v4a⟩:=X5 (HBa.out);obtain ⟨v0b,-,v2b,v3b,v4b⟩:=X5 (HBb.out);obtain ⟨HW0,HGa,HGb⟩:=Z3 hw0 hga hgb;clear hBa hBb hw0 hga hgb hw1 hw2 hx hB0 hB1 hB2 hB3 hB4 hW1 hW2 hS hsm hPL hCO hR hn1 ha1 hb1 hl1 hwi1 hck1 hcn1 hca1 hlc1 hn2 ha2 hb2 hl2 hwi2 hck2 hcn2 hca2 hlc2;go_enter Tryz.func175,Tryz.ntmps175
 go_upto_region 1 with fail
 rw [← HW0.out,← HGb.out,← HGa.out];go_cut [5] (fun v wx=>v = .bool PL∧Ext w0 wx)
 case first =>
  cases B0 with
  | false =>
   go_wp2_with fail
   go_meet
   exact ⟨by rw [HPL.out]; rfl,Ext.rfl' _⟩
  | true =>
   cases B1 with
   | false =>
    go_wp2_with fail
    go_meet
    exact ⟨by rw [HPL.out]; rfl,Ext.rfl' _⟩
   | true =>
    cases B2 with
    | false =>
     go_wp2_with fail
     go_meet
     exact ⟨by rw [HPL.out]; rfl,Ext.rfl' _⟩
    | true =>
     go_wp2_with fail
     refine (HW1.out w0 HE0.out).mono ?_;rintro e w3 ⟨rfl,hE3⟩;have HE3:=hide hE3;clear hE3;go_wp2_with fail
     go_meet
     exact ⟨by rw [HPL.out]; rfl,HE3.out⟩
 case rest =>
  obtain ⟨rfl,hEc⟩:=hcut;obtain ⟨w1,hw1⟩:=V1 (wc);rw [← hw1] at hEc ⊢;have HE1:=hide (HE0.out.trans' hEc);have u5a:=(HBa.out.ext hEc).cell 5;have u6a:=(HBa.out.ext hEc).cell 6;have u8a:=(HBa.out.ext hEc).cell 8;have u5b:=(HBb.out.ext hEc).cell 5;have u6b:=(HBb.out.ext hEc).cell 6;have u8b:=(HBb.out.ext hEc).cell 8;simp only [gA,gH,gS] at u5a u6a u8a u5b u6b u8b;obtain ⟨HBa,HBb⟩:=Z2 (HBa.out.ext hEc) (HBb.out.ext hEc);clear hw1 hEc v0a v2a v3a v4a v0b v2b v3b v4b e0 e1 e2 HPL;go_upto_region 2 with fail
  go_cut [6] (fun v wx=>v = .bool CO∧Ext w1 wx)
  case first =>
   cases B3 with
   | false =>
    go_wp2_with fail
    go_meet
    exact ⟨by rw [HCO.out]; rfl,Ext.rfl' _⟩
   | true =>
    cases B4 with
    | false =>
     go_wp2_with fail
     go_meet
     exact ⟨by rw [HCO.out]; rfl,Ext.rfl' _⟩
    | true =>
     go_wp2_with fail
     refine (HW2.out w1 HE1.out).mono ?_;rintro e w3 ⟨rfl,hE3⟩;have HE3:=hide hE3;clear hE3;go_wp2_with fail
     go_meet
     exact ⟨by rw [HCO.out]; rfl,HE3.out⟩
  case rest =>
   obtain ⟨rfl,hEc⟩:=hcut;obtain ⟨w2,hw2⟩:=V1 (wc);rw [← hw2] at hEc ⊢;have HE2:=hide (HE1.out.trans' hEc);have z9a:=(HBa.out.ext hEc).cell 9;have z10a:=(HBa.out.ext hEc).cell 10;have z11a:=(HBa.out.ext hEc).cell 11;have z12a:=(HBa.out.ext hEc).cell 12;have z13a:=(HBa.out.ext hEc).cell 13;have z14a:=(HBa.out.ext hEc).cell 14;have z15a:=(HBa.out.ext hEc).cell 15;have z16a:=(HBa.out.ext hEc).cell 16;have z17a:=(HBa.out.ext hEc).cell 17;have z9b:=(HBb.out.ext hEc).cell 9;have z10b:=(HBb.out.ext hEc).cell 10;have z11b:=(HBb.out.ext hEc).cell 11;have z12b:=(HBb.out.ext hEc).cell 12;have z13b:=(HBb.out.ext hEc).cell 13;have z14b:=(HBb.out.ext hEc).cell 14;have z15b:=(HBb.out.ext hEc).cell 15;have z16b:=(HBb.out.ext hEc).cell 16;have z17b:=(HBb.out.ext hEc).cell 17;simp only [gA,gH,gS] at z9a z10a z11a z12a z13a z14a z15a z16a z17a z9b z10b z11b z12b z13b z14b z15b z16b z17b;clear hw2 hEc u5a u6a u8a u5b u6b u8b e3 e4 HCO HBa HBb;cases PL with
   | false =>
    go_wp2_with fail
    go_ret
    exact ⟨Qb (by rw [HX.out]; rfl),HE2.out⟩
   | true =>
    cases CO with
    | false =>
     go_wp2_with fail
     go_ret
     exact ⟨Qb (by rw [HX.out]; rfl),HE2.out⟩
    | true =>
     go_wp2_with fail
     refine (HSM.out w2 HE2.out).mono ?_;rintro e w4 ⟨rfl,hE4⟩;have HE4:=hide (HE2.out.trans' hE4);clear hE4;go_wp2_with fail
     go_ret
     exact ⟨Qb (by rw [HX.out]; rfl),HE4.out⟩
def PartsAt (w:World) (B:Nat) (A:Option Addr) (n:Nat) (p:Nat→PtH) (t:Nat→Ty):Prop:=0 < n→∃ b o,A=some ⟨b,o,none⟩∧b < B∧∀ i,i < n→∃ vs,w.rangeAt b (o + i * 18) vs∧PartAt w B (p i) (t i) vs
theorem PartsAt.ext {w w':World} {A:Option Addr} {n:Nat} {p:Nat→PtH} {t:Nat→Ty} (h:PartsAt w w.heap.size A n p t) (hE:Ext w w'):PartsAt w' w'.heap.size A n p t:=by
 intro hn;obtain ⟨b,o,e,hb,hc⟩:=h hn;refine ⟨b,o,e,Nat.lt_of_lt_of_le hb hE.size,fun i hi=>?_⟩
 obtain ⟨vs,h1,h2⟩:=hc i hi;exact ⟨vs,fun j v hv=>(hE.cell (p:=⟨b,o + i * 18 + j,none⟩) hb).trans (h1 j v hv),h2.ext hE⟩
theorem TyAt.open_ {h:TyH} {n:Nat} {p:Nat→PtH} {t:Nat→Ty} {w:World} {B:Nat} {vs:List Value} (hT:TyAt w B (.mk h n p t) vs):∃ An cn Ap cp,vs=tyV h An cn Ap n cp∧WdsAt w B An h.names∧PartsAt w B Ap n p t:=by
 obtain ⟨An,cn,Ap,cp,e,h1,h2⟩:=hT;refine ⟨An,cn,Ap,cp,e,h1,fun hn=>?_⟩
 obtain ⟨b,o,e',hb,hc⟩:=h2 hn;refine ⟨b,o,e',hb,fun i hi=>?_⟩
 obtain ⟨Al,cl,Ac,cc,vt,q1,q2,q3,q4⟩:=hc i hi;exact ⟨_,q1,Al,cl,Ac,cc,vt,rfl,q2,q3,q4⟩
theorem PartAt.len {w:World} {B:Nat} {q:PtH} {t:Ty} {vs:List Value} (h:PartAt w B q t vs):vs.length=18:=by
 obtain ⟨Al,cl,Ac,cc,vt,rfl,_,_,h3⟩:=h;obtain ⟨a0,a1,a2,a3,a4,a5,a6,a7,a8,rfl⟩:=h3.nine;rfl
theorem PartAt.one {w:World} {B:Nat} {q:PtH} {t:Ty} {vs:List Value} (h:PartAt w B q t vs):vs.toArray.all (·.oneCell')=true:=by
 obtain ⟨Al,cl,Ac,cc,vt,rfl,_,_,h3⟩:=h;obtain ⟨h',n',An,cn,Ap,cp,rfl⟩:=h3.form;simp [ptV,tyV,Value.oneCell']
theorem infoPart' {vs:List Value} (h:vs.length=18):(Tryz.prog.info? 131).map (·.size)=some vs.length:=by
 rw [h]; kernel_rfl
theorem Qan {vs:List Value} (h:vs.length=18):(Tryz.prog.info? 131).map (·.size)=some vs.toArray.size:=by
 rw [List.size_toArray,h]; kernel_rfl
theorem Qv {w:World} {g:Nat} {t:TypeId} {vs:List Value} (h:Blk w g t vs.toArray):w.rangeAt g 0 vs:=by
 intro j v hv;rw [Nat.zero_add,h.cell j];simpa using hv
def Qf9 (E:Nat→Bool) (n:Nat):Bool:=(List.range n).all E
theorem Qlh {E:Nat→Bool} {n:Nat} (h:∀ j,j < n→E j=true):Qf9 E n=true:=by
 unfold Qf9;rw [List.all_eq_true];exact fun j hj=>h j (List.mem_range.1 hj)
theorem Qn0 {E:Nat→Bool} {n k:Nat} (hk:k < n) (h:E k=false):Qf9 E n=false:=by
 unfold Qf9;rw [← Bool.not_eq_true,List.all_eq_true];intro hh;rw [hh k (List.mem_range.2 hk)] at h;cases h
set_option maxRecDepth 100000 in
theorem Qkk (n n2:Nat) (p q:Nat→PtH) (t u:Nat→Ty) (E:Nat→Bool) (A:Option Addr) (c:Nat) (A2:Option Addr) (c2:Nat) (w:World) (h:PartsAt w w.heap.size A n p t) (h2:PartsAt w w.heap.size A2 n2 q u) (hn:n≤5864062014634)
  (hcall:∀ i,i < n→i < n2→∀ (w1:World) (vs us:List Value),Ext w w1→PartAt w1 w1.heap.size (p i) (t i) vs→PartAt w1 w1.heap.size (q i) (u i) us→Calls Tryz.prog 175 #[.agg vs.toArray,.agg us.toArray] w1 (fun e w'=>e = .returned (.bool (E i))∧Ext w1 w')) :
  Calls Tryz.prog 184 #[.slice A n c,.slice A2 n2 c2,.func (.func 175) #[] #[]] w (fun e w'=>e = .returned (.bool (decide (n=n2) && Qf9 E n))∧Ext w w'):=by
 by_cases hln:n=n2
 ·subst hln;rw [decide_eq_true rfl,Bool.true_and];obtain ⟨HYES,HNO⟩:=Z2 (fun hh=>(Qlh (E:=E) (n:=n) hh).symm) (fun k (hk:k < n) hh=>(Qn0 (E:=E) hk hh).symm)
  obtain ⟨R,hR⟩:=V1 (Qf9 E n);rw [← hR] at HYES HNO ⊢;obtain ⟨HP,HQ,HC⟩:=Z3 h h2 hcall;clear h h2 hcall hR;go_enter Tryz.func184,Tryz.ntmps184
  go_wp2_with fail
  go_loopw [17] (fun i wr=>∃ k:Nat,k≤n∧i = .int .i64 (k:Int)∧Ext w wr∧Hid (∀ j,j < k→E j=true)) (fun i _=>n - (intOf i).toNat)
  case atStart=>exact ⟨0,Nat.zero_le _,rfl,Ext.rfl' _,fun j hj=>absurd hj (by omega)⟩
  case round =>
   obtain ⟨k,hk,rfl,hE,HA⟩:=hrel;have HE:=hide hE;by_cases hkn:k < n
   ·obtain ⟨b,o,rfl,hb,hc⟩:=HP.out.ext hE (by omega)
    obtain ⟨b',o',rfl,hb',hc'⟩:=HQ.out.ext hE (by omega)
    obtain ⟨vs,r1,q1⟩:=hc k hkn;obtain ⟨us,r2,q2⟩:=hc' k hkn;have l1:=q1.len;have l2:=q2.len;have o1:=q1.one;have o2:=q2.one;obtain ⟨w5,hw5,g5,hg5⟩:=V2 (wr.alloc (.cells vs.toArray 131)) (wr.heap.size);have hE5:Ext wr w5:=by rw [hw5]; exact (Ext.rfl' wr).alloc nL _
    have hV5:Blk w5 g5 131 vs.toArray:=by rw [hw5,hg5]; exact Blk.new _ _ _
    obtain ⟨w6,hw6,g6,hg6⟩:=V2 (w5.alloc (.cells us.toArray 131)) (w5.heap.size);have hE6:Ext w5 w6:=by rw [hw6]; exact (Ext.rfl' w5).alloc nL _
    have hV6:Blk w6 g6 131 us.toArray:=by rw [hw6,hg6]; exact Blk.new _ _ _
    have HR1:=hide r1;have HR2:=hide (show w5.rangeAt b' (o' + k * 18) us from fun j v hv=>(hE5.cell (p:=⟨b',o' + k * 18 + j,none⟩) hb').trans (r2 j v hv))
    obtain ⟨HR5,HR6,HE6,HCALL⟩:=Z4 (Qv (hV5.ext hE6)) (Qv hV6) (hE.trans' (hE5.trans' hE6)) (HC.out k hkn hkn w6 vs us (hE.trans' (hE5.trans' hE6)) (q1.ext (hE5.trans' hE6)) (q2.ext (hE5.trans' hE6)));obtain ⟨ek,hek⟩:=V1 (E k);rw [← hek] at HCALL;obtain ⟨HEK,HL1,HL2,HO1,HO2,HW5,HG5,HW6⟩:=Z8 hek l1 l2 o1 o2 hw5 hg5 hw6;have HG6:=hide hg6;have i0:=nZ k;have i1:(k:Int) < (n:Int):=by omega
    clear hc hc' r1 r2 q1 q2 l1 l2 o1 o2 hE hE5 hE6 hV5 hV6 hw5 hg5 hw6 hg6 hek;go_upto_region 5 with fail
    refine wp_region_lit ?_;refine wpList_plain rfl fun K1 hK1=>?_
    go_simp;refine hK1 _ _ ?_;refine wpList_plain rfl fun K2 hK2=>?_
    go_simp;refine hK2 _ _ ?_;refine wpList_load_mid rfl 131 _ rfl b (o + k * 18) rfl vs _ HR1.out Tryz.underlying131 rfl (infoPart' HL1.out) ?_;refine wpList_plain rfl fun K3 hK3=>?_
    go_simp;refine hK3 _ _ ?_;refine wpList_plain rfl fun K4 hK4=>?_
    go_simp;refine hK4 _ _ ?_;refine Qc rfl 131 _ _ rfl _ vs.toArray rfl rfl (Qan HL1.out) (by show _=vs.length; rw [HL1.out]; rfl) HO1.out ?_
    rw [← HW5.out,← HG5.out];go_upto_region 6 with fail
    refine wp_region_lit ?_;refine wpList_plain rfl fun K5 hK5=>?_
    go_simp;refine hK5 _ _ ?_;refine wpList_plain rfl fun K6 hK6=>?_
    go_simp;refine hK6 _ _ ?_;refine wpList_plain rfl fun K7 hK7=>?_
    go_simp;refine hK7 _ _ ?_;refine wpList_load_mid rfl 131 _ rfl b' (o' + k * 18) rfl us _ HR2.out Tryz.underlying131 rfl (infoPart' HL2.out) ?_;refine wpList_plain rfl fun K8 hK8=>?_
    go_simp;refine hK8 _ _ ?_;refine Qc rfl 131 _ _ rfl _ us.toArray rfl rfl (Qan HL2.out) (by show _=us.length; rw [HL2.out]; rfl) HO2.out ?_
    rw [← HW6.out,← HG6.out];go_upto_region 7 with fail
    refine wp_region_lit ?_;refine wpList_plain rfl fun K9 hK9=>?_
    go_simp;refine hK9 _ _ ?_;refine wpList_load_mid rfl 131 _ rfl g5 0 rfl vs _ HR5.out Tryz.underlying131 rfl (infoPart' HL1.out) ?_;refine wpList_load_mid rfl 131 _ rfl g6 0 rfl us _ HR6.out Tryz.underlying131 rfl (infoPart' HL2.out) ?_;cases ek with
    | false =>
     have HX:=hide (HNO.out k hkn HEK.out.symm);go_wp2_with fail
     refine HCALL.out.mono ?_;rintro e w7 ⟨rfl,hE7⟩;have HE7:=hide (HE6.out.trans' hE7);clear hE7;go_wp2_with fail
     go_ret
     exact ⟨Qb HX.out,HE7.out⟩
    | true =>
     have HA2:=hide (Q0 HA.out (show E k=true from HEK.out.symm))
     clear HA;go_wp2_with fail
     refine HCALL.out.mono ?_;rintro e w7 ⟨rfl,hE7⟩;have HE7:=hide (HE6.out.trans' hE7);clear hE7;go_wp2_with fail
     go_roundw
     case rel=>exact ⟨k + 1,by omega,by go_num,HE7.out,HA2⟩
     case measure=>simp [intOf]; omega
   ·obtain rfl:k=n:=by omega
    have HX:=hide (HYES.out HA.out);clear HA hE;go_wp2_with fail
    go_ret
    exact ⟨Qb HX.out,HE.out⟩
 ·rw [decide_eq_false hln,Bool.false_and];have hne:((n:Int) != (n2:Int))=true:=by simp; omega
  clear h h2 hcall;go_enter Tryz.func184,Tryz.ntmps184
  go_wp2_with fail
  go_ret
  exact ⟨rfl,Ext.rfl' _⟩
theorem Qqo (h h':TyH):Qgw h h'=(!(h.kind != h'.kind) && !(h.lo != h'.lo) && !(h.hi != h'.hi) && !(h.most != h'.most) && (h.name.1.toList == h'.name.1.toList) && Qx h.names h'.names):=by
 unfold Qgw;rw [Q8];simp only [bne,Bool.not_not];rfl
theorem Qj0 (h:TyH) (n:Nat) (p:Nat→PtH) (t:Nat→Ty) (h':TyH) (n':Nat) (p':Nat→PtH) (t':Nat→Ty):Qu (.mk h n p t) (.mk h' n' p' t')=(!(h.kind != h'.kind) && !(h.lo != h'.lo) && !(h.hi != h'.hi) && !(h.most != h'.most) && (h.name.1.toList == h'.name.1.toList) && Qx h.names h'.names && (decide (n=n') && Qf9 (fun i=>Q3 (p i) (p' i) && Qu (t i) (t' i)) n)):=by
 rw [Qho,Qqo,Bool.and_assoc _ (decide _)];rfl
set_option maxRecDepth 100000 in
theorem Qso (a:Ty):∀ (b:Ty) (w:World) (vs us:List Value),TyAt w w.heap.size a vs→TyAt w w.heap.size b us→Qr a→Qr b→Calls Tryz.prog 181 #[.agg vs.toArray,.agg us.toArray] w (fun e w'=>e = .returned (.bool (Qu a b))∧Ext w w'):=by
 induction a with
 | nil=>intro b w vs us hT; exact hT.elim
 | mk h n p t ih =>
  intro b w vs us hT hU hS hS';cases b with
  | nil=>exact hU.elim
  | mk h' n' p' t' =>
   obtain ⟨An,cn,Ap,cp,rfl,hN,hP⟩:=hT.open_;obtain ⟨An',cn',Ap',cp',rfl,hN',hP'⟩:=hU.open_;obtain ⟨sn,_,hn,hSz⟩:=hS;obtain ⟨sn',_,hn',hSz'⟩:=hS';have hx:=Qj0 h n p t h' n' p' t';have hw:=fun w1 (hE:Ext w w1)=>Qda An cn h.names.length h.names An' cn' h'.names.length h'.names w1 (hN.ext hE) rfl sn.1 (hN'.ext hE) rfl sn'.1
   have hf:=fun w1 (hE:Ext w w1)=>Qkk n n' p p' t t' (fun i=>Q3 (p i) (p' i) && Qu (t i) (t' i)) Ap cp Ap' cp' w1 (hP.ext hE) (hP'.ext hE) (Nat.le_trans hn (by decide)) (fun i hi hi' w2 vs us hE2 hv hu=>Qf8 (p i) (p' i) (t i) (t' i) w2 vs us hv hu (hSz i hi).2.1 (hSz i hi).2.2.1 (hSz' i hi').2.1 (hSz' i hi').2.2.1 (fun w3 vt ut hE3 hvt hut=>ih i (t' i) w3 vt ut hvt hut (hSz i hi).2.2.2 (hSz' i hi').2.2.2))
   show Calls Tryz.prog 181 #[.agg #[.int .i64 h.kind,.int .i64 h.at_,.int .i64 h.lo,.int .i64 h.hi,.int .i64 h.most,.slice An h.names.length cn,.slice Ap n cp,.string h.name.1,.int .i64 h.name.2],.agg #[.int .i64 h'.kind,.int .i64 h'.at_,.int .i64 h'.lo,.int .i64 h'.hi,.int .i64 h'.most,.slice An' h'.names.length cn',.slice Ap' n' cp',.string h'.name.1,.int .i64 h'.name.2]] w _
   obtain ⟨R,hR⟩:=V1 (Qu (.mk h n p t) (.mk h' n' p' t'));rw [← hR] at hx ⊢;obtain ⟨F,hF⟩:=V1 ((decide (n=n') && Qf9 (fun i=>Q3 (p i) (p' i) && Qu (t i) (t' i)) n))
   rw [← hF] at hx hf;obtain ⟨Wd1,hWd⟩:=V1 (Qx h.names h'.names);rw [← hWd] at hx hw;clear ih hP hP' hN hN' hSz hSz' sn sn' hR hF hWd hT hU;obtain ⟨k1,hk1⟩:=V1 (h.kind);rw [← hk1] at hx ⊢;obtain ⟨a1,ha1⟩:=V1 (h.at_);rw [← ha1] at ⊢;obtain ⟨lo1,hlo1⟩:=V1 (h.lo);rw [← hlo1] at hx ⊢;obtain ⟨hi1,hhi1⟩:=V1 (h.hi);rw [← hhi1] at hx ⊢;obtain ⟨mo1,hmo1⟩:=V1 (h.most);rw [← hmo1] at hx ⊢;obtain ⟨z1,hz1⟩:=V1 (h.names.length);rw [← hz1] at hw ⊢;obtain ⟨s1,hs1⟩:=V1 (h.name.1);rw [← hs1] at hx ⊢;obtain ⟨y1,hy1⟩:=V1 (h.name.2);rw [← hy1] at ⊢;obtain ⟨k2,hk2⟩:=V1 (h'.kind);rw [← hk2] at hx ⊢;obtain ⟨a2,ha2⟩:=V1 (h'.at_);rw [← ha2] at ⊢;obtain ⟨lo2,hlo2⟩:=V1 (h'.lo);rw [← hlo2] at hx ⊢;obtain ⟨hi2,hhi2⟩:=V1 (h'.hi);rw [← hhi2] at hx ⊢;obtain ⟨mo2,hmo2⟩:=V1 (h'.most);rw [← hmo2] at hx ⊢;obtain ⟨z2,hz2⟩:=V1 (h'.names.length);rw [← hz2] at hw ⊢;obtain ⟨s2,hs2⟩:=V1 (h'.name.1);rw [← hs2] at hx ⊢;obtain ⟨y2,hy2⟩:=V1 (h'.name.2);rw [← hy2] at ⊢;obtain ⟨N0,hN0,N1,hN1,N2,hN2,N3,hN3,B4,hB4⟩:=V5 ((k1 != k2)) ((lo1 != lo2)) ((hi1 != hi2)) ((mo1 != mo2)) ((s1.toList == s2.toList));rw [← hN0,← hN1,← hN2,← hN3,← hB4] at hx;have e0:=hN0.symm;have e1:=hN1.symm;have e2:=hN2.symm;have e3:=hN3.symm;have e4:=hB4.symm;obtain ⟨HX,HW,HFN⟩:=Z3 hx hw hf;obtain ⟨w0,hw0⟩:=V1 ((w.alloc (.cells #[.int .i64 k1,.int .i64 a1,.int .i64 lo1,.int .i64 hi1,.int .i64 mo1,.slice An z1 cn,.slice Ap n cp,.string s1,.int .i64 y1] 29)).alloc (.cells #[.int .i64 k2,.int .i64 a2,.int .i64 lo2,.int .i64 hi2,.int .i64 mo2,.slice An' z2 cn',.slice Ap' n' cp',.string s2,.int .i64 y2] 29));have hBa:Blk w0 w.heap.size 29 #[.int .i64 k1,.int .i64 a1,.int .i64 lo1,.int .i64 hi1,.int .i64 mo1,.slice An z1 cn,.slice Ap n cp,.string s1,.int .i64 y1]:=by rw [hw0]; exact (Blk.new _ _ _).alloc _
   have hBb:Blk w0 (w.heap.size + 1) 29 #[.int .i64 k2,.int .i64 a2,.int .i64 lo2,.int .i64 hi2,.int .i64 mo2,.slice An' z2 cn',.slice Ap' n' cp',.string s2,.int .i64 y2]:=by
    rw [hw0]; have:=Blk.new (w.alloc (.cells #[.int .i64 k1,.int .i64 a1,.int .i64 lo1,.int .i64 hi1,.int .i64 mo1,.slice An z1 cn,.slice Ap n cp,.string s1,.int .i64 y1] 29)) 29 #[.int .i64 k2,.int .i64 a2,.int .i64 lo2,.int .i64 hi2,.int .i64 mo2,.slice An' z2 cn',.slice Ap' n' cp',.string s2,.int .i64 y2]; simpa only [World.size_alloc] using this
   have HE0:=hide (show Ext w w0 by rw [hw0]; exact ((Ext.rfl' w).alloc nL _).alloc (by simp only [World.size_alloc]; omega) _)
   obtain ⟨gb,hgb,ga,hga⟩:=V2 (w.heap.size + 1) (w.heap.size);rw [← hgb] at hBb;rw [← hga] at hBa;obtain ⟨HBa,HBb⟩:=Z2 hBa hBb;obtain ⟨v0a,-,v2a,v3a,v4a,v5a,-,v7a⟩:=X8 (HBa.out);obtain ⟨v0b,-,v2b,v3b,v4b,v5b,-,v7b⟩:=X8 (HBb.out);obtain ⟨HW0,HGa,HGb⟩:=Z3 hw0 hga hgb;clear hBa hBb hw0 hga hgb hw hf hx hN0 hN1 hN2 hN3 hB4 hk1 ha1 hlo1 hhi1 hmo1 hz1 hs1 hy1 hk2 ha2 hlo2 hhi2 hmo2 hz2 hs2 hy2;go_enter Tryz.func181,Tryz.ntmps181
   go_upto_region 1 with fail
   rw [← HW0.out,← HGb.out,← HGa.out];cases N0 with
   | true =>
    go_wp2_with fail
    go_ret
    exact ⟨Qb (by rw [HX.out]; rfl),HE0.out⟩
   | false =>
    cases N1 with
    | true =>
     go_wp2_with fail
     go_ret
     exact ⟨Qb (by rw [HX.out]; rfl),HE0.out⟩
    | false =>
     cases N2 with
     | true =>
      go_wp2_with fail
      go_ret
      exact ⟨Qb (by rw [HX.out]; rfl),HE0.out⟩
     | false =>
      cases N3 with
      | true =>
       go_wp2_with fail
       go_ret
       exact ⟨Qb (by rw [HX.out]; rfl),HE0.out⟩
      | false =>
       cases B4 with
       | false =>
        go_wp2_with fail
        go_ret
        exact ⟨Qb (by rw [HX.out]; rfl),HE0.out⟩
       | true =>
        go_wp2_with fail
        refine (HW.out w0 HE0.out).mono ?_;rintro e w3 ⟨rfl,hE3⟩;have HE3:=hide (HE0.out.trans' hE3);have u6a:=(HBa.out.ext hE3).cell 6;have u6b:=(HBb.out.ext hE3).cell 6;simp only [gA,gH,gS] at u6a u6b;clear hE3 v0a v2a v3a v4a v5a v7a v0b v2b v3b v4b v5b v7b;cases Wd1 with
        | false =>
         go_wp2_with fail
         go_ret
         exact ⟨Qb (by rw [HX.out]; rfl),HE3.out⟩
        | true =>
         go_wp2_with fail
         refine (HFN.out w3 HE3.out).mono ?_;rintro e w4 ⟨rfl,hE4⟩;have HE4:=hide (HE3.out.trans' hE4);clear hE4;go_wp2_with fail
         go_ret
         exact ⟨Qb (by rw [HX.out]; cases F <;> rfl),HE4.out⟩
end Go.Proofs.YtanpljalbijfkaaGreat
