/- . -/
import Derived.Test.YtanpljalbijfkaaGreatQ17
namespace Go.Proofs.YtanpljalbijfkaaGreat
open Go.RowKit
set_option maxHeartbeats 16000000
def Grw (gc:Nat) (w w':World):Prop:=w.grownBy w' (some gc)
theorem Grw.of_ext {gc:Nat} {w w':World} (h:Ext w w'):Grw gc w w':=Qbw h _
theorem Grw.trans {gc:Nat} {a b c:World} (h:Grw gc a b) (k:Grw gc b c):Grw gc a c :=
 ⟨k.os.trans h.os,k.tape.trans h.tape,k.output.trans h.output,Nat.le_trans h.size k.size,fun i hi hr=>(k.block i (Nat.lt_of_lt_of_le hi h.size) hr).trans (h.block i hi hr)⟩
theorem Grw.ext {gc:Nat} {a b c:World} (h:Grw gc a b) (k:Ext b c):Grw gc a c:=h.trans (.of_ext k)
theorem Grw.sz {gc:Nat} {a b:World} (h:Grw gc a b):a.heap.size≤b.heap.size:=h.size
theorem size_setCell' (w:World) (p:Addr) (v:Value):(w.setCell p v).heap.size=w.heap.size:=by simp [World.setCell]
theorem Grw.set {gc g i:Nat} {a b:World} (h:Grw gc a b) (hg:a.heap.size≤g∨g=gc) (v:Value):Grw gc a (b.setCell ⟨g,i,none⟩ v):=by
 refine ⟨h.os,h.tape,h.output,?_,fun k hk hr=>?_⟩
 ·rw [size_setCell']; exact h.size
 ·refine (Below.heap_setCell b ⟨g,i,none⟩ v k ?_).trans (h.block k hk hr)
  rintro rfl
  rcases hg with hg | hg
  ·exact absurd hk (Nat.not_lt.2 hg)
  ·rw [hg] at hr; exact hr rfl
theorem Grw.blk {gc g:Nat} {w w':World} {t:TypeId} {cs:Array Value} (hg:Grw gc w w') (h:Blk w g t cs) (hne:g≠gc):Blk w' g t cs:=h.grown hg (by intro e; cases e; exact hne rfl)
theorem TyAt.keep {t:Ty} {B:Nat} : ∀ {w w':World} {vs:List Value},TyAt w B t vs→(∀ p:Addr,p.block < B→w'.cell? p=w.cell? p)→TyAt w' B t vs:=by
 induction t with
 | nil=>intro w w' vs h _; exact h.elim
 | mk h n p t ih =>
  rintro w w' vs ⟨An,cn,Ap,cp,rfl,h1,h2⟩ hE
  refine ⟨An,cn,Ap,cp,rfl,Reads.keep h1 hE,fun hn=>?_⟩
  obtain ⟨b,o,e,hb,hc⟩:=h2 hn
  refine ⟨b,o,e,hb,fun i hi=>?_⟩
  obtain ⟨Al,cl,Ac,cc,vt,q1,q2,q3,q4⟩:=hc i hi
  exact ⟨Al,cl,Ac,cc,vt,fun j v hv=>(hE ⟨b,o + i * 18 + j,none⟩ hb).trans (q1 j v hv),Reads.keep q2 hE,Reads.keep q3 hE,ih i q4 hE⟩
theorem TyAt.more {t:Ty} {B B':Nat} (hB:B≤B'):∀ {w:World} {vs:List Value},TyAt w B t vs→TyAt w B' t vs:=by
 induction t with
 | nil=>intro w vs h; exact h.elim
 | mk h n p t ih =>
  rintro w vs ⟨An,cn,Ap,cp,rfl,h1,h2⟩
  refine ⟨An,cn,Ap,cp,rfl,Reads.more h1 hB,fun hn=>?_⟩
  obtain ⟨b,o,e,hb,hc⟩:=h2 hn
  refine ⟨b,o,e,Nat.lt_of_lt_of_le hb hB,fun i hi=>?_⟩
  obtain ⟨Al,cl,Ac,cc,vt,q1,q2,q3,q4⟩:=hc i hi
  exact ⟨Al,cl,Ac,cc,vt,q1,Reads.more q2 hB,Reads.more q3 hB,ih i q4⟩
theorem PartAt.keep {q:PtH} {t:Ty} {B:Nat} {w w':World} {vs:List Value} (h:PartAt w B q t vs) (hE:∀ p:Addr,p.block < B→w'.cell? p=w.cell? p):PartAt w' B q t vs:=by
 obtain ⟨Al,cl,Ac,cc,vt,e,h1,h2,h3⟩:=h
 exact ⟨Al,cl,Ac,cc,vt,e,Reads.keep h1 hE,Reads.keep h2 hE,h3.keep hE⟩
theorem PartAt.more {q:PtH} {t:Ty} {B B':Nat} (hB:B≤B') {w:World} {vs:List Value} (h:PartAt w B q t vs):PartAt w B' q t vs:=by
 obtain ⟨Al,cl,Ac,cc,vt,e,h1,h2,h3⟩:=h
 exact ⟨Al,cl,Ac,cc,vt,e,Reads.more h1 hB,Reads.more h2 hB,h3.more hB⟩
theorem PartsAt.keep {A:Option Addr} {n:Nat} {p:Nat→PtH} {t:Nat→Ty} {B:Nat} {w w':World} (h:PartsAt w B A n p t) (hE:∀ p:Addr,p.block < B→w'.cell? p=w.cell? p):PartsAt w' B A n p t:=by
 intro hn
 obtain ⟨b,o,e,hb,hc⟩:=h hn
 refine ⟨b,o,e,hb,fun i hi=>?_⟩
 obtain ⟨vs,h1,h2⟩:=hc i hi
 exact ⟨vs,fun j v hv=>(hE ⟨b,o + i * 18 + j,none⟩ hb).trans (h1 j v hv),h2.keep hE⟩
theorem Grw.cells {gc B:Nat} {w w':World} (h:Grw gc w w') (hB:B≤w.heap.size) (hc:B≤gc):∀ p:Addr,p.block < B→w'.cell? p=w.cell? p:=fun p hp=>by
 have:=h.block p.block (Nat.lt_of_lt_of_le hp hB) (by intro e; cases e; omega)
 unfold World.cell?
 rw [this]
def Qa2 (r:Wr) (gc:Nat) (w:World) (e:Ending) (w':World):Prop:=e = .returned (Qe r.1)∧Grw gc w w'∧Blk w' gc 180 #[.int .i64 r.2]
def Qe2 (t:Ty) (d:Int) (B:Nat):Prop:=∀ (gc:Nat) (m:Int) (w:World) (vs:List Value),TyAt w B t vs→B≤gc→Blk w gc 180 #[.int .i64 m] →
 Calls Tryz.prog 107 #[.pointer (some ⟨gc,0,none⟩),.agg vs.toArray,.int .i64 d] w (Qa2 (chk t d m) gc w)
def Qa7 (u:Bool) (q:PtH) (t:Ty) (sub:Int→Wr) (m:Int):Wr :=
 if q.bare=true then (if u=true∧Qdl q t=true then ((0,0),m) else ((19,q.name.2),m)) else if (Qb2 q).1≠0 then (Qb2 q,m) else sub m
theorem infoTy' {vs:List Value} (h:vs.length=9):(Tryz.prog.info? 29).map (·.size)=some vs.length:=by
 rw [h]; kernel_rfl
set_option maxRecDepth 100000 in
theorem Qsf (h:TyH) (n:Nat) (p:Nat→PtH) (t:Nat→Ty) (d m:Int) (gc B:Nat) (An Ap:Option Addr) (cn cp:Nat) (w:World) (hP:PartsAt w B Ap n p t) (hsz:∀ i,i < n→Qo (p i).label∧Qo (p i).cl) (hBg:B≤gc) (hC:Blk w gc 180 #[.int .i64 m]) (hsub:0 < n→Qe2 (t 0) (IntKind.i64.wrap (d + 1)) B) :
  Calls Tryz.prog 130 #[.pointer (some ⟨gc,0,none⟩),.agg (tyV h An cn Ap n cp).toArray,.int .i64 d] w (Qa2 (Qgy h n p (fun m=>chk (t 0) (IntKind.i64.wrap (d + 1)) m) m) gc w):=by
 have e1:=IntWalk.i64_left (d + 1)
 rw [e1] at hsub ⊢
 clear e1
 have hx:Qgy h n p (fun m=>chk (t 0) (wrap64 (d + 1)) m) m=if n=1∧Qay (p 0) (zPt wd0 false)=true then (if h.most < 0∨1024 < h.most then ((20,h.at_),m) else chk (t 0) (wrap64 (d + 1)) m) else ((19,h.at_),m):=rfl
 generalize hRR:Qgy h n p (fun m=>chk (t 0) (wrap64 (d + 1)) m) m=R at hx ⊢
 clear hRR
 obtain ⟨vs0,hv0⟩:=V1 ((tyV h An cn Ap n cp).toArray)
 rw [← hv0]
 unfold tyV at hv0
 generalize h.kind=kd at hv0
 generalize h.at_=a at hv0 hx
 generalize h.lo=lo at hv0
 generalize h.hi=hi at hv0
 generalize h.most=mo at hv0 hx
 generalize h.names.length=nn at hv0
 generalize h.name.1=s0 at hv0
 generalize h.name.2=s1 at hv0
 subst hv0
 obtain ⟨w0,hw0⟩:=V1 ((w.alloc (.cells #[.int .i64 kd,.int .i64 a,.int .i64 lo,.int .i64 hi,.int .i64 mo,.slice An nn cn,.slice Ap n cp,.string s0,.int .i64 s1] 29)).alloc (.cells #[.int .i64 0,.int .i64 0] 34))
 have hT:Blk w0 w.heap.size 29 #[.int .i64 kd,.int .i64 a,.int .i64 lo,.int .i64 hi,.int .i64 mo,.slice An nn cn,.slice Ap n cp,.string s0,.int .i64 s1]:=by rw [hw0]; exact (Blk.new _ _ _).alloc _
 have hF:Blk w0 (w.heap.size + 1) 34 #[.int .i64 0,.int .i64 0]:=by
  rw [hw0]; have:=Blk.new (w.alloc (.cells #[.int .i64 kd,.int .i64 a,.int .i64 lo,.int .i64 hi,.int .i64 mo,.slice An nn cn,.slice Ap n cp,.string s0,.int .i64 s1] 29)) 34 #[.int .i64 0,.int .i64 0]; simpa only [World.size_alloc] using this
 have hE:Ext w w0:=by rw [hw0]; exact ((Ext.rfl' w).alloc nL _).alloc (by simp only [World.size_alloc]; omega) _
 have hS:w0.heap.size=w.heap.size + 2:=by rw [hw0]; simp only [World.size_alloc]
 have hC1:Blk w0 gc 180 #[.int .i64 m]:=hC.ext hE
 have hgl:=hC.lt
 have hBw:B≤w.heap.size:=Nat.le_of_lt (Nat.lt_of_le_of_lt hBg hgl)
 have n1:w.heap.size + 1≠gc:=by omega
 have n2:w.heap.size≠gc:=by omega
 have hlo:w.heap.size≤w.heap.size + 1:=Nat.le_succ _
 generalize hCK:chk (t 0) (wrap64 (d + 1)) m=CK at hx
 obtain ⟨gf,hgf,gt,hgt⟩:=V2 (w.heap.size + 1) (w.heap.size)
 rw [← hgf] at hF hlo n1
 rw [← hgt] at hT n2
 obtain ⟨HX,HW,HGF,HGT,HF,HE,HC,HT⟩:=Z8 hx hw0 hgf hgt hF hE hC1 hT
 obtain ⟨HN,HN2,HLO,HBW,HBG⟩:=Z5 n1 n2 hlo hBw hBg
 obtain ⟨b0,b1⟩:=X2 HF.out
 obtain ⟨f0,f1⟩:=Y2 HF.out
 have t1:=hT.cell 1
 have t4:=hT.cell 4
 have t6:=hT.cell 6
 simp only [gA,gH,gS] at t1 t4 t6
 clear hx hw0 hF hE hC1 hT n1 n2 hlo hgf hgt hS hBw hBg hgl hC
 by_cases hn:n=1
 ·subst hn
  obtain ⟨b,o,rfl,hb,hc⟩:=hP (by omega)
  obtain ⟨vs,r0,hpa⟩:=hc 0 (by omega)
  rw [Nat.zero_mul,Nat.add_zero] at r0
  have hs:=hsz 0 (by omega)
  have hsb:=hsub (by omega)
  obtain ⟨Al,cl,Ac,cc,vt,hvs,hl,hcc,htt⟩:=id hpa
  have hpw:PartAt w w.heap.size (p 0) (t 0) vs:=hpa.more HBW.out
  have hem:=Qpk (p 0) (t 0) w0 vs (hpw.ext HE.out) hs.1 hs.2
  have hchk:=fun w1 (hE:Ext w w1) (hC1:Blk w1 gc 180 #[.int .i64 m])=>hsb gc m w1 vt (htt.keep fun q hq=>hE.cell (Nat.lt_of_lt_of_le hq HBW.out)) HBG.out hC1
  rw [hCK] at hchk
  have hvl:vs.length=18:=hpw.len
  have htl:vt.length=9:=by obtain ⟨y0,y1,y2,y3,y4,y5,y6,y7,y8,e⟩:=htt.nine; rw [e]; rfl
  have hr1:w0.rangeAt b o vs:=fun j v hv=>(HE.out.cell (p:=⟨b,o + j,none⟩) (Nat.lt_of_lt_of_le hb HBW.out)).trans (r0 j v hv)
  have hrt:w.rangeAt b (o + 9) vt:=fun j v hv=>by
   have:=r0 (9 + j) v (by rw [hvs,List.getElem?_append_right (by show 9≤9 + j; omega)]; rw [show 9 + j - (ptV (p 0) Al cl Ac cc).length=j by show 9 + j - 9=j; omega]; exact hv)
   rwa [← Nat.add_assoc] at this
  have hbw:=Nat.lt_of_lt_of_le hb HBW.out
  generalize Qay (p 0) (zPt wd0 false)=SB at hem HX
  obtain ⟨HEM,HCHK,HVL,HTL,HR1,HRT,HB⟩:=Z7 hem hchk hvl htl hr1 hrt hbw
  clear hem hchk hvl htl hr1 hrt hbw hpw hvs hl hcc htt hs hsb hpa r0 hc hb hsz hsub hP hCK
  cases SB with
  | false =>
   have HR:=Qa (show R=((19,a),m) by rw [HX.out,if_neg (fun hh=>by cases hh.2)])
   go_enter Tryz.func130,Tryz.ntmps130
   go_upto_region 1 with fail
   rw [← HW.out,← HGF.out,← HGT.out]
   refine wp_region_lit ?_
   refine wpList_plain rfl fun K1 hK1=>?_
   go_simp
   refine hK1 _ _ ?_
   refine wpList_plain rfl fun K2 hK2=>?_
   go_simp
   refine hK2 _ _ ?_
   refine wpList_plain rfl fun K3 hK3=>?_
   go_simp
   refine hK3 _ _ ?_
   refine wpList_plain rfl fun K4 hK4=>?_
   go_simp
   refine hK4 _ _ ?_
   refine wpList_plain rfl fun K5 hK5=>?_
   go_simp
   refine hK5 _ _ ?_
   refine wpList_unguard' (by rfl) ?_
   refine wpList_plain rfl fun K6 hK6=>?_
   go_simp
   refine hK6 _ _ ?_
   refine wpList_unguard' (by rfl) ?_
   refine wpList_plain rfl fun K7 hK7=>?_
   go_simp
   refine hK7 _ _ ?_
   refine wpList_unguard' (by rfl) ?_
   refine wpList_plain rfl fun K8 hK8=>?_
   go_simp
   refine hK8 _ _ ?_
   refine wpList_unguard' (by rfl) ?_
   refine wpList_load_mid rfl 131 _ rfl b o rfl vs _ HR1.out Tryz.underlying131 rfl (infoPart' HVL.out) ?_
   go_wp2_with fail
   refine HEM.out.mono ?_
   rintro e w3 ⟨rfl,hE3⟩
   obtain ⟨HF3,HE3,HC3⟩:=Z3 (HF.out.ext hE3) (HE.out.trans' hE3) (HC.out.ext hE3)
   have hT3:=HT.out.ext hE3
   obtain ⟨b0,b1⟩:=X2 HF3.out
   obtain ⟨f0,f1⟩:=Y2 HF3.out
   have t1:=hT3.cell 1
   have t4:=hT3.cell 4
   have t6:=hT3.cell 6
   simp only [gA,gH,gS] at t1 t4 t6
   clear hE3 hT3
   go_wp2_with fail
   refine (Qk 19 a _).mono ?_
   rintro e w5 ⟨rfl,hE5⟩
   obtain ⟨HF5,HE5,HC5⟩:=Z3 (HF3.out.ext hE5) (HE3.out.trans' hE5) (HC3.out.ext hE5)
   obtain ⟨b0,b1⟩:=X2 HF5.out
   obtain ⟨f0,f1⟩:=Y2 HF5.out
   unfold Qe
   clear hE5
   go_wp2_with fail
   exact Qc (f:=(19,a)) (g:=gf) ((HF5.out.set_ 0 _).set_ 1 _) rfl rfl rfl ⟨by rw [HR.out],((Grw.of_ext HE5.out).set (.inl HLO.out) _).set (.inl HLO.out) _,by rw [HR.out]; exact (HC5.out.far HN.out.symm _).far HN.out.symm _⟩
  | true =>
   have HX2:=Qa (show R=if mo < 0∨1024 < mo then ((20,a),m) else CK by rw [HX.out,if_pos ⟨rfl,rfl⟩])
   by_cases c1:mo < 0
   ·have HR:=Qa (show R=((20,a),m) by rw [HX2.out,if_pos (.inl c1)])
    go_enter Tryz.func130,Tryz.ntmps130
    go_upto_region 1 with fail
    rw [← HW.out,← HGF.out,← HGT.out]
    refine wp_region_lit ?_
    refine wpList_plain rfl fun K1 hK1=>?_
    go_simp
    refine hK1 _ _ ?_
    refine wpList_plain rfl fun K2 hK2=>?_
    go_simp
    refine hK2 _ _ ?_
    refine wpList_plain rfl fun K3 hK3=>?_
    go_simp
    refine hK3 _ _ ?_
    refine wpList_plain rfl fun K4 hK4=>?_
    go_simp
    refine hK4 _ _ ?_
    refine wpList_plain rfl fun K5 hK5=>?_
    go_simp
    refine hK5 _ _ ?_
    refine wpList_unguard' (by rfl) ?_
    refine wpList_plain rfl fun K6 hK6=>?_
    go_simp
    refine hK6 _ _ ?_
    refine wpList_unguard' (by rfl) ?_
    refine wpList_plain rfl fun K7 hK7=>?_
    go_simp
    refine hK7 _ _ ?_
    refine wpList_unguard' (by rfl) ?_
    refine wpList_plain rfl fun K8 hK8=>?_
    go_simp
    refine hK8 _ _ ?_
    refine wpList_unguard' (by rfl) ?_
    refine wpList_load_mid rfl 131 _ rfl b o rfl vs _ HR1.out Tryz.underlying131 rfl (infoPart' HVL.out) ?_
    go_wp2_with fail
    refine HEM.out.mono ?_
    rintro e w3 ⟨rfl,hE3⟩
    obtain ⟨HF3,HE3,HC3⟩:=Z3 (HF.out.ext hE3) (HE.out.trans' hE3) (HC.out.ext hE3)
    have hT3:=HT.out.ext hE3
    obtain ⟨b0,b1⟩:=X2 HF3.out
    obtain ⟨f0,f1⟩:=Y2 HF3.out
    have t1:=hT3.cell 1
    have t4:=hT3.cell 4
    have t6:=hT3.cell 6
    simp only [gA,gH,gS] at t1 t4 t6
    clear hE3 hT3
    go_wp2_with fail
    refine (Qk 20 a _).mono ?_
    rintro e w5 ⟨rfl,hE5⟩
    obtain ⟨HF5,HE5,HC5⟩:=Z3 (HF3.out.ext hE5) (HE3.out.trans' hE5) (HC3.out.ext hE5)
    obtain ⟨b0,b1⟩:=X2 HF5.out
    obtain ⟨f0,f1⟩:=Y2 HF5.out
    unfold Qe
    clear hE5
    go_wp2_with fail
    exact Qc (f:=(20,a)) (g:=gf) ((HF5.out.set_ 0 _).set_ 1 _) rfl rfl rfl ⟨by rw [HR.out],((Grw.of_ext HE5.out).set (.inl HLO.out) _).set (.inl HLO.out) _,by rw [HR.out]; exact (HC5.out.far HN.out.symm _).far HN.out.symm _⟩
   by_cases c2:1024 < mo
   ·have HR:=Qa (show R=((20,a),m) by rw [HX2.out,if_pos (.inr c2)])
    go_enter Tryz.func130,Tryz.ntmps130
    go_upto_region 1 with fail
    rw [← HW.out,← HGF.out,← HGT.out]
    refine wp_region_lit ?_
    refine wpList_plain rfl fun K1 hK1=>?_
    go_simp
    refine hK1 _ _ ?_
    refine wpList_plain rfl fun K2 hK2=>?_
    go_simp
    refine hK2 _ _ ?_
    refine wpList_plain rfl fun K3 hK3=>?_
    go_simp
    refine hK3 _ _ ?_
    refine wpList_plain rfl fun K4 hK4=>?_
    go_simp
    refine hK4 _ _ ?_
    refine wpList_plain rfl fun K5 hK5=>?_
    go_simp
    refine hK5 _ _ ?_
    refine wpList_unguard' (by rfl) ?_
    refine wpList_plain rfl fun K6 hK6=>?_
    go_simp
    refine hK6 _ _ ?_
    refine wpList_unguard' (by rfl) ?_
    refine wpList_plain rfl fun K7 hK7=>?_
    go_simp
    refine hK7 _ _ ?_
    refine wpList_unguard' (by rfl) ?_
    refine wpList_plain rfl fun K8 hK8=>?_
    go_simp
    refine hK8 _ _ ?_
    refine wpList_unguard' (by rfl) ?_
    refine wpList_load_mid rfl 131 _ rfl b o rfl vs _ HR1.out Tryz.underlying131 rfl (infoPart' HVL.out) ?_
    go_wp2_with fail
    refine HEM.out.mono ?_
    rintro e w3 ⟨rfl,hE3⟩
    obtain ⟨HF3,HE3,HC3⟩:=Z3 (HF.out.ext hE3) (HE.out.trans' hE3) (HC.out.ext hE3)
    have hT3:=HT.out.ext hE3
    obtain ⟨b0,b1⟩:=X2 HF3.out
    obtain ⟨f0,f1⟩:=Y2 HF3.out
    have t1:=hT3.cell 1
    have t4:=hT3.cell 4
    have t6:=hT3.cell 6
    simp only [gA,gH,gS] at t1 t4 t6
    clear hE3 hT3
    go_wp2_with fail
    refine (Qk 20 a _).mono ?_
    rintro e w5 ⟨rfl,hE5⟩
    obtain ⟨HF5,HE5,HC5⟩:=Z3 (HF3.out.ext hE5) (HE3.out.trans' hE5) (HC3.out.ext hE5)
    obtain ⟨b0,b1⟩:=X2 HF5.out
    obtain ⟨f0,f1⟩:=Y2 HF5.out
    unfold Qe
    clear hE5
    go_wp2_with fail
    exact Qc (f:=(20,a)) (g:=gf) ((HF5.out.set_ 0 _).set_ 1 _) rfl rfl rfl ⟨by rw [HR.out],((Grw.of_ext HE5.out).set (.inl HLO.out) _).set (.inl HLO.out) _,by rw [HR.out]; exact (HC5.out.far HN.out.symm _).far HN.out.symm _⟩
   have HR:=Qa (show R=CK by rw [HX2.out,if_neg (fun hh=>hh.elim c1 c2)])
   go_enter Tryz.func130,Tryz.ntmps130
   go_upto_region 1 with fail
   rw [← HW.out,← HGF.out,← HGT.out]
   refine wp_region_lit ?_
   refine wpList_plain rfl fun K1 hK1=>?_
   go_simp
   refine hK1 _ _ ?_
   refine wpList_plain rfl fun K2 hK2=>?_
   go_simp
   refine hK2 _ _ ?_
   refine wpList_plain rfl fun K3 hK3=>?_
   go_simp
   refine hK3 _ _ ?_
   refine wpList_plain rfl fun K4 hK4=>?_
   go_simp
   refine hK4 _ _ ?_
   refine wpList_plain rfl fun K5 hK5=>?_
   go_simp
   refine hK5 _ _ ?_
   refine wpList_unguard' (by rfl) ?_
   refine wpList_plain rfl fun K6 hK6=>?_
   go_simp
   refine hK6 _ _ ?_
   refine wpList_unguard' (by rfl) ?_
   refine wpList_plain rfl fun K7 hK7=>?_
   go_simp
   refine hK7 _ _ ?_
   refine wpList_unguard' (by rfl) ?_
   refine wpList_plain rfl fun K8 hK8=>?_
   go_simp
   refine hK8 _ _ ?_
   refine wpList_unguard' (by rfl) ?_
   refine wpList_load_mid rfl 131 _ rfl b o rfl vs _ HR1.out Tryz.underlying131 rfl (infoPart' HVL.out) ?_
   go_wp2_with fail
   refine HEM.out.mono ?_
   rintro e w3 ⟨rfl,hE3⟩
   obtain ⟨HF3,HE3,HC3⟩:=Z3 (HF.out.ext hE3) (HE.out.trans' hE3) (HC.out.ext hE3)
   have hT3:=HT.out.ext hE3
   obtain ⟨b0,b1⟩:=X2 HF3.out
   obtain ⟨f0,f1⟩:=Y2 HF3.out
   have t1:=hT3.cell 1
   have t4:=hT3.cell 4
   have t6:=hT3.cell 6
   simp only [gA,gH,gS] at t1 t4 t6
   clear hE3 hT3
   go_upto_region 5 with fail
   have HRT3:=Qa (show w3.rangeAt b (o + 9) vt from fun j v hv=>(HE3.out.cell (p:=⟨b,o + 9 + j,none⟩) HB.out).trans (HRT.out j v hv))
   refine wp_region_lit ?_
   refine wpList_plain rfl fun K11 hK11=>?_
   go_simp
   refine hK11 _ _ ?_
   refine wpList_plain rfl fun K12 hK12=>?_
   go_simp
   refine hK12 _ _ ?_
   refine wpList_plain rfl fun K13 hK13=>?_
   go_simp
   refine hK13 _ _ ?_
   refine wpList_plain rfl fun K14 hK14=>?_
   go_simp
   refine hK14 _ _ ?_
   refine wpList_plain rfl fun K15 hK15=>?_
   go_simp
   refine hK15 _ _ ?_
   refine wpList_load_mid rfl 29 _ rfl b (o + 9) rfl vt _ HRT3.out Tryz.underlying29 rfl (infoTy' HTL.out) ?_
   go_wp2_with fail
   refine (HCHK.out _ HE3.out HC3.out).mono ?_
   rintro e w8 ⟨rfl,hE8,hC8⟩
   obtain ⟨⟨D1,D2⟩,D3⟩:=CK
   obtain ⟨HF8,HE8,HC8⟩:=Z3 (hE8.blk HF3.out HN.out) ((Grw.of_ext HE3.out).trans hE8) hC8
   obtain ⟨b0,b1⟩:=X2 HF8.out
   obtain ⟨f0,f1⟩:=Y2 HF8.out
   unfold Qe
   clear hE8 hC8
   go_wp2_with fail
   exact Qc (f:=(D1,D2)) (g:=gf) ((HF8.out.set_ 0 _).set_ 1 _) rfl rfl rfl ⟨by rw [HR.out],(HE8.out.set (.inl HLO.out) _).set (.inl HLO.out) _,by rw [HR.out]; exact (HC8.out.far HN.out.symm _).far HN.out.symm _⟩
 ·have HR:=Qa (show R=((19,a),m) by rw [HX.out,if_neg (fun hh=>hn hh.1)])
  have i0:((n:Int) != 1)=true:=by simp; omega
  clear hP hsz hsub hCK
  go_enter Tryz.func130,Tryz.ntmps130
  go_upto_region 1 with fail
  rw [← HW.out,← HGF.out,← HGT.out]
  go_wp2_with fail
  refine (Qk 19 a _).mono ?_
  rintro e w5 ⟨rfl,hE5⟩
  obtain ⟨HF5,HE5,HC5⟩:=Z3 (HF.out.ext hE5) (HE.out.trans' hE5) (HC.out.ext hE5)
  obtain ⟨b0,b1⟩:=X2 HF5.out
  obtain ⟨f0,f1⟩:=Y2 HF5.out
  unfold Qe
  clear hE5
  go_wp2_with fail
  exact Qc (f:=(19,a)) (g:=gf) ((HF5.out.set_ 0 _).set_ 1 _) rfl rfl rfl ⟨by rw [HR.out],((Grw.of_ext HE5.out).set (.inl HLO.out) _).set (.inl HLO.out) _,by rw [HR.out]; exact (HC5.out.far HN.out.symm _).far HN.out.symm _⟩
set_option maxRecDepth 100000 in
theorem Qpl (u:Bool) (q:PtH) (t:Ty) (d m:Int) (gc B:Nat) (w:World) (vs:List Value) (hbare:q.bare=true) (h:PartAt w B q t vs) (hs:Qo q.label) (hs2:Qo q.cl) (hst:Q1 t) (hBg:B≤gc) (hC:Blk w gc 180 #[.int .i64 m]) (hsub:Qe2 t (IntKind.i64.wrap (d + 1)) B) :
  Calls Tryz.prog 163 #[.pointer (some ⟨gc,0,none⟩),.agg vs.toArray,.bool u,.int .i64 d] w (Qa2 (Qa7 u q t (fun m=>chk t (IntKind.i64.wrap (d + 1)) m) m) gc w):=by
 have e1:=IntWalk.i64_left (d + 1)
 rw [e1] at hsub ⊢
 clear e1
 obtain ⟨Al,cl,Ac,cc,vt,hvs,hl,hc,ht⟩:=id h
 have hBw:B≤w.heap.size:=Nat.le_of_lt (Nat.lt_of_le_of_lt hBg hC.lt)
 have hpw:PartAt w w.heap.size q t vs:=h.more hBw
 have hlab:=fun w1 (hE:Ext w w1)=>Qfp Al cl q.label.length q.label w1 ((show WdsAt w w.heap.size Al q.label from Reads.more hl hBw).ext hE) rfl hs
 have hco:=fun w1 (hE:Ext w w1)=>Qh5 q t w1 vs (hpw.ext hE) hs2
 have hsame:=fun w1 (hE:Ext w w1)=>Qdy q (zPt q.name true) t zTy w1 vs (ptV (zPt q.name true) none 0 none 0 ++ zCells) (hpw.ext hE) (Qks _ _ _ _) hs hs2 hst Qep Qep Qh6
 have hchk:=fun w1 (hE:Ext w w1) (hC1:Blk w1 gc 180 #[.int .i64 m])=>hsub gc m w1 vt (ht.keep fun p hp=>hE.cell (Nat.lt_of_lt_of_le hp hBw)) hBg hC1
 have hvl:vs.length=18:=hpw.len
 have hvo:vs.toArray.all (·.oneCell')=true:=hpw.one
 have htl:vt.length=9:=by obtain ⟨y0,y1,y2,y3,y4,y5,y6,y7,y8,e⟩:=ht.nine; rw [e]; rfl
 obtain ⟨x0,x1,x2,x3,x4,x5,x6,x7,x8,hvt⟩:=ht.nine
 have hx:Qa7 u q t (fun m=>chk t (wrap64 (d + 1)) m) m=if q.bare=true then (if u=true∧Qdl q t=true then ((0,0),m) else ((19,q.name.2),m)) else if (Qb2 q).1≠0 then (Qb2 q,m) else chk t (wrap64 (d + 1)) m:=rfl
 have hpf:Qb2 q=if q.wide < 0∨64 < q.wide then (20,q.name.2) else if (Qah q.label).1=0 then Qcn q else Qah q.label:=rfl
 unfold Qdl at hx
 clear hl hc ht h hs hs2 hst hsub
 generalize (Qay q (zPt q.name true) && Qaq t zTy)=SB at hsame hx
 generalize Qb2 q=PF at hx hpf
 generalize Qah q.label=LF at hlab hpf
 generalize Qcn q=CF at hco hpf
 generalize hCK:chk t (wrap64 (d + 1)) m=CK at hx hchk
 clear hCK
 generalize hRR:Qa7 u q t (fun m=>chk t (wrap64 (d + 1)) m) m=R at hx ⊢
 clear hRR
 obtain ⟨nm,hnm,a,ha,br,hbr,nl,hnl,wi,hwi,ck,hck⟩:=V6 (q.name.1) (q.name.2) (q.bare) (q.label.length) (q.wide) (q.ck)
 obtain ⟨cn,hcn,ca,hca,nc,hnc⟩:=V3 (q.cn) (q.cat) (q.cl.length)
 have hve:vs.toArray=#[.string nm,.int .i64 a,.bool br,.slice Al nl cl,.int .i64 wi,.int .i64 ck,.int .i64 cn,.int .i64 ca,.slice Ac nc cc,x0,x1,x2,x3,x4,x5,x6,x7,x8]:=by rw [hvs,hvt,hnm,ha,hbr,hnl,hwi,hck,hcn,hca,hnc]; rfl
 have hze:(ptV (zPt q.name true) none 0 none 0 ++ zCells).toArray=#[.string nm,.int .i64 a,.bool true,.slice none 0 0,.int .i64 0,.int .i64 0,.int .i64 0,.int .i64 0,.slice none 0 0,.int .i64 0,.int .i64 0,.int .i64 0,.int .i64 0,.int .i64 0,.slice none 0 0,.slice none 0 0,.string ⟨#[]⟩,.int .i64 0]:=by rw [hnm,ha]; rfl
 rw [hze] at hsame
 rw [← ha,← hbr] at hx
 rw [← hwi,← ha] at hpf
 rw [← hnl] at hlab
 have hbb:=hbr.trans hbare
 clear hbare
 clear hze hnm ha hbr hnl hwi hck hcn hca hnc hpw
 obtain ⟨L1,L2⟩:=LF
 obtain ⟨C1,C2⟩:=CF
 obtain ⟨w0,hw0⟩:=V1 ((w.alloc (.cells #[.string nm,.int .i64 a,.bool br,.slice Al nl cl,.int .i64 wi,.int .i64 ck,.int .i64 cn,.int .i64 ca,.slice Ac nc cc,x0,x1,x2,x3,x4,x5,x6,x7,x8] 131)).alloc (.cells #[.int .i64 0,.int .i64 0] 34))
 have hP0:Blk w0 w.heap.size 131 #[.string nm,.int .i64 a,.bool br,.slice Al nl cl,.int .i64 wi,.int .i64 ck,.int .i64 cn,.int .i64 ca,.slice Ac nc cc,x0,x1,x2,x3,x4,x5,x6,x7,x8]:=by rw [hw0]; exact (Blk.new _ _ _).alloc _
 have hF0:Blk w0 (w.heap.size + 1) 34 #[.int .i64 0,.int .i64 0]:=by
  rw [hw0]; have:=Blk.new (w.alloc (.cells #[.string nm,.int .i64 a,.bool br,.slice Al nl cl,.int .i64 wi,.int .i64 ck,.int .i64 cn,.int .i64 ca,.slice Ac nc cc,x0,x1,x2,x3,x4,x5,x6,x7,x8] 131)) 34 #[.int .i64 0,.int .i64 0]; simpa only [World.size_alloc] using this
 have hE0:Ext w w0:=by rw [hw0]; exact ((Ext.rfl' w).alloc nL _).alloc (by simp only [World.size_alloc]; omega) _
 have hs0:w0.heap.size=w.heap.size + 2:=by rw [hw0]; simp only [World.size_alloc]
 obtain ⟨w1,hw1⟩:=V1 (w0.alloc (.cells #[.string nm,.int .i64 a,.bool true,.slice none 0 0,.int .i64 0,.int .i64 0,.int .i64 0,.int .i64 0,.slice none 0 0,.int .i64 0,.int .i64 0,.int .i64 0,.int .i64 0,.int .i64 0,.slice none 0 0,.slice none 0 0,.string ⟨#[]⟩,.int .i64 0] 131))
 have hP:Blk w1 w.heap.size 131 #[.string nm,.int .i64 a,.bool br,.slice Al nl cl,.int .i64 wi,.int .i64 ck,.int .i64 cn,.int .i64 ca,.slice Ac nc cc,x0,x1,x2,x3,x4,x5,x6,x7,x8]:=by rw [hw1]; exact hP0.alloc _
 have hF:Blk w1 (w.heap.size + 1) 34 #[.int .i64 0,.int .i64 0]:=by rw [hw1]; exact hF0.alloc _
 have hZ:=bN hw1
 have hE:Ext w w1:=by rw [hw1]; exact hE0.alloc hE0.size _
 have hC1:Blk w1 gc 180 #[.int .i64 m]:=hC.ext hE
 have hgl:=hC.lt
 have n1:w.heap.size + 1≠gc:=by omega
 have hlo:w.heap.size≤w.heap.size + 1:=Nat.le_succ _
 have hrg:w1.rangeAt w.heap.size 0 vs:=Qai (by rw [hve]; exact hP)
 have hzl:∃ zs:List Value,zs.toArray=#[.string nm,.int .i64 a,.bool true,.slice none 0 0,.int .i64 0,.int .i64 0,.int .i64 0,.int .i64 0,.slice none 0 0,.int .i64 0,.int .i64 0,.int .i64 0,.int .i64 0,.int .i64 0,.slice none 0 0,.slice none 0 0,.string ⟨#[]⟩,.int .i64 0]∧zs.length=18:=⟨[.string nm,.int .i64 a,.bool true,.slice none 0 0,.int .i64 0,.int .i64 0,.int .i64 0,.int .i64 0,.slice none 0 0,.int .i64 0,.int .i64 0,.int .i64 0,.int .i64 0,.int .i64 0,.slice none 0 0,.slice none 0 0,.string ⟨#[]⟩,.int .i64 0],rfl,rfl⟩
 obtain ⟨zs,hzs,hzl⟩:=hzl
 have hrz:w1.rangeAt w0.heap.size 0 zs:=Qai (by rw [hzs]; exact hZ)
 have hrt:w1.rangeAt w.heap.size 9 vt:=fun j v hv=>by
  have:=hrg (9 + j) v (by rw [hvs,List.getElem?_append_right (by show 9≤9 + j; omega)]; rw [show 9 + j - (ptV q Al cl Ac cc).length=j by show 9 + j - 9=j; omega]; exact hv)
  rwa [Nat.zero_add] at this
 rw [← hzs] at hsame
 clear hvt
 obtain ⟨gz,hgz,gf,hgf,gp,hgp⟩:=V3 (w0.heap.size) (w.heap.size + 1) (w.heap.size)
 rw [← hgf] at hF hF0 n1 hlo
 rw [← hgz] at hZ hrz
 rw [← hgp] at hP hP0 hrg hrt
 obtain ⟨z0,z1⟩:=X2 hP0
 obtain ⟨p0,p1,p2,p3,p4⟩:=X5 hP
 obtain ⟨b0,b1⟩:=X2 hF
 obtain ⟨f0,f1⟩:=Y2 hF
 obtain ⟨HVE,HX,HPF,HLAB,HCO,HSAME,HCHK,HVL⟩:=Z8 hve hx hpf hlab hco hsame hchk hvl
 obtain ⟨HTL,HZL,HZS,HRG,HRZ,HRT,HP,HF⟩:=Z8 htl hzl hzs hrg hrz hrt hP hF
 obtain ⟨HE,HC,HN,HLO,HW0,HW1,HGZ,HGF⟩:=Z8 hE hC1 n1 hlo hw0 hw1 hgz hgf
 have HGP:=Qa hgp
 rw [hve]
 clear hve hx hpf hlab hco hsame hchk hvl htl hzl hzs hrg hrz hrt hP hF hE hC1 n1 hlo hw0 hw1 hgz hgf hgp hP0 hF0 hE0 hs0 hZ hgl hC hBw hBg hvs hvo
 subst hbb
 ·cases u with
  | false =>
   have HR:=Qa (show R=((19,a),m) by rw [HX.out,if_pos rfl,if_neg (fun hh=>by cases hh.1)])
   go_enter Tryz.func163,Tryz.ntmps163
   go_upto_region 1 with fail
   rw [← HW0.out,← HGF.out,← HGP.out]
   refine wp_region_lit ?_
   refine wpList_plain rfl fun K1 hK1=>?_
   go_simp
   refine hK1 _ _ ?_
   refine wpList_plain rfl fun K2 hK2=>?_
   go_simp
   refine hK2 _ _ ?_
   refine wpList_plain rfl fun K3 hK3=>?_
   go_simp
   refine hK3 _ _ ?_
   refine wpList_plain rfl fun K4 hK4=>?_
   go_simp
   refine hK4 _ _ ?_
   refine Qd rfl 131 _ _ rfl _ #[.string nm,.int .i64 a,.bool true,.slice none 0 0,.int .i64 0,.int .i64 0,.int .i64 0,.int .i64 0,.slice none 0 0,.int .i64 0,.int .i64 0,.int .i64 0,.int .i64 0,.int .i64 0,.slice none 0 0,.slice none 0 0,.string ⟨#[]⟩,.int .i64 0] rfl rfl (by kernel_rfl) (by kernel_rfl) (by kernel_rfl) ?_
   rw [← HW1.out,← HGZ.out]
   clear z0 z1
   go_wp2_with fail
   refine (Qk 19 a _).mono ?_
   rintro e w5 ⟨rfl,hE5⟩
   obtain ⟨HF5,HE5,HC5⟩:=Z3 (HF.out.ext hE5) (HE.out.trans' hE5) (HC.out.ext hE5)
   obtain ⟨b0,b1⟩:=X2 HF5.out
   obtain ⟨f0,f1⟩:=Y2 HF5.out
   unfold Qe
   clear hE5
   go_wp2_with fail
   exact Qc (f:=(19,a)) (g:=gf) ((HF5.out.set_ 0 _).set_ 1 _) rfl rfl rfl ⟨by rw [HR.out],((Grw.of_ext HE5.out).set (.inl HLO.out) _).set (.inl HLO.out) _,by rw [HR.out]; exact (HC5.out.far HN.out.symm _).far HN.out.symm _⟩
  | true =>
   cases SB with
   | false =>
    have HR:=Qa (show R=((19,a),m) by rw [HX.out,if_pos rfl,if_neg (fun hh=>by cases hh.2)])
    go_enter Tryz.func163,Tryz.ntmps163
    go_upto_region 1 with fail
    rw [← HW0.out,← HGF.out,← HGP.out]
    refine wp_region_lit ?_
    refine wpList_plain rfl fun K1 hK1=>?_
    go_simp
    refine hK1 _ _ ?_
    refine wpList_plain rfl fun K2 hK2=>?_
    go_simp
    refine hK2 _ _ ?_
    refine wpList_plain rfl fun K3 hK3=>?_
    go_simp
    refine hK3 _ _ ?_
    refine wpList_plain rfl fun K4 hK4=>?_
    go_simp
    refine hK4 _ _ ?_
    refine Qd rfl 131 _ _ rfl _ #[.string nm,.int .i64 a,.bool true,.slice none 0 0,.int .i64 0,.int .i64 0,.int .i64 0,.int .i64 0,.slice none 0 0,.int .i64 0,.int .i64 0,.int .i64 0,.int .i64 0,.int .i64 0,.slice none 0 0,.slice none 0 0,.string ⟨#[]⟩,.int .i64 0] rfl rfl (by kernel_rfl) (by kernel_rfl) (by kernel_rfl) ?_
    rw [← HW1.out,← HGZ.out]
    clear z0 z1
    go_upto_region 2 with fail
    refine wp_region_lit ?_
    refine wpList_plain rfl fun K5 hK5=>?_
    go_simp
    refine hK5 _ _ ?_
    refine wpList_plain rfl fun K6 hK6=>?_
    go_simp
    refine hK6 _ _ ?_
    refine wpList_plain rfl fun K7 hK7=>?_
    go_simp
    refine hK7 _ _ ?_
    refine wpList_unguard' (by rfl) ?_
    refine wpList_plain rfl fun K8 hK8=>?_
    go_simp
    refine hK8 _ _ ?_
    refine wpList_unguard' (by rfl) ?_
    refine wpList_plain rfl fun K9 hK9=>?_
    go_simp
    refine hK9 _ _ ?_
    refine wpList_unguard' (by rfl) ?_
    refine wpList_plain rfl fun K10 hK10=>?_
    go_simp
    refine hK10 _ _ ?_
    refine wpList_unguard' (by rfl) ?_
    refine wpList_load_mid rfl 131 _ rfl gp 0 rfl vs _ HRG.out Tryz.underlying131 rfl (infoPart' HVL.out) ?_
    refine wpList_unguard' (by rfl) ?_
    refine wpList_load_mid rfl 131 _ rfl gz 0 rfl zs _ HRZ.out Tryz.underlying131 rfl (infoPart' HZL.out) ?_
    go_wp2_with fail
    refine (HSAME.out _ HE.out).mono ?_
    rintro e w3 ⟨rfl,hE3⟩
    obtain ⟨HF3,HE3,HC3⟩:=Z3 (HF.out.ext hE3) (HE.out.trans' hE3) (HC.out.ext hE3)
    have hP3:=HP.out.ext hE3
    obtain ⟨b0,b1⟩:=X2 HF3.out
    obtain ⟨f0,f1⟩:=Y2 HF3.out
    have p0:=hP3.cell 0
    have p1:=hP3.cell 1
    have p2:=hP3.cell 2
    simp only [gA,gH,gS] at p0 p1 p2
    clear hE3 hP3
    go_wp2_with fail
    refine (Qk 19 a _).mono ?_
    rintro e w5 ⟨rfl,hE5⟩
    obtain ⟨HF5,HE5,HC5⟩:=Z3 (HF3.out.ext hE5) (HE3.out.trans' hE5) (HC3.out.ext hE5)
    obtain ⟨b0,b1⟩:=X2 HF5.out
    obtain ⟨f0,f1⟩:=Y2 HF5.out
    unfold Qe
    clear hE5
    go_wp2_with fail
    exact Qc (f:=(19,a)) (g:=gf) ((HF5.out.set_ 0 _).set_ 1 _) rfl rfl rfl ⟨by rw [HR.out],((Grw.of_ext HE5.out).set (.inl HLO.out) _).set (.inl HLO.out) _,by rw [HR.out]; exact (HC5.out.far HN.out.symm _).far HN.out.symm _⟩
   | true =>
    have HR:=Qa (show R=((0,0),m) by rw [HX.out,if_pos rfl,if_pos ⟨rfl,rfl⟩])
    go_enter Tryz.func163,Tryz.ntmps163
    go_upto_region 1 with fail
    rw [← HW0.out,← HGF.out,← HGP.out]
    refine wp_region_lit ?_
    refine wpList_plain rfl fun K1 hK1=>?_
    go_simp
    refine hK1 _ _ ?_
    refine wpList_plain rfl fun K2 hK2=>?_
    go_simp
    refine hK2 _ _ ?_
    refine wpList_plain rfl fun K3 hK3=>?_
    go_simp
    refine hK3 _ _ ?_
    refine wpList_plain rfl fun K4 hK4=>?_
    go_simp
    refine hK4 _ _ ?_
    refine Qd rfl 131 _ _ rfl _ #[.string nm,.int .i64 a,.bool true,.slice none 0 0,.int .i64 0,.int .i64 0,.int .i64 0,.int .i64 0,.slice none 0 0,.int .i64 0,.int .i64 0,.int .i64 0,.int .i64 0,.int .i64 0,.slice none 0 0,.slice none 0 0,.string ⟨#[]⟩,.int .i64 0] rfl rfl (by kernel_rfl) (by kernel_rfl) (by kernel_rfl) ?_
    rw [← HW1.out,← HGZ.out]
    clear z0 z1
    go_upto_region 2 with fail
    refine wp_region_lit ?_
    refine wpList_plain rfl fun K5 hK5=>?_
    go_simp
    refine hK5 _ _ ?_
    refine wpList_plain rfl fun K6 hK6=>?_
    go_simp
    refine hK6 _ _ ?_
    refine wpList_plain rfl fun K7 hK7=>?_
    go_simp
    refine hK7 _ _ ?_
    refine wpList_unguard' (by rfl) ?_
    refine wpList_plain rfl fun K8 hK8=>?_
    go_simp
    refine hK8 _ _ ?_
    refine wpList_unguard' (by rfl) ?_
    refine wpList_plain rfl fun K9 hK9=>?_
    go_simp
    refine hK9 _ _ ?_
    refine wpList_unguard' (by rfl) ?_
    refine wpList_plain rfl fun K10 hK10=>?_
    go_simp
    refine hK10 _ _ ?_
    refine wpList_unguard' (by rfl) ?_
    refine wpList_load_mid rfl 131 _ rfl gp 0 rfl vs _ HRG.out Tryz.underlying131 rfl (infoPart' HVL.out) ?_
    refine wpList_unguard' (by rfl) ?_
    refine wpList_load_mid rfl 131 _ rfl gz 0 rfl zs _ HRZ.out Tryz.underlying131 rfl (infoPart' HZL.out) ?_
    go_wp2_with fail
    refine (HSAME.out _ HE.out).mono ?_
    rintro e w3 ⟨rfl,hE3⟩
    obtain ⟨HF3,HE3,HC3⟩:=Z3 (HF.out.ext hE3) (HE.out.trans' hE3) (HC.out.ext hE3)
    have hP3:=HP.out.ext hE3
    obtain ⟨b0,b1⟩:=X2 HF3.out
    obtain ⟨f0,f1⟩:=Y2 HF3.out
    have p0:=hP3.cell 0
    have p1:=hP3.cell 1
    have p2:=hP3.cell 2
    simp only [gA,gH,gS] at p0 p1 p2
    clear hE3 hP3
    go_wp2_with fail
    exact Qc (f:=(0,0)) (g:=gf) ((HF3.out.set_ 0 _).set_ 1 _) rfl rfl rfl ⟨by rw [HR.out],((Grw.of_ext HE3.out).set (.inl HLO.out) _).set (.inl HLO.out) _,by rw [HR.out]; exact (HC3.out.far HN.out.symm _).far HN.out.symm _⟩
set_option maxRecDepth 100000 in
theorem Qpm (u:Bool) (q:PtH) (t:Ty) (d m:Int) (gc B:Nat) (w:World) (vs:List Value) (hbare:q.bare=false) (h:PartAt w B q t vs) (hs:Qo q.label) (hs2:Qo q.cl) (hst:Q1 t) (hBg:B≤gc) (hC:Blk w gc 180 #[.int .i64 m]) (hsub:Qe2 t (IntKind.i64.wrap (d + 1)) B) :
  Calls Tryz.prog 163 #[.pointer (some ⟨gc,0,none⟩),.agg vs.toArray,.bool u,.int .i64 d] w (Qa2 (Qa7 u q t (fun m=>chk t (IntKind.i64.wrap (d + 1)) m) m) gc w):=by
 have e1:=IntWalk.i64_left (d + 1)
 rw [e1] at hsub ⊢
 clear e1
 obtain ⟨Al,cl,Ac,cc,vt,hvs,hl,hc,ht⟩:=id h
 have hBw:B≤w.heap.size:=Nat.le_of_lt (Nat.lt_of_le_of_lt hBg hC.lt)
 have hpw:PartAt w w.heap.size q t vs:=h.more hBw
 have hlab:=fun w1 (hE:Ext w w1)=>Qfp Al cl q.label.length q.label w1 ((show WdsAt w w.heap.size Al q.label from Reads.more hl hBw).ext hE) rfl hs
 have hco:=fun w1 (hE:Ext w w1)=>Qh5 q t w1 vs (hpw.ext hE) hs2
 have hsame:=fun w1 (hE:Ext w w1)=>Qdy q (zPt q.name true) t zTy w1 vs (ptV (zPt q.name true) none 0 none 0 ++ zCells) (hpw.ext hE) (Qks _ _ _ _) hs hs2 hst Qep Qep Qh6
 have hchk:=fun w1 (hE:Ext w w1) (hC1:Blk w1 gc 180 #[.int .i64 m])=>hsub gc m w1 vt (ht.keep fun p hp=>hE.cell (Nat.lt_of_lt_of_le hp hBw)) hBg hC1
 have hvl:vs.length=18:=hpw.len
 have hvo:vs.toArray.all (·.oneCell')=true:=hpw.one
 have htl:vt.length=9:=by obtain ⟨y0,y1,y2,y3,y4,y5,y6,y7,y8,e⟩:=ht.nine; rw [e]; rfl
 obtain ⟨x0,x1,x2,x3,x4,x5,x6,x7,x8,hvt⟩:=ht.nine
 have hx:Qa7 u q t (fun m=>chk t (wrap64 (d + 1)) m) m=if q.bare=true then (if u=true∧Qdl q t=true then ((0,0),m) else ((19,q.name.2),m)) else if (Qb2 q).1≠0 then (Qb2 q,m) else chk t (wrap64 (d + 1)) m:=rfl
 have hpf:Qb2 q=if q.wide < 0∨64 < q.wide then (20,q.name.2) else if (Qah q.label).1=0 then Qcn q else Qah q.label:=rfl
 unfold Qdl at hx
 clear hl hc ht h hs hs2 hst hsub
 generalize (Qay q (zPt q.name true) && Qaq t zTy)=SB at hsame hx
 generalize Qb2 q=PF at hx hpf
 generalize Qah q.label=LF at hlab hpf
 generalize Qcn q=CF at hco hpf
 generalize hCK:chk t (wrap64 (d + 1)) m=CK at hx hchk
 clear hCK
 generalize hRR:Qa7 u q t (fun m=>chk t (wrap64 (d + 1)) m) m=R at hx ⊢
 clear hRR
 obtain ⟨nm,hnm,a,ha,br,hbr,nl,hnl,wi,hwi,ck,hck⟩:=V6 (q.name.1) (q.name.2) (q.bare) (q.label.length) (q.wide) (q.ck)
 obtain ⟨cn,hcn,ca,hca,nc,hnc⟩:=V3 (q.cn) (q.cat) (q.cl.length)
 have hve:vs.toArray=#[.string nm,.int .i64 a,.bool br,.slice Al nl cl,.int .i64 wi,.int .i64 ck,.int .i64 cn,.int .i64 ca,.slice Ac nc cc,x0,x1,x2,x3,x4,x5,x6,x7,x8]:=by rw [hvs,hvt,hnm,ha,hbr,hnl,hwi,hck,hcn,hca,hnc]; rfl
 have hze:(ptV (zPt q.name true) none 0 none 0 ++ zCells).toArray=#[.string nm,.int .i64 a,.bool true,.slice none 0 0,.int .i64 0,.int .i64 0,.int .i64 0,.int .i64 0,.slice none 0 0,.int .i64 0,.int .i64 0,.int .i64 0,.int .i64 0,.int .i64 0,.slice none 0 0,.slice none 0 0,.string ⟨#[]⟩,.int .i64 0]:=by rw [hnm,ha]; rfl
 rw [hze] at hsame
 rw [← ha,← hbr] at hx
 rw [← hwi,← ha] at hpf
 rw [← hnl] at hlab
 have hbb:=hbr.trans hbare
 clear hbare
 clear hze hnm ha hbr hnl hwi hck hcn hca hnc hpw
 obtain ⟨L1,L2⟩:=LF
 obtain ⟨C1,C2⟩:=CF
 obtain ⟨w0,hw0⟩:=V1 ((w.alloc (.cells #[.string nm,.int .i64 a,.bool br,.slice Al nl cl,.int .i64 wi,.int .i64 ck,.int .i64 cn,.int .i64 ca,.slice Ac nc cc,x0,x1,x2,x3,x4,x5,x6,x7,x8] 131)).alloc (.cells #[.int .i64 0,.int .i64 0] 34))
 have hP0:Blk w0 w.heap.size 131 #[.string nm,.int .i64 a,.bool br,.slice Al nl cl,.int .i64 wi,.int .i64 ck,.int .i64 cn,.int .i64 ca,.slice Ac nc cc,x0,x1,x2,x3,x4,x5,x6,x7,x8]:=by rw [hw0]; exact (Blk.new _ _ _).alloc _
 have hF0:Blk w0 (w.heap.size + 1) 34 #[.int .i64 0,.int .i64 0]:=by
  rw [hw0]; have:=Blk.new (w.alloc (.cells #[.string nm,.int .i64 a,.bool br,.slice Al nl cl,.int .i64 wi,.int .i64 ck,.int .i64 cn,.int .i64 ca,.slice Ac nc cc,x0,x1,x2,x3,x4,x5,x6,x7,x8] 131)) 34 #[.int .i64 0,.int .i64 0]; simpa only [World.size_alloc] using this
 have hE0:Ext w w0:=by rw [hw0]; exact ((Ext.rfl' w).alloc nL _).alloc (by simp only [World.size_alloc]; omega) _
 have hs0:w0.heap.size=w.heap.size + 2:=by rw [hw0]; simp only [World.size_alloc]
 obtain ⟨w1,hw1⟩:=V1 (w0.alloc (.cells #[.string nm,.int .i64 a,.bool true,.slice none 0 0,.int .i64 0,.int .i64 0,.int .i64 0,.int .i64 0,.slice none 0 0,.int .i64 0,.int .i64 0,.int .i64 0,.int .i64 0,.int .i64 0,.slice none 0 0,.slice none 0 0,.string ⟨#[]⟩,.int .i64 0] 131))
 have hP:Blk w1 w.heap.size 131 #[.string nm,.int .i64 a,.bool br,.slice Al nl cl,.int .i64 wi,.int .i64 ck,.int .i64 cn,.int .i64 ca,.slice Ac nc cc,x0,x1,x2,x3,x4,x5,x6,x7,x8]:=by rw [hw1]; exact hP0.alloc _
 have hF:Blk w1 (w.heap.size + 1) 34 #[.int .i64 0,.int .i64 0]:=by rw [hw1]; exact hF0.alloc _
 have hZ:=bN hw1
 have hE:Ext w w1:=by rw [hw1]; exact hE0.alloc hE0.size _
 have hC1:Blk w1 gc 180 #[.int .i64 m]:=hC.ext hE
 have hgl:=hC.lt
 have n1:w.heap.size + 1≠gc:=by omega
 have hlo:w.heap.size≤w.heap.size + 1:=Nat.le_succ _
 have hrg:w1.rangeAt w.heap.size 0 vs:=Qai (by rw [hve]; exact hP)
 have hzl:∃ zs:List Value,zs.toArray=#[.string nm,.int .i64 a,.bool true,.slice none 0 0,.int .i64 0,.int .i64 0,.int .i64 0,.int .i64 0,.slice none 0 0,.int .i64 0,.int .i64 0,.int .i64 0,.int .i64 0,.int .i64 0,.slice none 0 0,.slice none 0 0,.string ⟨#[]⟩,.int .i64 0]∧zs.length=18:=⟨[.string nm,.int .i64 a,.bool true,.slice none 0 0,.int .i64 0,.int .i64 0,.int .i64 0,.int .i64 0,.slice none 0 0,.int .i64 0,.int .i64 0,.int .i64 0,.int .i64 0,.int .i64 0,.slice none 0 0,.slice none 0 0,.string ⟨#[]⟩,.int .i64 0],rfl,rfl⟩
 obtain ⟨zs,hzs,hzl⟩:=hzl
 have hrz:w1.rangeAt w0.heap.size 0 zs:=Qai (by rw [hzs]; exact hZ)
 have hrt:w1.rangeAt w.heap.size 9 vt:=fun j v hv=>by
  have:=hrg (9 + j) v (by rw [hvs,List.getElem?_append_right (by show 9≤9 + j; omega)]; rw [show 9 + j - (ptV q Al cl Ac cc).length=j by show 9 + j - 9=j; omega]; exact hv)
  rwa [Nat.zero_add] at this
 rw [← hzs] at hsame
 clear hvt
 obtain ⟨gz,hgz,gf,hgf,gp,hgp⟩:=V3 (w0.heap.size) (w.heap.size + 1) (w.heap.size)
 rw [← hgf] at hF hF0 n1 hlo
 rw [← hgz] at hZ hrz
 rw [← hgp] at hP hP0 hrg hrt
 obtain ⟨z0,z1⟩:=X2 hP0
 obtain ⟨p0,p1,p2,p3,p4⟩:=X5 hP
 obtain ⟨b0,b1⟩:=X2 hF
 obtain ⟨f0,f1⟩:=Y2 hF
 obtain ⟨HVE,HX,HPF,HLAB,HCO,HSAME,HCHK,HVL⟩:=Z8 hve hx hpf hlab hco hsame hchk hvl
 obtain ⟨HTL,HZL,HZS,HRG,HRZ,HRT,HP,HF⟩:=Z8 htl hzl hzs hrg hrz hrt hP hF
 obtain ⟨HE,HC,HN,HLO,HW0,HW1,HGZ,HGF⟩:=Z8 hE hC1 n1 hlo hw0 hw1 hgz hgf
 have HGP:=Qa hgp
 rw [hve]
 clear hve hx hpf hlab hco hsame hchk hvl htl hzl hzs hrg hrz hrt hP hF hE hC1 n1 hlo hw0 hw1 hgz hgf hgp hP0 hF0 hE0 hs0 hZ hgl hC hBw hBg hvs hvo
 subst hbb
 ·skip
  have HX2:=Qa (show R=if PF.1≠0 then (PF,m) else CK by rw [HX.out,if_neg (by decide)])
  by_cases c1:wi < 0
  ·have HP2:=Qa (show PF=(20,a) by rw [HPF.out]; exact if_pos (.inl c1))
   have HR:=Qa (show R=((20,a),m) by rw [HX2.out,HP2.out]; rfl)
   go_enter Tryz.func163,Tryz.ntmps163
   go_upto_region 1 with fail
   rw [← HW0.out,← HGF.out,← HGP.out]
   refine wp_region_lit ?_
   refine wpList_plain rfl fun K1 hK1=>?_
   go_simp
   refine hK1 _ _ ?_
   refine wpList_plain rfl fun K2 hK2=>?_
   go_simp
   refine hK2 _ _ ?_
   refine wpList_plain rfl fun K3 hK3=>?_
   go_simp
   refine hK3 _ _ ?_
   refine wpList_plain rfl fun K4 hK4=>?_
   go_simp
   refine hK4 _ _ ?_
   refine Qd rfl 131 _ _ rfl _ #[.string nm,.int .i64 a,.bool true,.slice none 0 0,.int .i64 0,.int .i64 0,.int .i64 0,.int .i64 0,.slice none 0 0,.int .i64 0,.int .i64 0,.int .i64 0,.int .i64 0,.int .i64 0,.slice none 0 0,.slice none 0 0,.string ⟨#[]⟩,.int .i64 0] rfl rfl (by kernel_rfl) (by kernel_rfl) (by kernel_rfl) ?_
   rw [← HW1.out,← HGZ.out]
   clear z0 z1
   go_wp2_with fail
   refine (Qk 20 a _).mono ?_
   rintro e w5 ⟨rfl,hE5⟩
   obtain ⟨HF5,HE5,HC5⟩:=Z3 (HF.out.ext hE5) (HE.out.trans' hE5) (HC.out.ext hE5)
   obtain ⟨b0,b1⟩:=X2 HF5.out
   obtain ⟨f0,f1⟩:=Y2 HF5.out
   unfold Qe
   clear hE5
   go_wp2_with fail
   exact Qc (f:=(20,a)) (g:=gf) ((HF5.out.set_ 0 _).set_ 1 _) rfl rfl rfl ⟨by rw [HR.out],((Grw.of_ext HE5.out).set (.inl HLO.out) _).set (.inl HLO.out) _,by rw [HR.out]; exact (HC5.out.far HN.out.symm _).far HN.out.symm _⟩
  by_cases c2:64 < wi
  ·have HP2:=Qa (show PF=(20,a) by rw [HPF.out]; exact if_pos (.inr c2))
   have HR:=Qa (show R=((20,a),m) by rw [HX2.out,HP2.out]; rfl)
   go_enter Tryz.func163,Tryz.ntmps163
   go_upto_region 1 with fail
   rw [← HW0.out,← HGF.out,← HGP.out]
   refine wp_region_lit ?_
   refine wpList_plain rfl fun K1 hK1=>?_
   go_simp
   refine hK1 _ _ ?_
   refine wpList_plain rfl fun K2 hK2=>?_
   go_simp
   refine hK2 _ _ ?_
   refine wpList_plain rfl fun K3 hK3=>?_
   go_simp
   refine hK3 _ _ ?_
   refine wpList_plain rfl fun K4 hK4=>?_
   go_simp
   refine hK4 _ _ ?_
   refine Qd rfl 131 _ _ rfl _ #[.string nm,.int .i64 a,.bool true,.slice none 0 0,.int .i64 0,.int .i64 0,.int .i64 0,.int .i64 0,.slice none 0 0,.int .i64 0,.int .i64 0,.int .i64 0,.int .i64 0,.int .i64 0,.slice none 0 0,.slice none 0 0,.string ⟨#[]⟩,.int .i64 0] rfl rfl (by kernel_rfl) (by kernel_rfl) (by kernel_rfl) ?_
   rw [← HW1.out,← HGZ.out]
   clear z0 z1
   go_wp2_with fail
   refine (Qk 20 a _).mono ?_
   rintro e w5 ⟨rfl,hE5⟩
   obtain ⟨HF5,HE5,HC5⟩:=Z3 (HF.out.ext hE5) (HE.out.trans' hE5) (HC.out.ext hE5)
   obtain ⟨b0,b1⟩:=X2 HF5.out
   obtain ⟨f0,f1⟩:=Y2 HF5.out
   unfold Qe
   clear hE5
   go_wp2_with fail
   exact Qc (f:=(20,a)) (g:=gf) ((HF5.out.set_ 0 _).set_ 1 _) rfl rfl rfl ⟨by rw [HR.out],((Grw.of_ext HE5.out).set (.inl HLO.out) _).set (.inl HLO.out) _,by rw [HR.out]; exact (HC5.out.far HN.out.symm _).far HN.out.symm _⟩
  have HP2:=Qa (show PF=if L1=0 then (C1,C2) else (L1,L2) by rw [HPF.out]; exact if_neg (fun hh=>hh.elim c1 c2))
  by_cases c3:L1=0
  ·have HP3:=Qa (show PF=(C1,C2) by rw [HP2.out]; exact if_pos c3)
   subst c3
   go_enter Tryz.func163,Tryz.ntmps163
   go_upto_region 1 with fail
   rw [← HW0.out,← HGF.out,← HGP.out]
   refine wp_region_lit ?_
   refine wpList_plain rfl fun K1 hK1=>?_
   go_simp
   refine hK1 _ _ ?_
   refine wpList_plain rfl fun K2 hK2=>?_
   go_simp
   refine hK2 _ _ ?_
   refine wpList_plain rfl fun K3 hK3=>?_
   go_simp
   refine hK3 _ _ ?_
   refine wpList_plain rfl fun K4 hK4=>?_
   go_simp
   refine hK4 _ _ ?_
   refine Qd rfl 131 _ _ rfl _ #[.string nm,.int .i64 a,.bool true,.slice none 0 0,.int .i64 0,.int .i64 0,.int .i64 0,.int .i64 0,.slice none 0 0,.int .i64 0,.int .i64 0,.int .i64 0,.int .i64 0,.int .i64 0,.slice none 0 0,.slice none 0 0,.string ⟨#[]⟩,.int .i64 0] rfl rfl (by kernel_rfl) (by kernel_rfl) (by kernel_rfl) ?_
   rw [← HW1.out,← HGZ.out]
   clear z0 z1
   go_wp2_with fail
   refine (HLAB.out _ HE.out).mono ?_
   rintro e w3 ⟨rfl,hE3⟩
   have hE3n:=hE3.alloc hE3.size (.cells #[.int .i64 0,.int .i64 L2] 34)
   obtain ⟨w4,hw4⟩:=V1 (w3.alloc (.cells #[.int .i64 0,.int .i64 L2] 34))
   rw [← hw4] at hE3n
   have hl4:=bN hw4
   obtain ⟨g3,hg3⟩:=V1 (w3.heap.size)
   rw [← hg3] at hl4
   obtain ⟨HF4,HE4,HC4,HP4⟩:=Z4 (HF.out.ext hE3n) (HE.out.trans' hE3n) (HC.out.ext hE3n) (HP.out.ext hE3n)
   obtain ⟨b0,b1⟩:=X2 HF4.out
   obtain ⟨f0,f1⟩:=Y2 HF4.out
   have u0:=hl4.cell 0
   have u1:=hl4.cell 1
   simp only [gA,gH,gS] at u0 u1
   have HRT4:=Qa (show w4.rangeAt gp 9 vt from fun j v hv=>(hE3n.cell (p:=⟨gp,9 + j,none⟩) HP.out.lt).trans (HRT.out j v hv))
   have HRG4:=Qa (show w4.rangeAt gp 0 vs from Qai (by rw [HVE.out]; exact HP4.out))
   obtain ⟨HW4,HG3⟩:=Z2 hw4 hg3
   clear hE3 hE3n hw4 hg3 hl4 p0 p1 p2 p3 p4
   unfold Qe
   go_upto_region 9 with fail
   rw [← HW4.out,← HG3.out]
   go_upto_region 11 with fail
   refine wp_region_lit ?_
   refine wpList_load_mid rfl 131 _ rfl gp 0 rfl vs _ HRG4.out Tryz.underlying131 rfl (infoPart' HVL.out) ?_
   go_wp2_with fail
   refine (HCO.out _ HE4.out).mono ?_
   rintro e w6 ⟨rfl,hE6⟩
   have hE6n:=hE6.alloc hE6.size (.cells #[.int .i64 C1,.int .i64 C2] 34)
   obtain ⟨w7,hw7⟩:=V1 (w6.alloc (.cells #[.int .i64 C1,.int .i64 C2] 34))
   rw [← hw7] at hE6n
   have hl7:=bN hw7
   obtain ⟨g6,hg6⟩:=V1 (w6.heap.size)
   rw [← hg6] at hl7
   obtain ⟨HF7,HE7,HC7,HP7⟩:=Z4 (HF4.out.ext hE6n) (HE4.out.trans' hE6n) (HC4.out.ext hE6n) (HP4.out.ext hE6n)
   obtain ⟨b0,b1⟩:=X2 HF7.out
   obtain ⟨f0,f1⟩:=Y2 HF7.out
   have u0:=hl7.cell 0
   have u1:=hl7.cell 1
   simp only [gA,gH,gS] at u0 u1
   have hrt7:w7.rangeAt gp 9 vt:=fun j v hv=>(hE6n.cell (p:=⟨gp,9 + j,none⟩) HP4.out.lt).trans (HRT4.out j v hv)
   obtain ⟨HRT7,HW7,HG6⟩:=Z3 hrt7 hw7 hg6
   clear hE6 hE6n hw7 hg6 hl7 hrt7
   unfold Qe
   go_upto_region 12 with fail
   rw [← HW7.out,← HG6.out]
   by_cases c4:C1=0
   ·have HR:=Qa (show R=CK by rw [HX2.out,HP3.out]; exact if_neg (fun hh=>hh c4))
    subst c4
    go_upto_region 14 with fail
    refine wp_region_lit ?_
    refine wpList_plain rfl fun K5 hK5=>?_
    go_simp
    refine hK5 _ _ ?_
    refine wpList_plain rfl fun K6 hK6=>?_
    go_simp
    refine hK6 _ _ ?_
    refine wpList_load_mid rfl 29 _ rfl gp 9 rfl vt _ HRT7.out Tryz.underlying29 rfl (infoTy' HTL.out) ?_
    go_wp2_with fail
    refine (HCHK.out _ HE7.out HC7.out).mono ?_
    rintro e w8 ⟨rfl,hE8,hC8⟩
    obtain ⟨⟨D1,D2⟩,D3⟩:=CK
    obtain ⟨HF8,HE8,HC8⟩:=Z3 (hE8.blk HF7.out HN.out) ((Grw.of_ext HE7.out).trans hE8) hC8
    obtain ⟨b0,b1⟩:=X2 HF8.out
    obtain ⟨f0,f1⟩:=Y2 HF8.out
    unfold Qe
    clear hE8 hC8
    go_wp2_with fail
    exact Qc (f:=(D1,D2)) (g:=gf) ((HF8.out.set_ 0 _).set_ 1 _) rfl rfl rfl ⟨by rw [HR.out],(HE8.out.set (.inl HLO.out) _).set (.inl HLO.out) _,by rw [HR.out]; exact (HC8.out.far HN.out.symm _).far HN.out.symm _⟩
   ·have HR:=Qa (show R=((C1,C2),m) by rw [HX2.out,HP3.out]; exact if_pos c4)
    have j0:(C1 == 0)=false:=by simpa using c4
    go_wp2_with fail
    exact Qc (f:=(C1,C2)) (g:=gf) ((HF7.out.set_ 0 _).set_ 1 _) rfl rfl rfl ⟨by rw [HR.out],((Grw.of_ext HE7.out).set (.inl HLO.out) _).set (.inl HLO.out) _,by rw [HR.out]; exact (HC7.out.far HN.out.symm _).far HN.out.symm _⟩
  ·have HP3:=Qa (show PF=(L1,L2) by rw [HP2.out]; exact if_neg c3)
   have HR:=Qa (show R=((L1,L2),m) by rw [HX2.out,HP3.out]; exact if_pos c3)
   have j0:(L1 == 0)=false:=by simpa using c3
   go_enter Tryz.func163,Tryz.ntmps163
   go_upto_region 1 with fail
   rw [← HW0.out,← HGF.out,← HGP.out]
   refine wp_region_lit ?_
   refine wpList_plain rfl fun K1 hK1=>?_
   go_simp
   refine hK1 _ _ ?_
   refine wpList_plain rfl fun K2 hK2=>?_
   go_simp
   refine hK2 _ _ ?_
   refine wpList_plain rfl fun K3 hK3=>?_
   go_simp
   refine hK3 _ _ ?_
   refine wpList_plain rfl fun K4 hK4=>?_
   go_simp
   refine hK4 _ _ ?_
   refine Qd rfl 131 _ _ rfl _ #[.string nm,.int .i64 a,.bool true,.slice none 0 0,.int .i64 0,.int .i64 0,.int .i64 0,.int .i64 0,.slice none 0 0,.int .i64 0,.int .i64 0,.int .i64 0,.int .i64 0,.int .i64 0,.slice none 0 0,.slice none 0 0,.string ⟨#[]⟩,.int .i64 0] rfl rfl (by kernel_rfl) (by kernel_rfl) (by kernel_rfl) ?_
   rw [← HW1.out,← HGZ.out]
   clear z0 z1
   go_wp2_with fail
   refine (HLAB.out _ HE.out).mono ?_
   rintro e w3 ⟨rfl,hE3⟩
   have hE3n:=hE3.alloc hE3.size (.cells #[.int .i64 L1,.int .i64 L2] 34)
   obtain ⟨w4,hw4⟩:=V1 (w3.alloc (.cells #[.int .i64 L1,.int .i64 L2] 34))
   rw [← hw4] at hE3n
   have hl4:=bN hw4
   obtain ⟨g3,hg3⟩:=V1 (w3.heap.size)
   rw [← hg3] at hl4
   obtain ⟨HF4,HE4,HC4,HP4⟩:=Z4 (HF.out.ext hE3n) (HE.out.trans' hE3n) (HC.out.ext hE3n) (HP.out.ext hE3n)
   obtain ⟨b0,b1⟩:=X2 HF4.out
   obtain ⟨f0,f1⟩:=Y2 HF4.out
   have u0:=hl4.cell 0
   have u1:=hl4.cell 1
   simp only [gA,gH,gS] at u0 u1
   have HRT4:=Qa (show w4.rangeAt gp 9 vt from fun j v hv=>(hE3n.cell (p:=⟨gp,9 + j,none⟩) HP.out.lt).trans (HRT.out j v hv))
   have HRG4:=Qa (show w4.rangeAt gp 0 vs from Qai (by rw [HVE.out]; exact HP4.out))
   obtain ⟨HW4,HG3⟩:=Z2 hw4 hg3
   clear hE3 hE3n hw4 hg3 hl4 p0 p1 p2 p3 p4
   unfold Qe
   go_upto_region 9 with fail
   rw [← HW4.out,← HG3.out]
   go_wp2_with fail
   exact Qc (f:=(L1,L2)) (g:=gf) ((HF4.out.set_ 0 _).set_ 1 _) rfl rfl rfl ⟨by rw [HR.out],((Grw.of_ext HE4.out).set (.inl HLO.out) _).set (.inl HLO.out) _,by rw [HR.out]; exact (HC4.out.far HN.out.symm _).far HN.out.symm _⟩
theorem Qku (u:Bool) (q:PtH) (t:Ty) (d m:Int) (gc B:Nat) (w:World) (vs:List Value) (h:PartAt w B q t vs) (hs:Qo q.label) (hs2:Qo q.cl) (hst:Q1 t) (hBg:B≤gc) (hC:Blk w gc 180 #[.int .i64 m]) (hsub:Qe2 t (IntKind.i64.wrap (d + 1)) B) :
  Calls Tryz.prog 163 #[.pointer (some ⟨gc,0,none⟩),.agg vs.toArray,.bool u,.int .i64 d] w (Qa2 (Qa7 u q t (fun m=>chk t (IntKind.i64.wrap (d + 1)) m) m) gc w):=by
 cases hb:q.bare with
 | true=>exact Qpl u q t d m gc B w vs hb h hs hs2 hst hBg hC hsub
 | false=>exact Qpm u q t d m gc B w vs hb h hs hs2 hst hBg hC hsub
theorem Qda {w:World} {g:Nat} {t:TypeId} {vs:List Value} (h:Blk w g t vs.toArray) {j:Nat} {v:Value} (hv:vs[j]? = some v):w.cell? ⟨g,j,none⟩=some v:=by
 rw [h.cell]; simpa using hv
theorem Grw.append {gc base size n:Nat} {e:TypeId} {v:Value} {xs:List Value} {w0 w1 w3 wr:World} (h:Grw gc w0 w1) (hg:w1.grownBy w3 v.ownBlock) (hO:wr.ownsRow base e size v n xs) (hb:w0.heap.size≤base):Grw gc w0 w3 :=
 ⟨h.os |> fun q=>hg.os.trans q,hg.tape.trans h.tape,hg.output.trans h.output,Nat.le_trans h.size hg.size,fun i hi hr=>(hg.block i (Nat.lt_of_lt_of_le hi h.size) (fun e=>by have:=hO.lt i e.symm; omega)).trans (h.block i hi hr)⟩
theorem Qmu {gc base size n:Nat} {e:TypeId} {v:Value} {xs:List Value} {w w':World} (hO:w.ownsRow base e size v n xs) (h:Grw gc w w') (hb:gc < base):w'.ownsRow base e size v n xs :=
 hO.kept h (.inr fun e=>by have:=hO.lt gc e; omega)
theorem Qny {u:Bool} {q:PtH} {t:Ty} {sub:Int→Wr} {m:Int} (hs:∀ m',(sub m').1.1=0→(sub m').1=(0,0)) (h:(Qa7 u q t sub m).1.1=0):(Qa7 u q t sub m).1=(0,0):=by
 unfold Qa7 at h ⊢
 split
 ·rw [if_pos (by assumption)] at h
  split
  ·rfl
  ·rw [if_neg (by assumption)] at h; cases h
 ·rw [if_neg (by assumption)] at h
  split
  ·rw [if_pos (by assumption)] at h; contradiction
  ·rw [if_neg (by assumption)] at h; exact hs _ h
theorem Qfq {k:Int} {n:Nat} {p:Nat→PtH} {t:Nat→Ty} {sub:Nat→Int→Wr} {i:Nat} {m:Int} (h:listE (Qh n p) i≠0):Qba k n p t sub i m=((listE (Qh n p) i,(p i).name.2),m):=if_pos h
theorem Qe3 {k:Int} {n:Nat} {p:Nat→PtH} {t:Nat→Ty} {sub:Nat→Int→Wr} {i:Nat} {m:Int} (u:Bool) (hu:u=true↔k=8) (h:listE (Qh n p) i=0):Qba k n p t sub i m=Qa7 u (p i) (t i) (sub i) m:=by
 unfold Qba Qa7
 rw [if_neg (show ¬ listE (Qh n p) i≠0 from fun hh=>hh h)]
 simp only [hu]
theorem Qgn (n:Nat) (p:Nat→PtH):Qh (n + 1) p=Qh n p ++ [(p n).name.1]:=by simp [Qh,List.range_succ]
theorem Qh7 {k:Int} {n:Nat} {p:Nat→PtH} {t:Nat→Ty} {d1:Int} {i:Nat} {m:Int} (h:(Qba k n p t (fun i m'=>chk (t i) d1 m') i m).1.1=0):(Qba k n p t (fun i m'=>chk (t i) d1 m') i m).1=(0,0):=by
 by_cases hl:listE (Qh n p) i=0
 ·rw [Qe3 (decide (k=8)) (by simp) hl] at h ⊢
  exact Qny (fun m' e=>Qqv (t i) e) h
 ·rw [Qfq hl] at h; exact absurd h hl
set_option maxRecDepth 100000 in
theorem Qsg (a lo hi mo s1:Int) (s0:ByteArray) (nn cn cp n:Nat) (An Ap:Option Addr) (p:Nat→PtH) (t:Nat→Ty) (d m:Int) (gc B:Nat) (w:World) (hP:PartsAt w B Ap n p t) (hsz:∀ i,i < n→(p i).name.1.size≤maxLen∧Qo (p i).label∧Qo (p i).cl∧Q1 (t i)) (hBg:B≤gc) (hC:Blk w gc 180 #[.int .i64 m]) (hsub:∀ i,i < n→Qe2 (t i) (IntKind.i64.wrap (d + 1)) B) :
  Calls Tryz.prog 131 #[.pointer (some ⟨gc,0,none⟩),.agg #[.int .i64 7,.int .i64 a,.int .i64 lo,.int .i64 hi,.int .i64 mo,.slice An nn cn,.slice Ap n cp,.string s0,.int .i64 s1],.int .i64 d] w (Qa2 (if 64 < n then ((8,(p 64).name.2),m) else goTo (Qba 7 n p t (fun i m'=>chk (t i) (IntKind.i64.wrap (d + 1)) m')) n m) gc w):=by
 have e1:=IntWalk.i64_left (d + 1)
 rw [e1] at hsub ⊢
 clear e1
 obtain ⟨w0,hw0⟩:=V1 ((w.alloc (.cells #[.int .i64 7,.int .i64 a,.int .i64 lo,.int .i64 hi,.int .i64 mo,.slice An nn cn,.slice Ap n cp,.string s0,.int .i64 s1] 29)).alloc (.cells #[.int .i64 0,.int .i64 0] 34))
 have hT:Blk w0 w.heap.size 29 #[.int .i64 7,.int .i64 a,.int .i64 lo,.int .i64 hi,.int .i64 mo,.slice An nn cn,.slice Ap n cp,.string s0,.int .i64 s1]:=by rw [hw0]; exact (Blk.new _ _ _).alloc _
 have hF:Blk w0 (w.heap.size + 1) 34 #[.int .i64 0,.int .i64 0]:=by
  rw [hw0]; have:=Blk.new (w.alloc (.cells #[.int .i64 7,.int .i64 a,.int .i64 lo,.int .i64 hi,.int .i64 mo,.slice An nn cn,.slice Ap n cp,.string s0,.int .i64 s1] 29)) 34 #[.int .i64 0,.int .i64 0]; simpa only [World.size_alloc] using this
 have hE:Ext w w0:=by rw [hw0]; exact ((Ext.rfl' w).alloc nL _).alloc (by simp only [World.size_alloc]; omega) _
 have hS:w0.heap.size=w.heap.size + 2:=by rw [hw0]; simp only [World.size_alloc]
 have hC1:Blk w0 gc 180 #[.int .i64 m]:=hC.ext hE
 have hgl:=hC.lt
 have hBw:B≤w.heap.size:=Nat.le_of_lt (Nat.lt_of_le_of_lt hBg hgl)
 have n1:w.heap.size + 1≠gc:=by omega
 have n2:w.heap.size≠gc:=by omega
 have hlo:w.heap.size≤w.heap.size + 1:=Nat.le_succ _
 have hP0:PartsAt w0 B Ap n p t:=hP.keep fun q hq=>hE.cell (Nat.lt_of_lt_of_le hq hBw)
 have hBw0:B≤w0.heap.size:=Nat.le_trans hBw hE.size
 have hgc0:gc < w0.heap.size:=Nat.lt_of_lt_of_le hgl hE.size
 obtain ⟨gf,hgf,gt,hgt⟩:=V2 (w.heap.size + 1) (w.heap.size)
 rw [← hgf] at hF hlo n1
 rw [← hgt] at hT n2
 obtain ⟨HW,HGF,HGT,HF,HE,HC,HT,HN⟩:=Z8 hw0 hgf hgt hF hE hC1 hT n1
 obtain ⟨HN2,HLO,HBW,HBG,HGC⟩:=Z5 n2 hlo hBw0 hBg hgc0
 obtain ⟨b0,b1⟩:=X2 HF.out
 obtain ⟨f0,f1⟩:=Y2 HF.out
 have t0:=hT.cell 0
 have t1:=hT.cell 1
 have t6:=hT.cell 6
 simp only [gA,gH,gS] at t0 t1 t6
 clear hw0 hF hE hC1 hT n1 n2 hlo hgf hgt hS hBw hBg hgl hC hP hBw0 hgc0
 by_cases c1:64 < n
 ·obtain ⟨R,hR⟩:∃ R:Wr,R=((8,(p 64).name.2),m):=⟨_,rfl⟩
  rw [if_pos c1,← hR]
  obtain ⟨b,o,rfl,hbs,_⟩:=hP0 (by omega)
  obtain ⟨_,d1⟩:=Qje hP0 rfl c1
  obtain ⟨x,hx⟩:=V1 ((p 64).name.2)
  rw [← hx] at d1 hR
  have HR:=Qa hR
  have i0:((n:Int) == 0)=false:=by simp; omega
  have i1:(64:Int) < (n:Int):=by omega
  clear hP0 hsz hsub hR hx hbs
  go_enter Tryz.func131,Tryz.ntmps131
  go_upto_region 1 with fail
  rw [← HW.out,← HGF.out,← HGT.out]
  go_wp2_with fail
  refine (Qk 8 x _).mono ?_
  rintro e w5 ⟨rfl,hE5⟩
  obtain ⟨HF5,HE5,HC5⟩:=Z3 (HF.out.ext hE5) (HE.out.trans' hE5) (HC.out.ext hE5)
  obtain ⟨b0,b1⟩:=X2 HF5.out
  obtain ⟨f0,f1⟩:=Y2 HF5.out
  unfold Qe
  clear hE5
  go_wp2_with fail
  exact Qc (f:=(8,x)) (g:=gf) ((HF5.out.set_ 0 _).set_ 1 _) rfl rfl rfl ⟨by rw [HR.out],((Grw.of_ext HE5.out).set (.inl HLO.out) _).set (.inl HLO.out) _,by rw [HR.out]; exact (HC5.out.far HN.out.symm _).far HN.out.symm _⟩
 rw [if_neg c1]
 obtain ⟨g,hg⟩:=V1 (Qba 7 n p t (fun i m'=>chk (t i) (wrap64 (d + 1)) m'))
 rw [← hg]
 obtain ⟨HSTEP,HBAD⟩:=Z2 (fun k m' (hl:listE (Qh n p) k=0)=>(show g k m'=Qa7 false (p k) (t k) (fun m=>chk (t k) (wrap64 (d + 1)) m) m' by rw [hg]; exact Qe3 false (by decide) hl)) (fun k m' (hl:listE (Qh n p) k≠0)=>(show g k m'=((listE (Qh n p) k,(p k).name.2),m') by rw [hg]; exact Qfq hl))
 have hz:∀ i m',i < n→(g i m').1.1=0→(g i m').1=(0,0):=fun i m' _ e=>by rw [hg] at e ⊢; exact Qh7 e
 obtain ⟨HZ,HPP,HSZ,HSUB⟩:=Z4 (fun (h:(goTo g n m).1.1=0)=>Qfi hz nL h) hP0 hsz hsub
 have i0:((n:Int) == 0)=false∨n=0:=by by_cases h:n=0; exact .inr h; exact .inl (by simp; omega)
 have i1:¬ (64:Int) < (n:Int):=by omega
 have H64:=Qa c1
 obtain ⟨base,hbase⟩:=V1 (w0.heap.size)
 have HBASE:=Qa hbase
 clear hg hz hP0 hsz hsub c1 hbase
 clear i0
 go_enter Tryz.func131,Tryz.ntmps131
 go_upto_region 1 with fail
 rw [← HW.out,← HGF.out,← HGT.out]
 go_wp2_with fail
 go_loopw [40,7] (fun i o wr=>∃ (k:Nat) (Ao:Option Addr) (co:Nat),k≤n∧i = .int .i64 k∧o = .slice Ao k co∧Grw gc w0 wr∧(goTo g k m).1.1=0∧Blk wr gc 180 #[.int .i64 (goTo g k m).2]∧wr.ownsRow base 9 1 (.slice Ao k co) k (Qi (Qh k p))∧Hid (∀ j,j < k→listE (Qh n p) j=0)) (fun i _ _=>n - (intOf i).toNat)
 case atStart=>exact ⟨0,none,0,Nat.zero_le _,rfl,rfl,.of_ext (Ext.rfl' _),rfl,HC.out,World.ownsRow_nil _ _ _ _,fun j hj=>absurd hj (by omega)⟩
 case round =>
  obtain ⟨k,Ao,co,hk,rfl,rfl,hG,hgo,hCk,hO,HA⟩:=hrel
  obtain ⟨HO,HCK,HG,HGO⟩:=Z4 hO hCk hG hgo
  have hbs0:base≤wr.heap.size:=by rw [HBASE.out]; exact hG.sz
  by_cases hlt:k < n
  ·have hkn:k < (Qh n p).length:=by rw [Qa8]; exact hlt
   obtain ⟨b,o,rfl,hbs,hcell⟩:=HPP.out (by omega)
   obtain ⟨vs,hr0,hpa⟩:=hcell k hlt
   have hs:=HSZ.out k hlt
   have hcells:=hG.cells HBW.out HBG.out
   have hr1:wr.rangeAt b (o + k * 18) vs:=fun j v hv=>(hcells ⟨b,o + k * 18 + j,none⟩ hbs).trans (hr0 j v hv)
   have hvl:vs.length=18:=hpa.len
   have hvo:vs.toArray.all (·.oneCell')=true:=hpa.one
   have hv0:vs[0]? = some (.string (p k).name.1):=by obtain ⟨Al,cl,Ac,cc,vt,rfl,_⟩:=hpa; rfl
   have hv1:vs[1]? = some (.int .i64 (p k).name.2):=by obtain ⟨Al,cl,Ac,cc,vt,rfl,_⟩:=hpa; rfl
   have hne:=Qeh hkn (p k).name.2 HA.out
   have HST:=Qa (fun hh=>Qa4 HA.out (show listE (Qh n p) k=0 from hh))
   have hst:=Qgn k p
   have htk:(Qh n p).take (k + 1)=Qh (k + 1) p:=Qgi hlt
   rw [htk] at hne
   have hgd:(Qh (k + 1) p).getD k ⟨#[]⟩=(p k).name.1:=by
    rw [List.getD_eq_getElem?_getD,List.getElem?_eq_getElem (by rw [Qa8]; exact Nat.lt_succ_self k),Qi8]; rfl
   have hxs:=hs.1
   rw [← hgd] at hxs
   have hbad:=fun hh=>HBAD.out k (goTo g k m).2 hh
   have hstp:=fun hh=>HSTEP.out k (goTo g k m).2 hh
   have hnx:goTo g (k + 1) m=g k (goTo g k m).2:=Qbi hgo
   have hstk:(goTo g (k + 1) m).1.1≠0→goTo g n m=goTo g (k + 1) m:=Qcs hlt
   have HPA:=Qa (fun w6 (hG6:Grw gc w0 w6) (hC6:Blk w6 gc 180 #[.int .i64 (goTo g k m).2])=>(by have hq:=Qku false (p k) (t k) d (goTo g k m).2 gc B w6 vs (hpa.keep (hG6.cells HBW.out HBG.out)) hs.2.1 hs.2.2.1 hs.2.2.2 HBG.out hC6 (by rw [IntWalk.i64_left]; exact HSUB.out k hlt); rw [IntWalk.i64_left] at hq; exact hq:Calls Tryz.prog 163 #[.pointer (some ⟨gc,0,none⟩),.agg vs.toArray,.bool false,.int .i64 d] w6 (Qa2 (Qa7 false (p k) (t k) (fun m=>chk (t k) (wrap64 (d + 1)) m) (goTo g k m).2) gc w6)))
   obtain ⟨NX,hNX,R,hRn⟩:=V2 (goTo g (k + 1) m) (goTo g n m)
   rw [← hNX] at hnx hstk
   rw [← hRn] at hstk
   obtain ⟨HNXE,HRN⟩:=Z2 hNX hRn
   clear hNX hRn
   generalize (goTo g k m).2=mk at HCK hbad hstp hnx HPA
   generalize Qa7 false (p k) (t k) (fun m=>chk (t k) (wrap64 (d + 1)) m) mk=PR at hstp HPA
   obtain ⟨x,hx,y,hy,ev,hev⟩:=V3 ((p k).name.1) ((p k).name.2) (listE (Qh n p) k)
   rw [← hx] at hst hv0
   rw [← hy] at hne hbad hv1
   rw [← hev] at hne hbad hstp HST
   obtain ⟨w1,hw1⟩:=V1 (wr.alloc (.cells vs.toArray 131))
   have hV:Blk w1 wr.heap.size 131 vs.toArray:=by rw [hw1]; exact Blk.new _ _ _
   have hC1:Blk w1 gc 180 #[.int .i64 mk]:=by rw [hw1]; exact HCK.out.alloc _
   have hO1:w1.ownsRow base 9 1 (.slice Ao k co) k (Qi (Qh k p)):=by rw [hw1]; exact hO.alloc _
   have hG1:Grw gc w0 w1:=by rw [hw1]; exact hG.ext ((Ext.rfl' wr).alloc nL _)
   have hs1:w1.heap.size=wr.heap.size + 1:=by rw [hw1]; simp only [World.size_alloc]
   obtain ⟨gv,hgv⟩:=V1 (wr.heap.size)
   rw [← hgv] at hV
   have hgvb:base≤gv:=by rw [hgv]; exact hbs0
   have hgvc:gv≠gc:=by have:=HGC.out; rw [← HBASE.out] at this; omega
   have hgvO:∀ g,Value.ownBlock (.slice Ao k co)=some g→g < gv:=fun g e=>by rw [hgv]; exact (HO.out.lt g e).2
   have v0:=Qda hV hv0
   have v1:=Qda hV hv1
   obtain ⟨HNE,HHIT,HSTP,HNX,HSTK,HST2,HXS,HW1⟩:=Z8 hne hbad hstp hnx hstk hst hxs hw1
   obtain ⟨HG1,HV1,HC1,HO1,HGR1,HGV,HGVC⟩:=Z7 hgv hV hC1 hO1 hG1 hgvO hgvc
   have hbs1:base≤w1.heap.size:=by rw [hs1]; omega
   obtain ⟨HVL,HVO,HV0,HV1c,HR1⟩:=Z5 hvl hvo hv0 hv1 hr1
   have i2:=nZ k
   have i3:(k:Int) < (n:Int):=by omega
   clear hw1 hV hC1 hO1 hG1 hs1 hgv hgvO hgvc hne hbad hstp hnx hstk hst hxs hx hy hev hgd hkn hcell hO hG hgo hCk HO HG HCK HGO HZ hvl hvo hv0 hv1 hr0 hr1 hpa hs hcells htk
   go_upto_region 8 with fail
   refine wp_region_lit ?_
   refine wpList_plain rfl fun K1 hK1=>?_
   go_simp
   refine hK1 _ _ ?_
   refine wpList_load_mid rfl 131 _ rfl b (o + k * 18) rfl vs _ HR1.out Tryz.underlying131 rfl (infoPart' HVL.out) ?_
   refine wpList_plain rfl fun K2 hK2=>?_
   go_simp
   refine hK2 _ _ ?_
   refine Qd rfl 131 _ _ rfl _ vs.toArray rfl rfl (Qc8 HVL.out) (by show _=vs.length; rw [HVL.out]; rfl) HVO.out ?_
   go_upto_region 9 with fail
   rw [← HW1.out,← HG1.out]
   go_wp2_with (at_builtin; refine Qa9 _ rfl _ _ rfl base _ k (Qh k p) rfl w1.heap.size x _ rfl (HO1.out.alloc _) (Qau _ _ _ _ rfl) (by omega) (by simp; omega) ?_)
   intro A3 c3 w3 hown3 hgrow3 _
   have hG3:Grw gc w0 w3:=(HGR1.out.ext ((Ext.rfl' w1).alloc nL _)).append hgrow3 HO1.out (by rw [HBASE.out]; exact Nat.le_refl _)
   have hC3:=Qea (HC1.out.alloc (.cells #[.string x] 9)) hgrow3 HO1.out (.inl (by rw [HBASE.out]; exact HGC.out))
   have hV3:Blk w3 gv 131 vs.toArray:=by
    refine (hgrow3.block gv (HV1.out.alloc _).lt ?_).trans (HV1.out.alloc _)
    intro e
    exact absurd (HGV.out gv e.symm) (Nat.lt_irrefl _)
   have v0:=Qda hV3 HV0.out
   have v1:=Qda hV3 HV1c.out
   rw [← HST2.out] at hown3
   have hlen:k + 1=(Qh (k + 1) p).length:=by rw [Qa8]
   have hsa:StrAt w3 w3.heap.size A3 (Qh (k + 1) p):=by
    unfold StrAt
    rw [← hlen]
    exact Reads.of_own hown3
   have hli:=Qe1 A3 c3 (k + 1) k y _ w3 hsa hlen rfl (by have:=H64.out; omega) HXS.out
   rw [HNE.out] at hli
   obtain ⟨HLI,HC3,HG3,HO3,HV3⟩:=Z5 hli hC3 hG3 hown3 hV3
   clear hgrow3 hown3 hC3 hV3 hG3 hli hsa hlen HNE HV1
   by_cases he:ev=0
   ·have hli:=HLI.out
    rw [if_pos he] at hli
    obtain ⟨HLJ,HA2,HPR⟩:=Z3 hli (HST.out he) (HSTP.out he)
    clear hli HLI HST HHIT HA he HSTP
    go_upto_region 10 with fail
    go_wp2_with fail
    refine HLJ.out.mono ?_
    rintro e w5 ⟨rfl,hE5⟩
    obtain ⟨w6,hw6⟩:=V1 (w5.alloc (.cells #[.int .i64 0,.int .i64 0] 34))
    have hE6:Ext w3 w6:=by rw [hw6]; exact hE5.alloc hE5.size _
    obtain ⟨HC6,HG6,HV6,HO6⟩:=Z4 (HC3.out.ext hE6) (HG3.out.ext hE6) (HV3.out.ext hE6) (Qz HO3.out hE6)
    have hf6:=bN hw6
    obtain ⟨g5,hg5⟩:=V1 (w5.heap.size)
    rw [← hg5] at hf6
    have u0:=hf6.cell 0
    have u1:=hf6.cell 1
    have t0:=(HG6.out.blk HT.out HN2.out).cell 0
    simp only [gA,gH,gS] at u0 u1 t0
    obtain ⟨HW6,HG5⟩:=Z2 hw6 hg5
    clear hw6 hg5 hf6 hE6 hE5 v0 v1
    unfold Qe
    go_upto_region 11 with fail
    rw [← HW6.out,← HG5.out]
    go_upto_region 13 with fail
    refine wp_region_lit ?_
    refine wpList_plain rfl fun K3 hK3=>?_
    go_simp
    refine hK3 _ _ ?_
    refine wpList_load_mid rfl 131 _ rfl gv 0 rfl vs _ (Qai HV6.out) Tryz.underlying131 rfl (infoPart' HVL.out) ?_
    go_wp2_with fail
    refine (HPA.out _ HG6.out HC6.out).mono ?_
    rintro e w8 ⟨rfl,hE8,hC8⟩
    obtain ⟨⟨P1,P2⟩,P3⟩:=PR
    obtain ⟨w9,hw9⟩:=V1 (w8.alloc (.cells #[.int .i64 P1,.int .i64 P2] 34))
    have hE9:Ext w8 w9:=by rw [hw9]; exact (Ext.rfl' w8).alloc nL _
    have HC9:=Qa (show Blk w9 gc 180 #[.int .i64 P3] from hC8.ext hE9)
    obtain ⟨HG9,HO9⟩:=Z2 ((HG6.out.trans hE8).ext hE9) (Qz (Qmu HO6.out hE8 (by rw [HBASE.out]; exact HGC.out)) hE9)
    have hf9:=bN hw9
    obtain ⟨g8,hg8⟩:=V1 (w8.heap.size)
    rw [← hg8] at hf9
    have u0:=hf9.cell 0
    have u1:=hf9.cell 1
    have HF9:=Qa (HG9.out.blk HF.out HN.out)
    obtain ⟨b0,b1⟩:=X2 HF9.out
    obtain ⟨f0,f1⟩:=Y2 HF9.out
    simp only [gA,gH,gS] at u0 u1
    obtain ⟨HW9,HG8⟩:=Z2 hw9 hg8
    clear hw9 hg8 hf9 hE9 hE8 hC8 t0
    unfold Qe
    go_upto_region 14 with fail
    rw [← HW9.out,← HG8.out]
    by_cases c4:P1=0
    ·have HNX2:=Qa (show NX.1.1=0 by rw [HNX.out,HPR.out]; exact c4)
     have HNX3:=Qa (show NX.2=P3 by rw [HNX.out,HPR.out])
     subst c4
     clear b0 b1 f0 f1 HNX HSTK HPR
     go_wp2_with fail
     go_roundw
     case rel=>exact ⟨k + 1,A3,c3,by omega,by go_num,rfl,HG9.out,by rw [← HNXE.out]; exact HNX2.out,by rw [← HNXE.out,HNX3.out]; exact HC9.out,HO9.out,HA2.out⟩
     case measure=>simp [intOf]; omega
    ·have HR:=Qa (show R=((P1,P2),P3) by rw [HSTK.out (by rw [HNX.out,HPR.out]; exact c4),HNX.out,HPR.out])
     have j0:(P1 == 0)=false:=by simpa using c4
     clear HNX HSTK HPR c4
     go_wp2_with fail
     exact Qc (f:=(P1,P2)) (g:=gf) ((HF9.out.set_ 0 _).set_ 1 _) rfl rfl rfl ⟨by rw [← HRN.out,HR.out],(((Grw.of_ext HE.out).trans HG9.out).set (.inl HLO.out) _).set (.inl HLO.out) _,by rw [← HRN.out,HR.out]; exact (HC9.out.far HN.out.symm _).far HN.out.symm _⟩
   ·have hli:=HLI.out
    rw [if_neg he] at hli
    obtain ⟨HLJ,HGK⟩:=Z2 hli (HHIT.out he)
    have HR:=Qa (show R=((ev,y),mk) by rw [HSTK.out (by rw [HNX.out,HGK.out]; exact he),HNX.out,HGK.out])
    have j0:(ev == 0)=false:=by simpa using he
    clear hli HLI HST HHIT HA he HSTP HGK HNX HSTK
    go_upto_region 10 with fail
    go_wp2_with fail
    refine HLJ.out.mono ?_
    rintro e w5 ⟨rfl,hE5⟩
    obtain ⟨w6,hw6⟩:=V1 (w5.alloc (.cells #[.int .i64 ev,.int .i64 y] 34))
    have hE6:Ext w3 w6:=by rw [hw6]; exact hE5.alloc hE5.size _
    obtain ⟨HC6,HG6⟩:=Z2 (HC3.out.ext hE6) (HG3.out.ext hE6)
    have HF6:=Qa (HG6.out.blk HF.out HN.out)
    have hf6:=bN hw6
    obtain ⟨g5,hg5⟩:=V1 (w5.heap.size)
    rw [← hg5] at hf6
    obtain ⟨b0,b1⟩:=X2 HF6.out
    obtain ⟨f0,f1⟩:=Y2 HF6.out
    have u0:=hf6.cell 0
    have u1:=hf6.cell 1
    simp only [gA,gH,gS] at u0 u1
    obtain ⟨HW6,HG5⟩:=Z2 hw6 hg5
    clear hw6 hg5 hf6 hE6 hE5 v0 v1
    unfold Qe
    go_upto_region 11 with fail
    rw [← HW6.out,← HG5.out]
    go_wp2_with fail
    exact Qc (f:=(ev,y)) (g:=gf) ((HF6.out.set_ 0 _).set_ 1 _) rfl rfl rfl ⟨by rw [← HRN.out,HR.out],(((Grw.of_ext HE.out).trans HG6.out).set (.inl HLO.out) _).set (.inl HLO.out) _,by rw [← HRN.out,HR.out]; exact (HC6.out.far HN.out.symm _).far HN.out.symm _⟩
  ·obtain rfl:k=n:=by omega
   obtain ⟨HX,HFr⟩:=Z2 (HZ.out hgo) (hG.blk HF.out HN.out)
   obtain ⟨b0,b1⟩:=X2 HFr.out
   obtain ⟨f0,f1⟩:=Y2 HFr.out
   clear hO hG hgo hCk HA
   go_wp2_with fail
   exact Qc (f:=(0,0)) (g:=gf) ((HFr.out.set_ 0 _).set_ 1 _) rfl rfl rfl ⟨by rw [HX.out],(((Grw.of_ext HE.out).trans HG.out).set (.inl HLO.out) _).set (.inl HLO.out) _,(HCK.out.far HN.out.symm _).far HN.out.symm _⟩
set_option maxRecDepth 100000 in
theorem Qsh (a lo hi mo s1:Int) (s0:ByteArray) (nn cn cp n:Nat) (An Ap:Option Addr) (p:Nat→PtH) (t:Nat→Ty) (d m:Int) (gc B:Nat) (w:World) (hP:PartsAt w B Ap n p t) (hsz:∀ i,i < n→(p i).name.1.size≤maxLen∧Qo (p i).label∧Qo (p i).cl∧Q1 (t i)) (hBg:B≤gc) (hC:Blk w gc 180 #[.int .i64 m]) (hsub:∀ i,i < n→Qe2 (t i) (IntKind.i64.wrap (d + 1)) B) :
  Calls Tryz.prog 131 #[.pointer (some ⟨gc,0,none⟩),.agg #[.int .i64 8,.int .i64 a,.int .i64 lo,.int .i64 hi,.int .i64 mo,.slice An nn cn,.slice Ap n cp,.string s0,.int .i64 s1],.int .i64 d] w (Qa2 (if n=0 then ((15,a),m) else if 64 < n then ((8,(p 64).name.2),m) else goTo (Qba 8 n p t (fun i m'=>chk (t i) (IntKind.i64.wrap (d + 1)) m')) n m) gc w):=by
 have e1:=IntWalk.i64_left (d + 1)
 rw [e1] at hsub ⊢
 clear e1
 obtain ⟨w0,hw0⟩:=V1 ((w.alloc (.cells #[.int .i64 8,.int .i64 a,.int .i64 lo,.int .i64 hi,.int .i64 mo,.slice An nn cn,.slice Ap n cp,.string s0,.int .i64 s1] 29)).alloc (.cells #[.int .i64 0,.int .i64 0] 34))
 have hT:Blk w0 w.heap.size 29 #[.int .i64 8,.int .i64 a,.int .i64 lo,.int .i64 hi,.int .i64 mo,.slice An nn cn,.slice Ap n cp,.string s0,.int .i64 s1]:=by rw [hw0]; exact (Blk.new _ _ _).alloc _
 have hF:Blk w0 (w.heap.size + 1) 34 #[.int .i64 0,.int .i64 0]:=by
  rw [hw0]; have:=Blk.new (w.alloc (.cells #[.int .i64 8,.int .i64 a,.int .i64 lo,.int .i64 hi,.int .i64 mo,.slice An nn cn,.slice Ap n cp,.string s0,.int .i64 s1] 29)) 34 #[.int .i64 0,.int .i64 0]; simpa only [World.size_alloc] using this
 have hE:Ext w w0:=by rw [hw0]; exact ((Ext.rfl' w).alloc nL _).alloc (by simp only [World.size_alloc]; omega) _
 have hS:w0.heap.size=w.heap.size + 2:=by rw [hw0]; simp only [World.size_alloc]
 have hC1:Blk w0 gc 180 #[.int .i64 m]:=hC.ext hE
 have hgl:=hC.lt
 have hBw:B≤w.heap.size:=Nat.le_of_lt (Nat.lt_of_le_of_lt hBg hgl)
 have n1:w.heap.size + 1≠gc:=by omega
 have n2:w.heap.size≠gc:=by omega
 have hlo:w.heap.size≤w.heap.size + 1:=Nat.le_succ _
 have hP0:PartsAt w0 B Ap n p t:=hP.keep fun q hq=>hE.cell (Nat.lt_of_lt_of_le hq hBw)
 have hBw0:B≤w0.heap.size:=Nat.le_trans hBw hE.size
 have hgc0:gc < w0.heap.size:=Nat.lt_of_lt_of_le hgl hE.size
 obtain ⟨gf,hgf,gt,hgt⟩:=V2 (w.heap.size + 1) (w.heap.size)
 rw [← hgf] at hF hlo n1
 rw [← hgt] at hT n2
 obtain ⟨HW,HGF,HGT,HF,HE,HC,HT,HN⟩:=Z8 hw0 hgf hgt hF hE hC1 hT n1
 obtain ⟨HN2,HLO,HBW,HBG,HGC⟩:=Z5 n2 hlo hBw0 hBg hgc0
 obtain ⟨b0,b1⟩:=X2 HF.out
 obtain ⟨f0,f1⟩:=Y2 HF.out
 have t0:=hT.cell 0
 have t1:=hT.cell 1
 have t6:=hT.cell 6
 simp only [gA,gH,gS] at t0 t1 t6
 clear hw0 hF hE hC1 hT n1 n2 hlo hgf hgt hS hBw hBg hgl hC hP hBw0 hgc0
 by_cases c0:n=0
 ·obtain ⟨R,hR⟩:∃ R:Wr,R=((15,a),m):=⟨_,rfl⟩
  have HR:=Qa hR
  rw [if_pos c0,← hR]
  subst c0
  clear hP0 hsz hsub hR
  go_enter Tryz.func131,Tryz.ntmps131
  go_upto_region 1 with fail
  rw [← HW.out,← HGF.out,← HGT.out]
  go_wp2_with fail
  refine (Qk 15 a _).mono ?_
  rintro e w5 ⟨rfl,hE5⟩
  obtain ⟨HF5,HE5,HC5⟩:=Z3 (HF.out.ext hE5) (HE.out.trans' hE5) (HC.out.ext hE5)
  obtain ⟨b0,b1⟩:=X2 HF5.out
  obtain ⟨f0,f1⟩:=Y2 HF5.out
  unfold Qe
  clear hE5
  go_wp2_with fail
  exact Qc (f:=(15,a)) (g:=gf) ((HF5.out.set_ 0 _).set_ 1 _) rfl rfl rfl ⟨by rw [HR.out],((Grw.of_ext HE5.out).set (.inl HLO.out) _).set (.inl HLO.out) _,by rw [HR.out]; exact (HC5.out.far HN.out.symm _).far HN.out.symm _⟩
 rw [if_neg c0]
 by_cases c1:64 < n
 ·obtain ⟨R,hR⟩:∃ R:Wr,R=((8,(p 64).name.2),m):=⟨_,rfl⟩
  rw [if_pos c1,← hR]
  obtain ⟨b,o,rfl,hbs,_⟩:=hP0 (by omega)
  obtain ⟨_,d1⟩:=Qje hP0 rfl c1
  obtain ⟨x,hx⟩:=V1 ((p 64).name.2)
  rw [← hx] at d1 hR
  have HR:=Qa hR
  have i0:((n:Int) == 0)=false:=by simp; omega
  have i1:(64:Int) < (n:Int):=by omega
  clear hP0 hsz hsub hR hx hbs
  go_enter Tryz.func131,Tryz.ntmps131
  go_upto_region 1 with fail
  rw [← HW.out,← HGF.out,← HGT.out]
  go_wp2_with fail
  refine (Qk 8 x _).mono ?_
  rintro e w5 ⟨rfl,hE5⟩
  obtain ⟨HF5,HE5,HC5⟩:=Z3 (HF.out.ext hE5) (HE.out.trans' hE5) (HC.out.ext hE5)
  obtain ⟨b0,b1⟩:=X2 HF5.out
  obtain ⟨f0,f1⟩:=Y2 HF5.out
  unfold Qe
  clear hE5
  go_wp2_with fail
  exact Qc (f:=(8,x)) (g:=gf) ((HF5.out.set_ 0 _).set_ 1 _) rfl rfl rfl ⟨by rw [HR.out],((Grw.of_ext HE5.out).set (.inl HLO.out) _).set (.inl HLO.out) _,by rw [HR.out]; exact (HC5.out.far HN.out.symm _).far HN.out.symm _⟩
 rw [if_neg c1]
 obtain ⟨g,hg⟩:=V1 (Qba 8 n p t (fun i m'=>chk (t i) (wrap64 (d + 1)) m'))
 rw [← hg]
 obtain ⟨HSTEP,HBAD⟩:=Z2 (fun k m' (hl:listE (Qh n p) k=0)=>(show g k m'=Qa7 true (p k) (t k) (fun m=>chk (t k) (wrap64 (d + 1)) m) m' by rw [hg]; exact Qe3 true (by decide) hl)) (fun k m' (hl:listE (Qh n p) k≠0)=>(show g k m'=((listE (Qh n p) k,(p k).name.2),m') by rw [hg]; exact Qfq hl))
 have hz:∀ i m',i < n→(g i m').1.1=0→(g i m').1=(0,0):=fun i m' _ e=>by rw [hg] at e ⊢; exact Qh7 e
 obtain ⟨HZ,HPP,HSZ,HSUB⟩:=Z4 (fun (h:(goTo g n m).1.1=0)=>Qfi hz nL h) hP0 hsz hsub
 have i0:((n:Int) == 0)=false∨n=0:=by by_cases h:n=0; exact .inr h; exact .inl (by simp; omega)
 have i1:¬ (64:Int) < (n:Int):=by omega
 have H64:=Qa c1
 obtain ⟨base,hbase⟩:=V1 (w0.heap.size)
 have HBASE:=Qa hbase
 clear hg hz hP0 hsz hsub c1 hbase
 replace i0:=i0.resolve_right c0
 clear c0
 go_enter Tryz.func131,Tryz.ntmps131
 go_upto_region 1 with fail
 rw [← HW.out,← HGF.out,← HGT.out]
 go_wp2_with fail
 go_loopw [40,7] (fun i o wr=>∃ (k:Nat) (Ao:Option Addr) (co:Nat),k≤n∧i = .int .i64 k∧o = .slice Ao k co∧Grw gc w0 wr∧(goTo g k m).1.1=0∧Blk wr gc 180 #[.int .i64 (goTo g k m).2]∧wr.ownsRow base 9 1 (.slice Ao k co) k (Qi (Qh k p))∧Hid (∀ j,j < k→listE (Qh n p) j=0)) (fun i _ _=>n - (intOf i).toNat)
 case atStart=>exact ⟨0,none,0,Nat.zero_le _,rfl,rfl,.of_ext (Ext.rfl' _),rfl,HC.out,World.ownsRow_nil _ _ _ _,fun j hj=>absurd hj (by omega)⟩
 case round =>
  obtain ⟨k,Ao,co,hk,rfl,rfl,hG,hgo,hCk,hO,HA⟩:=hrel
  obtain ⟨HO,HCK,HG,HGO⟩:=Z4 hO hCk hG hgo
  have hbs0:base≤wr.heap.size:=by rw [HBASE.out]; exact hG.sz
  by_cases hlt:k < n
  ·have hkn:k < (Qh n p).length:=by rw [Qa8]; exact hlt
   obtain ⟨b,o,rfl,hbs,hcell⟩:=HPP.out (by omega)
   obtain ⟨vs,hr0,hpa⟩:=hcell k hlt
   have hs:=HSZ.out k hlt
   have hcells:=hG.cells HBW.out HBG.out
   have hr1:wr.rangeAt b (o + k * 18) vs:=fun j v hv=>(hcells ⟨b,o + k * 18 + j,none⟩ hbs).trans (hr0 j v hv)
   have hvl:vs.length=18:=hpa.len
   have hvo:vs.toArray.all (·.oneCell')=true:=hpa.one
   have hv0:vs[0]? = some (.string (p k).name.1):=by obtain ⟨Al,cl,Ac,cc,vt,rfl,_⟩:=hpa; rfl
   have hv1:vs[1]? = some (.int .i64 (p k).name.2):=by obtain ⟨Al,cl,Ac,cc,vt,rfl,_⟩:=hpa; rfl
   have hne:=Qeh hkn (p k).name.2 HA.out
   have HST:=Qa (fun hh=>Qa4 HA.out (show listE (Qh n p) k=0 from hh))
   have hst:=Qgn k p
   have htk:(Qh n p).take (k + 1)=Qh (k + 1) p:=Qgi hlt
   rw [htk] at hne
   have hgd:(Qh (k + 1) p).getD k ⟨#[]⟩=(p k).name.1:=by
    rw [List.getD_eq_getElem?_getD,List.getElem?_eq_getElem (by rw [Qa8]; exact Nat.lt_succ_self k),Qi8]; rfl
   have hxs:=hs.1
   rw [← hgd] at hxs
   have hbad:=fun hh=>HBAD.out k (goTo g k m).2 hh
   have hstp:=fun hh=>HSTEP.out k (goTo g k m).2 hh
   have hnx:goTo g (k + 1) m=g k (goTo g k m).2:=Qbi hgo
   have hstk:(goTo g (k + 1) m).1.1≠0→goTo g n m=goTo g (k + 1) m:=Qcs hlt
   have HPA:=Qa (fun w6 (hG6:Grw gc w0 w6) (hC6:Blk w6 gc 180 #[.int .i64 (goTo g k m).2])=>(by have hq:=Qku true (p k) (t k) d (goTo g k m).2 gc B w6 vs (hpa.keep (hG6.cells HBW.out HBG.out)) hs.2.1 hs.2.2.1 hs.2.2.2 HBG.out hC6 (by rw [IntWalk.i64_left]; exact HSUB.out k hlt); rw [IntWalk.i64_left] at hq; exact hq:Calls Tryz.prog 163 #[.pointer (some ⟨gc,0,none⟩),.agg vs.toArray,.bool true,.int .i64 d] w6 (Qa2 (Qa7 true (p k) (t k) (fun m=>chk (t k) (wrap64 (d + 1)) m) (goTo g k m).2) gc w6)))
   obtain ⟨NX,hNX,R,hRn⟩:=V2 (goTo g (k + 1) m) (goTo g n m)
   rw [← hNX] at hnx hstk
   rw [← hRn] at hstk
   obtain ⟨HNXE,HRN⟩:=Z2 hNX hRn
   clear hNX hRn
   generalize (goTo g k m).2=mk at HCK hbad hstp hnx HPA
   generalize Qa7 true (p k) (t k) (fun m=>chk (t k) (wrap64 (d + 1)) m) mk=PR at hstp HPA
   obtain ⟨x,hx,y,hy,ev,hev⟩:=V3 ((p k).name.1) ((p k).name.2) (listE (Qh n p) k)
   rw [← hx] at hst hv0
   rw [← hy] at hne hbad hv1
   rw [← hev] at hne hbad hstp HST
   obtain ⟨w1,hw1⟩:=V1 (wr.alloc (.cells vs.toArray 131))
   have hV:Blk w1 wr.heap.size 131 vs.toArray:=by rw [hw1]; exact Blk.new _ _ _
   have hC1:Blk w1 gc 180 #[.int .i64 mk]:=by rw [hw1]; exact HCK.out.alloc _
   have hO1:w1.ownsRow base 9 1 (.slice Ao k co) k (Qi (Qh k p)):=by rw [hw1]; exact hO.alloc _
   have hG1:Grw gc w0 w1:=by rw [hw1]; exact hG.ext ((Ext.rfl' wr).alloc nL _)
   have hs1:w1.heap.size=wr.heap.size + 1:=by rw [hw1]; simp only [World.size_alloc]
   obtain ⟨gv,hgv⟩:=V1 (wr.heap.size)
   rw [← hgv] at hV
   have hgvb:base≤gv:=by rw [hgv]; exact hbs0
   have hgvc:gv≠gc:=by have:=HGC.out; rw [← HBASE.out] at this; omega
   have hgvO:∀ g,Value.ownBlock (.slice Ao k co)=some g→g < gv:=fun g e=>by rw [hgv]; exact (HO.out.lt g e).2
   have v0:=Qda hV hv0
   have v1:=Qda hV hv1
   obtain ⟨HNE,HHIT,HSTP,HNX,HSTK,HST2,HXS,HW1⟩:=Z8 hne hbad hstp hnx hstk hst hxs hw1
   obtain ⟨HG1,HV1,HC1,HO1,HGR1,HGV,HGVC⟩:=Z7 hgv hV hC1 hO1 hG1 hgvO hgvc
   have hbs1:base≤w1.heap.size:=by rw [hs1]; omega
   obtain ⟨HVL,HVO,HV0,HV1c,HR1⟩:=Z5 hvl hvo hv0 hv1 hr1
   have i2:=nZ k
   have i3:(k:Int) < (n:Int):=by omega
   clear hw1 hV hC1 hO1 hG1 hs1 hgv hgvO hgvc hne hbad hstp hnx hstk hst hxs hx hy hev hgd hkn hcell hO hG hgo hCk HO HG HCK HGO HZ hvl hvo hv0 hv1 hr0 hr1 hpa hs hcells htk
   go_upto_region 8 with fail
   refine wp_region_lit ?_
   refine wpList_plain rfl fun K1 hK1=>?_
   go_simp
   refine hK1 _ _ ?_
   refine wpList_load_mid rfl 131 _ rfl b (o + k * 18) rfl vs _ HR1.out Tryz.underlying131 rfl (infoPart' HVL.out) ?_
   refine wpList_plain rfl fun K2 hK2=>?_
   go_simp
   refine hK2 _ _ ?_
   refine Qd rfl 131 _ _ rfl _ vs.toArray rfl rfl (Qc8 HVL.out) (by show _=vs.length; rw [HVL.out]; rfl) HVO.out ?_
   go_upto_region 9 with fail
   rw [← HW1.out,← HG1.out]
   go_wp2_with (at_builtin; refine Qa9 _ rfl _ _ rfl base _ k (Qh k p) rfl w1.heap.size x _ rfl (HO1.out.alloc _) (Qau _ _ _ _ rfl) (by omega) (by simp; omega) ?_)
   intro A3 c3 w3 hown3 hgrow3 _
   have hG3:Grw gc w0 w3:=(HGR1.out.ext ((Ext.rfl' w1).alloc nL _)).append hgrow3 HO1.out (by rw [HBASE.out]; exact Nat.le_refl _)
   have hC3:=Qea (HC1.out.alloc (.cells #[.string x] 9)) hgrow3 HO1.out (.inl (by rw [HBASE.out]; exact HGC.out))
   have hV3:Blk w3 gv 131 vs.toArray:=by
    refine (hgrow3.block gv (HV1.out.alloc _).lt ?_).trans (HV1.out.alloc _)
    intro e
    exact absurd (HGV.out gv e.symm) (Nat.lt_irrefl _)
   have v0:=Qda hV3 HV0.out
   have v1:=Qda hV3 HV1c.out
   rw [← HST2.out] at hown3
   have hlen:k + 1=(Qh (k + 1) p).length:=by rw [Qa8]
   have hsa:StrAt w3 w3.heap.size A3 (Qh (k + 1) p):=by
    unfold StrAt
    rw [← hlen]
    exact Reads.of_own hown3
   have hli:=Qe1 A3 c3 (k + 1) k y _ w3 hsa hlen rfl (by have:=H64.out; omega) HXS.out
   rw [HNE.out] at hli
   obtain ⟨HLI,HC3,HG3,HO3,HV3⟩:=Z5 hli hC3 hG3 hown3 hV3
   clear hgrow3 hown3 hC3 hV3 hG3 hli hsa hlen HNE HV1
   by_cases he:ev=0
   ·have hli:=HLI.out
    rw [if_pos he] at hli
    obtain ⟨HLJ,HA2,HPR⟩:=Z3 hli (HST.out he) (HSTP.out he)
    clear hli HLI HST HHIT HA he HSTP
    go_upto_region 10 with fail
    go_wp2_with fail
    refine HLJ.out.mono ?_
    rintro e w5 ⟨rfl,hE5⟩
    obtain ⟨w6,hw6⟩:=V1 (w5.alloc (.cells #[.int .i64 0,.int .i64 0] 34))
    have hE6:Ext w3 w6:=by rw [hw6]; exact hE5.alloc hE5.size _
    obtain ⟨HC6,HG6,HV6,HO6⟩:=Z4 (HC3.out.ext hE6) (HG3.out.ext hE6) (HV3.out.ext hE6) (Qz HO3.out hE6)
    have hf6:=bN hw6
    obtain ⟨g5,hg5⟩:=V1 (w5.heap.size)
    rw [← hg5] at hf6
    have u0:=hf6.cell 0
    have u1:=hf6.cell 1
    have t0:=(HG6.out.blk HT.out HN2.out).cell 0
    simp only [gA,gH,gS] at u0 u1 t0
    obtain ⟨HW6,HG5⟩:=Z2 hw6 hg5
    clear hw6 hg5 hf6 hE6 hE5 v0 v1
    unfold Qe
    go_upto_region 11 with fail
    rw [← HW6.out,← HG5.out]
    go_upto_region 13 with fail
    refine wp_region_lit ?_
    refine wpList_plain rfl fun K3 hK3=>?_
    go_simp
    refine hK3 _ _ ?_
    refine wpList_load_mid rfl 131 _ rfl gv 0 rfl vs _ (Qai HV6.out) Tryz.underlying131 rfl (infoPart' HVL.out) ?_
    go_wp2_with fail
    refine (HPA.out _ HG6.out HC6.out).mono ?_
    rintro e w8 ⟨rfl,hE8,hC8⟩
    obtain ⟨⟨P1,P2⟩,P3⟩:=PR
    obtain ⟨w9,hw9⟩:=V1 (w8.alloc (.cells #[.int .i64 P1,.int .i64 P2] 34))
    have hE9:Ext w8 w9:=by rw [hw9]; exact (Ext.rfl' w8).alloc nL _
    have HC9:=Qa (show Blk w9 gc 180 #[.int .i64 P3] from hC8.ext hE9)
    obtain ⟨HG9,HO9⟩:=Z2 ((HG6.out.trans hE8).ext hE9) (Qz (Qmu HO6.out hE8 (by rw [HBASE.out]; exact HGC.out)) hE9)
    have hf9:=bN hw9
    obtain ⟨g8,hg8⟩:=V1 (w8.heap.size)
    rw [← hg8] at hf9
    have u0:=hf9.cell 0
    have u1:=hf9.cell 1
    have HF9:=Qa (HG9.out.blk HF.out HN.out)
    obtain ⟨b0,b1⟩:=X2 HF9.out
    obtain ⟨f0,f1⟩:=Y2 HF9.out
    simp only [gA,gH,gS] at u0 u1
    obtain ⟨HW9,HG8⟩:=Z2 hw9 hg8
    clear hw9 hg8 hf9 hE9 hE8 hC8 t0
    unfold Qe
    go_upto_region 14 with fail
    rw [← HW9.out,← HG8.out]
    by_cases c4:P1=0
    ·have HNX2:=Qa (show NX.1.1=0 by rw [HNX.out,HPR.out]; exact c4)
     have HNX3:=Qa (show NX.2=P3 by rw [HNX.out,HPR.out])
     subst c4
     clear b0 b1 f0 f1 HNX HSTK HPR
     go_wp2_with fail
     go_roundw
     case rel=>exact ⟨k + 1,A3,c3,by omega,by go_num,rfl,HG9.out,by rw [← HNXE.out]; exact HNX2.out,by rw [← HNXE.out,HNX3.out]; exact HC9.out,HO9.out,HA2.out⟩
     case measure=>simp [intOf]; omega
    ·have HR:=Qa (show R=((P1,P2),P3) by rw [HSTK.out (by rw [HNX.out,HPR.out]; exact c4),HNX.out,HPR.out])
     have j0:(P1 == 0)=false:=by simpa using c4
     clear HNX HSTK HPR c4
     go_wp2_with fail
     exact Qc (f:=(P1,P2)) (g:=gf) ((HF9.out.set_ 0 _).set_ 1 _) rfl rfl rfl ⟨by rw [← HRN.out,HR.out],(((Grw.of_ext HE.out).trans HG9.out).set (.inl HLO.out) _).set (.inl HLO.out) _,by rw [← HRN.out,HR.out]; exact (HC9.out.far HN.out.symm _).far HN.out.symm _⟩
   ·have hli:=HLI.out
    rw [if_neg he] at hli
    obtain ⟨HLJ,HGK⟩:=Z2 hli (HHIT.out he)
    have HR:=Qa (show R=((ev,y),mk) by rw [HSTK.out (by rw [HNX.out,HGK.out]; exact he),HNX.out,HGK.out])
    have j0:(ev == 0)=false:=by simpa using he
    clear hli HLI HST HHIT HA he HSTP HGK HNX HSTK
    go_upto_region 10 with fail
    go_wp2_with fail
    refine HLJ.out.mono ?_
    rintro e w5 ⟨rfl,hE5⟩
    obtain ⟨w6,hw6⟩:=V1 (w5.alloc (.cells #[.int .i64 ev,.int .i64 y] 34))
    have hE6:Ext w3 w6:=by rw [hw6]; exact hE5.alloc hE5.size _
    obtain ⟨HC6,HG6⟩:=Z2 (HC3.out.ext hE6) (HG3.out.ext hE6)
    have HF6:=Qa (HG6.out.blk HF.out HN.out)
    have hf6:=bN hw6
    obtain ⟨g5,hg5⟩:=V1 (w5.heap.size)
    rw [← hg5] at hf6
    obtain ⟨b0,b1⟩:=X2 HF6.out
    obtain ⟨f0,f1⟩:=Y2 HF6.out
    have u0:=hf6.cell 0
    have u1:=hf6.cell 1
    simp only [gA,gH,gS] at u0 u1
    obtain ⟨HW6,HG5⟩:=Z2 hw6 hg5
    clear hw6 hg5 hf6 hE6 hE5 v0 v1
    unfold Qe
    go_upto_region 11 with fail
    rw [← HW6.out,← HG5.out]
    go_wp2_with fail
    exact Qc (f:=(ev,y)) (g:=gf) ((HF6.out.set_ 0 _).set_ 1 _) rfl rfl rfl ⟨by rw [← HRN.out,HR.out],(((Grw.of_ext HE.out).trans HG6.out).set (.inl HLO.out) _).set (.inl HLO.out) _,by rw [← HRN.out,HR.out]; exact (HC6.out.far HN.out.symm _).far HN.out.symm _⟩
  ·obtain rfl:k=n:=by omega
   obtain ⟨HX,HFr⟩:=Z2 (HZ.out hgo) (hG.blk HF.out HN.out)
   obtain ⟨b0,b1⟩:=X2 HFr.out
   obtain ⟨f0,f1⟩:=Y2 HFr.out
   clear hO hG hgo hCk HA
   go_wp2_with fail
   exact Qc (f:=(0,0)) (g:=gf) ((HFr.out.set_ 0 _).set_ 1 _) rfl rfl rfl ⟨by rw [HX.out],(((Grw.of_ext HE.out).trans HG.out).set (.inl HLO.out) _).set (.inl HLO.out) _,(HCK.out.far HN.out.symm _).far HN.out.symm _⟩
end Go.Proofs.YtanpljalbijfkaaGreat
