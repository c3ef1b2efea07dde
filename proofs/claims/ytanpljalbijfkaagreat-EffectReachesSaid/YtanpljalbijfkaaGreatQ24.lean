/- . -/
import Derived.Test.YtanpljalbijfkaaGreatQ23
import Derived.Deep.RegionHeld3
namespace Go.Proofs.YtanpljalbijfkaaGreat
open Go.RowKit
set_option maxHeartbeats 16000000
theorem Qb7 {f:Flt} (h:f.1=0):Sch.optF f=none:=if_pos h
theorem Qgf {f:Flt} (h:f.1≠0):Sch.optF f=some f:=if_neg h
theorem Qek (ws us:List Wd):ofF ws us=(0,0)∨(ofF ws us).1≠0:=by
 unfold ofF;cases h:Qf (Qab ws us) us.length with
 | none=>exact .inl rfl
 | some x =>
  right
  obtain ⟨i,_,hi⟩:=List.exists_of_findSome?_eq_some h;unfold Qab at hi;split at hi
  ·cases hi; simp
  ·cases hi
theorem Qq5 {s:Sch} {h:TyH} {n:Nat} {p:Nat→PtH} {t:Nat→Ty} (hk:h.kind≠9) {k:Nat} {f:Flt} (hkn:k < n) (h0:∀ j,j < k→(s.partK p t j).1=0) (hf:s.partK p t k=f) (hn:f.1≠0):s.knownF (.mk h n p t)=f:=by
 rw [Sch.knownF_mk,if_neg (fun hh=>hk hh.1),Qk (k:=k) (x:=f) hkn (fun j hj=>Qb7 (h0 j hj)) (by rw [hf]; exact Qgf hn)]
 rfl
theorem Qpa {s:Sch} {h:TyH} {n:Nat} {p:Nat→PtH} {t:Nat→Ty} (hk:h.kind≠9) (h0:∀ j,j < n→(s.partK p t j).1=0):s.knownF (.mk h n p t)=(0,0):=by
 rw [Sch.knownF_mk,if_neg (fun hh=>hk hh.1),firstOf_miss.2 (fun j hj=>Qb7 (h0 j hj))]
 rfl
theorem Qq6 {s:Sch} {h:TyH} {p:Nat→PtH} {t:Nat→Ty} (hk:h.kind=9):s.knownF (.mk h 0 p t)=if 0≤findL s.names h.name.1 then (0,0) else (15,h.name.2):=by
 rw [Sch.knownF_mk];by_cases c:0≤findL s.names h.name.1
 ·rw [if_neg (by omega),if_pos c]; rfl
 ·rw [if_pos ⟨hk,by omega⟩,if_neg c]
theorem Qj4 {s:Sch} {p:Nat→PtH} {t:Nat→Ty} {k:Nat} (h:(ofF s.ws (p k).label).1≠0):s.partK p t k=ofF s.ws (p k).label:=by
 have e:s.wordsF (p k)=ofF s.ws (p k).label:=if_pos h;unfold Sch.partK;rw [e,if_pos h]
theorem Qls {s:Sch} {p:Nat→PtH} {t:Nat→Ty} {k:Nat} (h0:ofF s.ws (p k).label=(0,0)) (h:(ofF s.ws (p k).cl).1≠0):s.partK p t k=ofF s.ws (p k).cl:=by
 have e:s.wordsF (p k)=ofF s.ws (p k).cl:=if_neg (by rw [h0]; simp)
 unfold Sch.partK;rw [e,if_pos h]
theorem Qj5 {s:Sch} {p:Nat→PtH} {t:Nat→Ty} {k:Nat} (h0:ofF s.ws (p k).label=(0,0)) (h:ofF s.ws (p k).cl=(0,0)):s.partK p t k=if (p k).bare=true then (0,0) else s.knownF (t k):=by
 have e:s.wordsF (p k)=ofF s.ws (p k).cl:=if_neg (by rw [h0]; simp)
 unfold Sch.partK;rw [e,h,if_neg (by simp)]
set_option maxRecDepth 100000 in
theorem Qq7 (gb gl gp gt n3 c3:Nat) (A3:Option Addr) (xs:List Value) (mm r0:Int) (NV MV:Value) (s:Sch) (wK:World) (hB:BldAt wK gb A3 n3 c3 xs gl gp mm)
  (hP:Blk wK gp 83 #[.pointer (some ⟨gl,0,none⟩),NV,.int .i64 r0,.pointer (some ⟨gt,0,none⟩),MV]) (hTb:TabAt wK gt s.names) (hL:LatAt wK gl s.ws s.os) (hok:LatOk s) (hn3:s.n≤64) (t:Ty) :
  Fit t→Qr t→∀ (w:World) (vs:List Value),Ext wK w→TyAt w w.heap.size t vs→Calls Tryz.prog 33 #[.pointer (some ⟨gb,0,none⟩),.agg vs.toArray] w (fun e w'=>e = .returned (fltV (s.knownF t))∧Ext w w'):=by
 induction t with
 | nil=>intro hF; exact hF.elim
 | mk h n p t ih =>
  intro hF hS w vs hK hT;obtain ⟨An,cn,Ap,cp,rfl,hN,hPt⟩:=hT;obtain ⟨_,_,_,hSz⟩:=hS;obtain ⟨_,_,h64,hF9,_,hFp⟩:=hF;have HFND:=hide (fun x w1 (hE:Ext wK w1)=>(show Calls Tryz.prog 72 #[.pointer (some ⟨gt,0,none⟩),.string x] w1 (fun e w'=>e = .returned (.tuple #[.int .i64 (s.find x:Nat),.bool (decide (0≤findL s.names x))])∧Ext w1 w') by
   have:=Qbh gt s.names x w1 (hTb.ext hE) (by simp [Sch.names]; omega)
   rw [Qff] at this;exact this))
  obtain ⟨HOF,HB,HP,HPT,HSZ,HFP,HIH,HK⟩:=Z8 (fun (A:Option Addr) (c m:Nat) (us:List Wd) w1 (hE:Ext wK w1) (hu:WdsAt w1 w1.heap.size A us) (hm:m=us.length) (hm':m≤9223372036854775807)=>Qjw gl s.ws s.os A c m us w1 (hL.ext hE) hok.few hok.lat hu hm hm') hB hP hPt hSz hFp ih hK
  obtain ⟨w1,g1,hw1,hg1,Hw1,Hg1,hT,hTE⟩:=T0 w 29 #[.int .i64 h.kind,.int .i64 h.at_,.int .i64 h.lo,.int .i64 h.hi,.int .i64 h.most,.slice An h.names.length cn,.slice Ap n cp,.string h.name.1,.int .i64 h.name.2];obtain ⟨w2,g2,hw2,hg2,Hw2,Hg2,hZ,hZE⟩:=T0 w1 34 #[.int .i64 0,.int .i64 0];have Hg2':=hide (show g2=g1 + 1 by rw [hg2,hw1,World.size_alloc,← hg1])
  obtain ⟨HE2,HT2,HZ2⟩:=Z3 (hTE.trans' hZE) (hT.ext hZE) hZ;have hlo2:w.heap.size≤g2:=by have:=hTE.size; omega
  have hle:(n:Int)≤64:=by omega
  have hle0:=nZ n;show Calls Tryz.prog 33 #[.pointer (some ⟨gb,0,none⟩),.agg #[.int .i64 h.kind,.int .i64 h.at_,.int .i64 h.lo,.int .i64 h.hi,.int .i64 h.most,.slice An h.names.length cn,.slice Ap n cp,.string h.name.1,.int .i64 h.name.2]] w _
  obtain ⟨t0,-,-,-,-,-,t6,t7,t8⟩:=X9 HT2.out;by_cases hk:h.kind=9
  ·obtain rfl:n=0:=hF9 (.inr hk);have hkr:=Qq6 (s:=s) (p:=p) (t:=t) hk;obtain ⟨R,hR⟩:=V1 (s.knownF (.mk h 0 p t));rw [← hR] at hkr ⊢;have hk':(h.kind == 9)=true:=by rw [hk]; rfl
   obtain ⟨fb,hfb⟩:=V1 (decide (0≤findL s.names h.name.1));have hkr2:R=if fb=true then (0,0) else (15,h.name.2):=by
    rw [hkr,hfb];by_cases c:0≤findL s.names h.name.1
    ·rw [if_pos c,if_pos (by simpa using c)]
    ·rw [if_neg c,if_neg (by simpa using c)]
   obtain ⟨x,hx,y,hy⟩:=V2 (h.name.1) (h.name.2);rw [← hx] at t7 hfb;rw [← hy] at t8 hkr2;have HFx:=hide (HFND.out x);rw [← hfb] at HFx;obtain ⟨f0,hf0⟩:=V1 (s.find x);rw [← hf0] at HFx;have HR2:=hide hkr2;have p3:=(HP.out.ext (hK.trans' HE2.out)).cell 3;have b13:=(HB.out.ext (hK.trans' HE2.out)).c13;obtain ⟨HPe,HBe⟩:=Z2 (HP.out.ext (hK.trans' HE2.out)) (HB.out.ext (hK.trans' HE2.out));have HX:=hide (show ∀ w',Ext w2 w'→w'.cell? ⟨g1,7,none⟩=some (.string x)∧w'.cell? ⟨g1,8,none⟩=some (.int .i64 y)∧w'.cell? ⟨g1,6,none⟩=some (.slice Ap 0 cp) from fun w' hE=>⟨(hE.cell (p:=⟨g1,7,none⟩) HT2.out.lt).trans t7,(hE.cell (p:=⟨g1,8,none⟩) HT2.out.lt).trans t8,(hE.cell (p:=⟨g1,6,none⟩) HT2.out.lt).trans t6⟩)
   simp only [gA,gH,gS] at p3;clear hw1 hg1 hw2 hg2 hT hZ hTE hZE hB hP hTb hL hok hPt hSz hFp ih hN hK hk hkr hkr2 hR hfb hx hy hf0 hF9 h64 hn3;go_enter Tryz.func33,Tryz.ntmps33
   go_upto_region 1 with fail
   rw [← Hw1.out,← Hg1.out,← Hw2.out,← Hg2'.out];go_wp2_with fail
   clear t0 t6 t7 t8 p3 b13;refine Qbf (by kernel_rfl) (by kernel_rfl) w2 (Ext.rfl' _) ?_
   intro I _ f hf hc;have q3:∀ n,(f n).cell? ⟨gp,3,none⟩=some (.pointer (some ⟨gt,0,none⟩)):=fun n=>(HPe.out.ext (hf n)).cell 3
   have q13:∀ n,(f n).cell? ⟨gb,13,none⟩=some (.pointer (some ⟨gp,0,none⟩)):=fun n=>(HBe.out.ext (hf n)).c13
   have q7:∀ n,(f n).cell? ⟨g1,7,none⟩=some (.string x):=fun n=>(HX.out _ (hf n)).1
   obtain ⟨H1,HG⟩:=Z2 (fun n=>Qcr hf hc (HFx.out (f n) ((HK.out.trans' HE2.out).trans' (hf n)))) hf
   clear hf hc;repeat (go_big_quiet_step ((go_at_call 72; with_reducible exact H1.out _)))
   refine wpQuiet_nil ?_;rintro _ ⟨nq,rfl⟩;obtain ⟨HEq,HZq⟩:=Z2 (HE2.out.trans' (HG.out nq)) (HZ2.out.ext (HG.out nq));have q6:=(HX.out _ (HG.out nq)).2.2;have q8:=(HX.out _ (HG.out nq)).2.1;obtain ⟨w3,hw3⟩:=V1 (f nq);rw [← hw3] at HEq HZq q6 q8 ⊢;clear q3 q13 q7 hw3;have z0:=HZq.out.cell 0;have z1:=HZq.out.cell 1;have f0':=HZq.out.free 0;have f1':=HZq.out.free 1;simp only [gA,gH,gS] at z0 z1;cases fb with
   | false =>
    have hR3:=HR2.out;rw [if_neg (by decide)] at hR3
    have HR3:=hide hR3;clear hR3;go_wp2_with fail
    exact Qa (f:=(15,y)) (g:=g2) ((HZq.out.set_ 0 _).set_ 1 _) rfl rfl rfl ⟨by rw [HR3.out],ext_two' HEq.out hlo2 _ _⟩
   | true =>
    have hR3:=HR2.out;rw [if_pos rfl] at hR3;have HR3:=hide hR3;clear hR3;go_wp2_with fail
    go_loopw [40] (fun i wr=>i = .int .i64 0∧w3=wr) (fun _ _=>0)
    case atStart=>exact ⟨rfl,rfl⟩
    case round =>
     obtain ⟨rfl,rfl⟩:=hrel;go_wp2_with fail
     exact Qa (f:=(0,0)) (g:=g2) ((HZq.out.set_ 0 _).set_ 1 _) rfl rfl rfl ⟨by rw [HR3.out],ext_two' HEq.out hlo2 _ _⟩
  ·have hk':(h.kind == 9)=false:=by simpa using hk
   obtain ⟨HHIT,HMISS⟩:=Z2 (fun k (hkn:k < n) (h0:∀ j,j < k→(s.partK p t j).1=0) (f:Flt) (hf:s.partK p t k=f) (hn:f.1≠0)=>Qq5 (s:=s) hk hkn h0 hf hn) (fun (h0:∀ j,j < n→(s.partK p t j).1=0)=>Qpa (s:=s) (p:=p) (t:=t) hk h0)
   obtain ⟨R,hR⟩:=V1 (s.knownF (.mk h n p t));rw [← hR] at HHIT HMISS ⊢;have HBe:=hide (HB.out.ext (hK.trans' HE2.out));clear hw1 hg1 hw2 hg2 hT hZ hTE hZE hB hP hTb hL hok hPt hSz hFp ih hN hK hk hR hF9 hn3 HFND t7 t8;go_enter Tryz.func33,Tryz.ntmps33
   go_upto_region 1 with fail
   rw [← Hw1.out,← Hg1.out,← Hw2.out,← Hg2'.out];go_wp2_with fail
   clear t0 t6;go_loopw [40] (fun i wr=>∃ k:Nat,k≤n∧i = .int .i64 (k:Int)∧Ext w2 wr∧Hid (∀ j,j < k→(s.partK p t j).1=0)) (fun i _=>n - (intOf i).toNat)
   case atStart=>exact ⟨0,Nat.zero_le _,rfl,Ext.rfl' _,fun j hj=>absurd hj (Nat.not_lt_zero _)⟩
   case round =>
    obtain ⟨k,hk,rfl,hE,HA⟩:=hrel;obtain ⟨HE,HZr⟩:=Z2 hE (HZ2.out.ext hE);have t6:=(HT2.out.ext hE).cell 6;simp only [gA,gH,gS] at t6;by_cases hkn:k < n
    ·obtain ⟨b,o,rfl,hb,hc⟩:=HPT.out (by omega)
     obtain ⟨Al,cl,Ac,cc,vt,q1,q2,q3,q4⟩:=hc k hkn;have hEw:=HE2.out.trans' hE;have hcell:=fun j (v:Value) hv=>(hEw.cell (p:=⟨b,o + k * 18 + j,none⟩) hb).trans (q1 j v hv)
     obtain ⟨_,hsl,hsc,hst⟩:=HSZ.out k hkn;have hfp:=HFP.out k hkn;have hit:=HHIT.out k hkn HA.out;have hlab:=fun hh=>Qj4 (s:=s) (p:=p) (t:=t) (k:=k) hh
     have hcl:=fun h0 hh=>Qls (s:=s) (p:=p) (t:=t) (k:=k) h0 hh
     have hsub:=fun h0 hh=>Qj5 (s:=s) (p:=p) (t:=t) (k:=k) h0 hh
     have HST:=hide (fun hh=>Q0 HA.out (show (s.partK p t k).1=0 from hh))
     have hol:=fun w1 (hE1:Ext wr w1)=>HOF.out Al cl _ _ w1 (HK.out.trans' (hEw.trans' hE1)) (q2.ext (hEw.trans' hE1)) rfl (by have:=hsl.1; omega)
     have hoc:=fun w1 (hE1:Ext wr w1)=>HOF.out Ac cc _ _ w1 (HK.out.trans' (hEw.trans' hE1)) (q3.ext (hEw.trans' hE1)) rfl (by have:=hsc.1; omega)
     have hcall:=fun (hb:(p k).bare=false) w1 (hE1:Ext wr w1)=>HIH.out k (hfp.2 hb) hst w1 vt (HK.out.trans' (hEw.trans' hE1)) (q4.ext (hEw.trans' hE1))
     have hsplit:=Qek s.ws (p k).label;have hsplit2:=Qek s.ws (p k).cl;obtain ⟨h',n',An',cn',Ap',cp',rfl⟩:=q4.form;have HRG:=hide (show wr.rangeAt b (o + k * 18) (ptV (p k) Al cl Ac cc ++ tyV h' An' cn' Ap' n' cp') from hcell)
     unfold ptV tyV at HRG;simp only [List.cons_append,List.nil_append] at HRG;obtain ⟨⟨e1,a1⟩,hf1⟩:∃ f,f=ofF s.ws (p k).label:=⟨_,rfl⟩;obtain ⟨⟨e2,a2⟩,hf2⟩:∃ f,f=ofF s.ws (p k).cl:=⟨_,rfl⟩;obtain ⟨⟨e3,a3⟩,hf3⟩:∃ f,f=s.knownF (t k):=⟨_,rfl⟩;obtain ⟨i1_,hi1,i2_,hi2⟩:=V2 (ofI s.ws s.os (p k).label) (ofI s.ws s.os (p k).cl);rw [← hf1,← hi1] at hol;rw [← hf2,← hi2] at hoc;rw [← hf1] at hlab hcl hsub hsplit;rw [← hf2] at hcl hsub hsplit2;rw [← hf3] at hcall hsub;obtain ⟨nm,hnm_⟩:=V1 ((p k).name.1);rw [← hnm_] at HRG;obtain ⟨na,hna_⟩:=V1 ((p k).name.2);rw [← hna_] at HRG;obtain ⟨br,hbr_⟩:=V1 ((p k).bare);rw [← hbr_] at HRG hcall hsub;obtain ⟨ll,hll_⟩:=V1 ((p k).label.length);rw [← hll_] at HRG hol;obtain ⟨wi,hwi_⟩:=V1 ((p k).wide);rw [← hwi_] at HRG;obtain ⟨ck,hck_⟩:=V1 ((p k).ck);rw [← hck_] at HRG;obtain ⟨cn2,hcn2_⟩:=V1 ((p k).cn);rw [← hcn2_] at HRG;obtain ⟨ca,hca_⟩:=V1 ((p k).cat);rw [← hca_] at HRG;obtain ⟨lc,hlc_⟩:=V1 ((p k).cl.length);rw [← hlc_] at HRG hoc;obtain ⟨PK,hPK⟩:=V1 (s.partK p t k);rw [← hPK] at hit hlab hcl hsub HST;obtain ⟨HIT,HLAB,HCL,HSUB,HSP⟩:=Z5 (fun f=>hit f) hlab hcl hsub (And.intro hsplit hsplit2)
     have HOL:=hide (show ∀ w1,Ext wr w1→Calls Tryz.prog 73 #[.pointer (some ⟨gl,0,none⟩),.slice Al ll cl] w1 (fun e w'=>e = .returned (.tuple #[.int .i64 i1_,.agg #[.int .i64 e1,.int .i64 a1]])∧Ext w1 w') from hol)
     have HOC:=hide (show ∀ w1,Ext wr w1→Calls Tryz.prog 73 #[.pointer (some ⟨gl,0,none⟩),.slice Ac lc cc] w1 (fun e w'=>e = .returned (.tuple #[.int .i64 i2_,.agg #[.int .i64 e2,.int .i64 a2]])∧Ext w1 w') from hoc)
     have HCALL:=hide (show br=false→∀ w1,Ext wr w1→Calls Tryz.prog 33 #[.pointer (some ⟨gb,0,none⟩),.agg #[.int .i64 h'.kind,.int .i64 h'.at_,.int .i64 h'.lo,.int .i64 h'.hi,.int .i64 h'.most,.slice An' h'.names.length cn',.slice Ap' n' cp',.string h'.name.1,.int .i64 h'.name.2]] w1 (fun e w'=>e = .returned (.agg #[.int .i64 e3,.int .i64 a3])∧Ext w1 w') from hcall)
     obtain ⟨w5,g5,hw5,hg5,Hw5,Hg5,hV,hVE⟩:=T0 wr 131 #[.string nm,.int .i64 na,.bool br,.slice Al ll cl,.int .i64 wi,.int .i64 ck,.int .i64 cn2,.int .i64 ca,.slice Ac lc cc,.int .i64 h'.kind,.int .i64 h'.at_,.int .i64 h'.lo,.int .i64 h'.hi,.int .i64 h'.most,.slice An' h'.names.length cn',.slice Ap' n' cp',.string h'.name.1,.int .i64 h'.name.2];obtain ⟨HE5,HX5,HV,HZ5⟩:=Z4 (hE.trans' hVE) hVE hV (HZr.out.ext hVE);obtain ⟨-,-,-,v3,-,-,-,-,v8⟩:=X9 hV;have j0:=nZ k;have j1:(k:Int) < (n:Int):=by omega
     clear hcell hc q1 q2 q3 q4 hE hEw hw5 hg5 hV hVE hsl hsc hst hfp hit hlab hcl hsub hol hoc hcall hsplit hsplit2 hf1 hf2 hf3 hi1 hi2 hPK hnm_ hna_ hbr_ hll_ hwi_ hck_ hcn2_ hca_ hlc_ HOF HIH HHIT HSZ HFP;go_upto_region 7 with fail
     refine wp_region_lit ?_;refine wpList_plain rfl fun K1 hK1=>?_
     go_simp;refine hK1 _ _ ?_;refine wpList_load_mid rfl 131 _ rfl b (o + k * 18) rfl _ _ HRG.out Tryz.underlying131 rfl Qcv ?_;refine wpList_plain rfl fun K2 hK2=>?_
     go_simp;refine hK2 _ _ ?_;refine Qc rfl 131 _ _ rfl _ #[.string nm,.int .i64 na,.bool br,.slice Al ll cl,.int .i64 wi,.int .i64 ck,.int .i64 cn2,.int .i64 ca,.slice Ac lc cc,.int .i64 h'.kind,.int .i64 h'.at_,.int .i64 h'.lo,.int .i64 h'.hi,.int .i64 h'.most,.slice An' h'.names.length cn',.slice Ap' n' cp',.string h'.name.1,.int .i64 h'.name.2] rfl rfl Qcv rfl (by simp [Value.oneCell']) ?_
     go_upto_region 8 with fail
     rw [← Hw5.out,← Hg5.out];obtain ⟨w6,g6,hw6,hg6,Hw6,Hg6,hS,hSE⟩:=T0 w5 22 #[.slice Al ll cl,.slice Ac lc cc];obtain ⟨HE6,HX6,HV6,HZ6,HS⟩:=Z5 (HE5.out.trans' hSE) (HX5.out.trans' hSE) (HV.out.ext hSE) (HZ5.out.ext hSE) hS;clear hw6 hg6 hS hSE;go_wp2_with fail
     rw [← Hw6.out,← Hg6.out];clear v3 v8;go_loopw [51] (fun i wr=>∃ j:Nat,j≤2∧i = .int .i64 (j:Int)∧Ext w6 wr∧Hid ((1≤j→((e1,a1):Flt)=(0,0))∧(2≤j→((e2,a2):Flt)=(0,0)))) (fun i _=>2 - (intOf i).toNat)
     case atStart=>exact ⟨0,by omega,rfl,Ext.rfl' _,fun h=>by omega,fun h=>by omega⟩
     case round =>
      obtain ⟨j,hj,rfl,hEi,HJ⟩:=hrel;have x0:=(HS.out.ext hEi).cell 0;have x1:=(HS.out.ext hEi).cell 1;have b12:=(HBe.out.ext (HE6.out.trans' hEi)).c12;simp only [gA,gH,gS] at x0 x1;rcases (show j=0∨j=1∨j=2 by omega) with rfl | rfl | rfl
      ·go_wp2_with fail
       refine (HOL.out wr (HX6.out.trans' hEi)).mono ?_;rintro e w7 ⟨rfl,hE7⟩;obtain ⟨w8,hw8,g8,hg8⟩:=V2 (w7.alloc (.cells #[.int .i64 e1,.int .i64 a1] 34)) (w7.heap.size);have hF8:Blk w8 g8 34 #[.int .i64 e1,.int .i64 a1]:=by rw [hw8,hg8]; exact Blk.new _ _ _
       have hE8:Ext wr w8:=by rw [hw8]; exact hE7.alloc hE7.size _
       obtain ⟨Hw8,Hg8,HE8,HZ8⟩:=Z4 hw8 hg8 (hEi.trans' hE8) (HZ6.out.ext (hEi.trans' hE8));obtain ⟨y0,y1⟩:=X2 hF8;clear hw8 hg8 hF8 hE8 hE7 x0 x1;go_upto_region 12 with fail
       rw [← Hw8.out,← Hg8.out];by_cases he:e1=0
       ·have hb1:(e1 == 0)=true:=by simpa using he
        have hb2:(e1 != 0)=false:=by simpa using he
        have HNXT:=hide (show (1≤1→((e1,a1):Flt)=(0,0))∧(2≤1→((e2,a2):Flt)=(0,0)) from ⟨fun _=>HSP.out.1.resolve_right (fun hh=>hh he),fun h=>by omega⟩)
        clear he hEi;go_wp2_with fail
        go_roundw
        case rel=>exact ⟨_,by omega,by go_num,HE8.out,HNXT.out⟩
        case measure=>simp [intOf]
       ·have hb1:(e1 == 0)=false:=by simpa using he
        have hb2:(e1 != 0)=true:=by simpa using he
        have HRR:=hide (show R=(e1,a1) from HIT.out _ (HLAB.out he) he)
        obtain ⟨z0,z1⟩:=X2 HZ8.out;obtain ⟨f0,f1⟩:=Y2 HZ8.out;clear he hEi;go_wp2_with fail
        exact Qa (f:=(e1,a1)) (g:=g2) ((HZ8.out.set_ 0 _).set_ 1 _) rfl rfl rfl ⟨by rw [HRR.out],ext_two' (HE2.out.trans' (HE6.out.trans' HE8.out)) hlo2 _ _⟩
      ·have hl0:=HJ.out.1 (by omega)
       go_wp2_with fail
       refine (HOC.out wr (HX6.out.trans' hEi)).mono ?_;rintro e w7 ⟨rfl,hE7⟩;obtain ⟨w8,hw8,g8,hg8⟩:=V2 (w7.alloc (.cells #[.int .i64 e2,.int .i64 a2] 34)) (w7.heap.size);have hF8:Blk w8 g8 34 #[.int .i64 e2,.int .i64 a2]:=by rw [hw8,hg8]; exact Blk.new _ _ _
       have hE8:Ext wr w8:=by rw [hw8]; exact hE7.alloc hE7.size _
       obtain ⟨Hw8,Hg8,HE8,HZ8⟩:=Z4 hw8 hg8 (hEi.trans' hE8) (HZ6.out.ext (hEi.trans' hE8));obtain ⟨y0,y1⟩:=X2 hF8;clear hw8 hg8 hF8 hE8 hE7 x0 x1;go_upto_region 12 with fail
       rw [← Hw8.out,← Hg8.out];by_cases he:e2=0
       ·have hb1:(e2 == 0)=true:=by simpa using he
        have hb2:(e2 != 0)=false:=by simpa using he
        have HNXT:=hide (show (1≤2→((e1,a1):Flt)=(0,0))∧(2≤2→((e2,a2):Flt)=(0,0)) from ⟨fun _=>hl0,fun _=>HSP.out.2.resolve_right (fun hh=>hh he)⟩)
        clear he hEi;go_wp2_with fail
        go_roundw
        case rel=>exact ⟨_,by omega,by go_num,HE8.out,HNXT.out⟩
        case measure=>simp [intOf]
       ·have hb1:(e2 == 0)=false:=by simpa using he
        have hb2:(e2 != 0)=true:=by simpa using he
        have HRR:=hide (show R=(e2,a2) from HIT.out _ (HCL.out hl0 he) he)
        obtain ⟨z0,z1⟩:=X2 HZ8.out;obtain ⟨f0,f1⟩:=Y2 HZ8.out;clear he hEi;go_wp2_with fail
        exact Qa (f:=(e2,a2)) (g:=g2) ((HZ8.out.set_ 0 _).set_ 1 _) rfl rfl rfl ⟨by rw [HRR.out],ext_two' (HE2.out.trans' (HE6.out.trans' HE8.out)) hlo2 _ _⟩
      ·have hl0:=HJ.out.1 (by omega)
       have hc0:=HJ.out.2 (by omega)
       have hpk:=HSUB.out hl0 hc0;have v2:=(HV6.out.ext hEi).cell 2;have v9:=(HV6.out.ext hEi).cell 9;have v10:=(HV6.out.ext hEi).cell 10;have v11:=(HV6.out.ext hEi).cell 11;have v12:=(HV6.out.ext hEi).cell 12;have v13:=(HV6.out.ext hEi).cell 13;have v14:=(HV6.out.ext hEi).cell 14;have v15:=(HV6.out.ext hEi).cell 15;have v16:=(HV6.out.ext hEi).cell 16;have v17:=(HV6.out.ext hEi).cell 17;simp only [gA,gH,gS] at v2 v9 v10 v11 v12 v13 v14 v15 v16 v17;obtain ⟨HEo,HEx,HZo⟩:=Z3 (HE6.out.trans' hEi) (HX6.out.trans' hEi) (HZ6.out.ext hEi);clear x0 x1 b12 hl0 hc0 hEi;cases br with
       | true =>
        rw [if_pos rfl] at hpk;have HST2:=hide (HST.out (by rw [hpk]))
        clear hpk;go_wp2_with fail
        go_roundw
        case rel=>exact ⟨k + 1,by omega,by go_num,HEo.out,HST2.out⟩
        case measure=>simp [intOf]; omega
       | false =>
        rw [if_neg (by decide)] at hpk
        obtain ⟨HPK,HC2⟩:=Z2 hpk (HCALL.out rfl wr HEx.out);clear hpk HCALL;go_wp2_with fail
        refine HC2.out.mono ?_;rintro e w7 ⟨rfl,hE7⟩;obtain ⟨w8,hw8,g8,hg8⟩:=V2 (w7.alloc (.cells #[.int .i64 e3,.int .i64 a3] 34)) (w7.heap.size);have hF8:Blk w8 g8 34 #[.int .i64 e3,.int .i64 a3]:=by rw [hw8,hg8]; exact Blk.new _ _ _
        have hE8:Ext wr w8:=by rw [hw8]; exact hE7.alloc hE7.size _
        obtain ⟨Hw8,Hg8,HE8,HZ8⟩:=Z4 hw8 hg8 (HEo.out.trans' hE8) (HZo.out.ext hE8);obtain ⟨y0,y1⟩:=X2 hF8;clear hw8 hg8 hF8 hE8 hE7 v2 v9 v10 v11 v12 v13 v14 v15 v16 v17;go_upto_region 17 with fail
        rw [← Hw8.out,← Hg8.out];by_cases he:e3=0
        ·have hb1:(e3 == 0)=true:=by simpa using he
         have hb2:(e3 != 0)=false:=by simpa using he
         have HST2:=hide (HST.out (by rw [HPK.out]; exact he))
         clear he;go_wp2_with fail
         go_roundw
         case rel=>exact ⟨k + 1,by omega,by go_num,HE8.out,HST2.out⟩
         case measure=>simp [intOf]; omega
        ·have hb1:(e3 == 0)=false:=by simpa using he
         have hb2:(e3 != 0)=true:=by simpa using he
         have HRR:=hide (show R=(e3,a3) from HIT.out _ HPK.out he)
         obtain ⟨z0,z1⟩:=X2 HZ8.out;obtain ⟨f0,f1⟩:=Y2 HZ8.out;clear he;go_wp2_with fail
         exact Qa (f:=(e3,a3)) (g:=g2) ((HZ8.out.set_ 0 _).set_ 1 _) rfl rfl rfl ⟨by rw [HRR.out],ext_two' (HE2.out.trans' HE8.out) hlo2 _ _⟩
    ·obtain rfl:k=n:=by omega
     have HRR:=hide (HMISS.out HA.out);obtain ⟨z0,z1⟩:=X2 HZr.out;obtain ⟨f0,f1⟩:=Y2 HZr.out;clear hE HA;go_wp2_with fail
     exact Qa (f:=(0,0)) (g:=g2) ((HZr.out.set_ 0 _).set_ 1 _) rfl rfl rfl ⟨by rw [HRR.out],ext_two' (HE2.out.trans' HE.out) hlo2 _ _⟩
def XN (gp:Nat) (A:Option Addr) (i:Nat):Prop:=i=gp∨∃ a,A=some a∧a.block=i
structure NSt (wK:World) (gp:Nat) (gl gt n cn:Nat) (An:Option Addr) (w:World) (A:Option Addr) (c:Nat) (L:List NodeP) (U:Nat→Prop):Prop where
 mv:Mv (fun i=>i=gp) wK w
 plan:Blk w gp 83 #[.pointer (some ⟨gl,0,none⟩),.slice A L.length c,.int .i64 0,.pointer (some ⟨gt,0,none⟩),.slice An n cn]
 row:∃ xs,w.ownsRow wK.heap.size 66 7 (.slice A L.length c) L.length xs∧∀ k (hk:k < L.length),ElAt w L[k] U ((xs.drop (k * 7)).take 7)
 free:∀ i,U i→i < w.heap.size∧¬ XN gp A i
def NStep (wK:World) (gp gl gt n cn:Nat) (An:Option Addr) (w:World) (A:Option Addr) (U:Nat→Prop) (L':List NodeP) (w':World):Prop :=
 ∃ A' c' U',NSt wK gp gl gt n cn An w' A' c' L' U'∧Mv (XN gp A) w w'∧(∀ a,A'=some a→A=some a∨w.heap.size≤a.block)∧∀ i,U' i→U i∨w.heap.size≤i
section
variable {wK w w' w2:World} {gp gl gt n cn c:Nat} {An A:Option Addr} {L:List NodeP} {U:Nat→Prop}
theorem NSt.ownA (h:NSt wK gp gl gt n cn An w A c L U):∀ a,A=some a→wK.heap.size≤a.block∧a.block < w.heap.size:=by
 obtain ⟨xs,ho,_⟩:=h.row;intro a ha;refine ⟨own_base ho a ha,?_⟩;rcases ho.2 with ⟨hv,_⟩ | ⟨g,cap,cur,hv,hb,hh,_⟩
 ·injection hv with h1; rw [ha] at h1; cases h1
 ·injection hv with h1; rw [ha] at h1; injection h1 with h1; rw [h1]
  rcases Nat.lt_or_ge g w.heap.size with hlt | hge
  ·exact hlt
  ·rw [Array.getElem?_eq_none hge] at hh; cases hh
theorem NSt.keep (h:NSt wK gp gl gt n cn An w A c L U) {Y:Nat→Prop} (hm:Mv Y w w') (hY:∀ i,Y i→wK.heap.size≤i) (hgp:¬ Y gp) (hA:∀ a,A=some a→¬ Y a.block) (hU:∀ i,U i→¬ Y i):NSt wK gp gl gt n cn An w' A c L U:=by
 obtain ⟨h1,h2,⟨xs,h3,h4⟩,h5⟩:=h;refine ⟨h1.trans' hm fun i hi _ hy=>absurd hi (Nat.not_lt.2 (hY i hy)),hm.blk h2 hgp,⟨xs,hm.own h3 fun g hg=>?_,fun k hk=>(h4 k hk).mv hm fun i hi=>⟨hU i hi,hi⟩⟩,fun i hi=>⟨Nat.lt_of_lt_of_le (h5 i hi).1 hm.size,(h5 i hi).2⟩⟩
 rcases h3.2 with ⟨hv,_⟩ | ⟨g',cap,cur,hv,_⟩
 ·rw [hv] at hg; cases hg
 ·injection hv with hv1
  have e:g'=g:=by rw [hv1] at hg; simpa [Value.ownBlock] using hg
  have:=hA _ hv1
  rw [← e]; exact this
theorem NSt.ext (h:NSt wK gp gl gt n cn An w A c L U) (hE:Ext w w'):NSt wK gp gl gt n cn An w' A c L U :=
 h.keep (Y:=fun _=>False) (Mv.of_ext hE) (fun _ hh=>hh.elim) (fun hh=>hh) (fun _ _ hh=>hh) (fun _ _ hh=>hh)
theorem NStep.refl (h:NSt wK gp gl gt n cn An w A c L U):NStep wK gp gl gt n cn An w A U L w :=
 ⟨A,c,U,h,Mv.rfl' _ _,fun _ ha=>.inl ha,fun _ hi=>.inl hi⟩
theorem NStep.ext {L':List NodeP} (h:NStep wK gp gl gt n cn An w A U L' w') (hE:Ext w' w2):NStep wK gp gl gt n cn An w A U L' w2:=by
 obtain ⟨A',c',U',h1,h2,h3,h4⟩:=h;exact ⟨A',c',U',h1.ext hE,h2.ext hE,h3,h4⟩
theorem XN.trans {A':Option Addr} (hA:∀ a,A'=some a→A=some a∨w.heap.size≤a.block):∀ i,i < w.heap.size→¬ XN gp A i→¬ XN gp A' i:=by
 intro i hi hx hx';rcases hx' with h | ⟨a,ha,h⟩
 ·exact hx (.inl h)
 ·rcases hA a ha with h1 | h1
  ·exact hx (.inr ⟨a,h1,h⟩)
  ·omega
end
theorem own_block_of {A:Option Addr} {n c g:Nat} (h:(Value.slice A n c).ownBlock=some g):∃ a,A=some a∧a.block=g:=by
 cases A with
 | none=>cases h
 | some a=>exact ⟨a,rfl,by simpa [Value.ownBlock] using h⟩
theorem Qlt {w:World} {base size n c:Nat} {e:TypeId} {A:Option Addr} {xs:List Value} (h:w.ownsRow base e size (.slice A n c) n xs):∀ a,A=some a→a=⟨a.block,0,none⟩:=by
 intro a ha;rcases h.2 with ⟨hv,_⟩ | ⟨g,cap,cur,hv,hb,_⟩
 ·injection hv with h1; rw [ha] at h1; cases h1
 ·injection hv with h1; rw [ha] at h1; injection h1 with h1; rw [h1]
theorem own_set {w:World} {base size n cap g j:Nat} {e:TypeId} {xs:List Value} (h:w.ownsRow base e size (.slice (some ⟨g,0,none⟩) n cap) n xs) (u:Value):(w.setCell ⟨g,j,none⟩ u).ownsRow base e size (.slice (some ⟨g,0,none⟩) n cap) n (xs.set j u):=by
 obtain ⟨hl,h2⟩:=h;refine ⟨by rw [List.length_set]; exact hl,?_⟩
 rcases h2 with ⟨hv,_⟩ | ⟨g',cap',cur,hv,hb,hh,hn,hc,hs,ht⟩
 ·cases hv
 ·injection hv with h1 _ h3
  injection h1 with h1
  injection h1 with h1
  subst h1; subst h3;refine .inr ⟨g,cap,cur.setIfInBounds j u,rfl,hb,Blk.set_ (show Blk w g e cur from hh) j u,hn,hc,by rw [Array.size_setIfInBounds]; exact hs,?_⟩
  rw [Array.toList_setIfInBounds,List.take_set,ht]
theorem Qe0 (xs:List Value) (k j:Nat) (hj:j < 7):((xs.drop (k * 7)).take 7)[j]? = xs[k * 7 + j]?:=by
 rw [List.getElem?_take_of_lt hj,List.getElem?_drop]
theorem Qe1 {xs vs:List Value} {n k:Nat} (hx:xs.length=n * 7) (hk:k < n):(((xs ++ vs).drop (k * 7)).take 7)=((xs.drop (k * 7)).take 7):=by
 apply List.ext_getElem?
 intro j;rcases Nat.lt_or_ge j 7 with hj | hj
 ·rw [Qe0 _ _ _ hj,Qe0 _ _ _ hj,List.getElem?_append_left (by omega)]
 ·rw [List.getElem?_take_eq_none hj,List.getElem?_take_eq_none hj]
theorem Qe2 {xs vs:List Value} {n:Nat} (hx:xs.length=n * 7) (hv:vs.length=7):(((xs ++ vs).drop (n * 7)).take 7)=vs:=by
 rw [← hx,List.drop_left,← hv,List.take_length]
theorem Qkn {xs:List Value} {k me j:Nat} {u:Value} (hj:j < 7) (hk:k≠me):(((xs.set (me * 7 + j) u).drop (k * 7)).take 7)=((xs.drop (k * 7)).take 7):=by
 apply List.ext_getElem?
 intro i;rcases Nat.lt_or_ge i 7 with hi | hi
 ·rw [Qe0 _ _ _ hi,Qe0 _ _ _ hi,List.getElem?_set_ne (by omega)]
 ·rw [List.getElem?_take_eq_none hi,List.getElem?_take_eq_none hi]
theorem Qlu {xs:List Value} {me j:Nat} {u:Value} (hj:j < 7):(((xs.set (me * 7 + j) u).drop (me * 7)).take 7)=((xs.drop (me * 7)).take 7).set j u:=by
 rw [List.drop_set,if_neg (by omega),Nat.add_sub_cancel_left,List.take_set]
section
variable {wK w w' wX:World} {gp gl gt n cn c c':Nat} {An A A':Option Addr} {L:List NodeP} {U V:Nat→Prop}
theorem NSt.push {xs vs:List Value} {nd:NodeP} (h:NSt wK gp gl gt n cn An w A c L U) (hel:∀ k (hk:k < L.length),ElAt w L[k] U ((xs.drop (k * 7)).take 7)) (hx:xs.length=L.length * 7) (hX:Ext w wX)
  (hO:w'.ownsRow wK.heap.size 66 7 (.slice A' (L.length + 1) c') (L.length + 1) (xs ++ vs)) (hg:wX.grownBy w' (Value.slice A L.length c).ownBlock)
  (hb:Value.ownBlock (.slice A' (L.length + 1) c')=(Value.slice A L.length c).ownBlock∨Value.ownBlock (.slice A' (L.length + 1) c')=some wX.heap.size)
  (hnd:ElAt w' nd V vs) (hV:∀ i,V i→i < w'.heap.size∧i≠gp∧w.heap.size≤i∧i < wX.heap.size) (hgpK:gp < wK.heap.size) :
  NSt wK gp gl gt n cn An (w'.setCell ⟨gp,1,none⟩ (.slice A' (L.length + 1) c')) A' c' (L ++ [nd]) (fun i=>U i∨V i)∧Mv (XN gp A) w (w'.setCell ⟨gp,1,none⟩ (.slice A' (L.length + 1) c'))∧∀ a,A'=some a→A=some a∨w.heap.size≤a.block:=by
 have hmX:Mv (fun i=>∃ a,A=some a∧a.block=i) wX w':=Mv.of_grown hg fun g hg'=>own_block_of hg'
 have hmw:Mv (fun i=>∃ a,A=some a∧a.block=i) w w':=(Mv.of_ext hX).trans hmX
 have hAK:=h.ownA;have hbase:=own_base hO;have hrel:∀ a,A'=some a→A=some a∨w.heap.size≤a.block:=by
  intro a ha;rcases hb with hb | hb
  ·rw [ha] at hb;obtain ⟨a2,ha2,e2⟩:=own_block_of (A:=A) (g:=a.block) (n:=L.length) (c:=c) hb.symm;left
   obtain ⟨xs0,ho0,_⟩:=h.row;rw [Qlt hO a ha,← e2,← Qlt ho0 a2 ha2];exact ha2
  ·right
   rw [ha] at hb;have:a.block=wX.heap.size:=by simpa [Value.ownBlock] using hb
   rw [this]; exact hX.size
 have hm1:Mv (XN gp A) w (w'.setCell ⟨gp,1,none⟩ (.slice A' (L.length + 1) c')):=(hmw.more (Y:=XN gp A) fun i _ hi=>.inr hi).set (.inr (.inl rfl)) _
 have hgp':gp < w.heap.size:=Nat.lt_of_lt_of_le hgpK h.mv.size;have hnA:¬ ∃ a,A=some a∧a.block=gp:=fun ⟨a,ha,e⟩=>by have:=hAK a ha; omega
 have hP':=hmw.blk h.plan hnA;have hset:Mv (fun i=>i=gp) w' (w'.setCell ⟨gp,1,none⟩ (.slice A' (L.length + 1) c')):=(Mv.rfl' (fun i=>i=gp) w').set (.inr rfl) _
 have hUa:∀ i,U i→¬ (∃ a,A=some a∧a.block=i)∧U i:=fun i hi=>⟨fun hh=>(h.free i hi).2 (.inr hh),hi⟩
 have hgU:∀ i,U i→¬ i=gp:=fun i hi e=>(h.free i hi).2 (.inl e)
 refine ⟨⟨?_,?_,⟨xs ++ vs,?_,?_⟩,?_⟩,hm1,hrel⟩
 ·refine h.mv.trans' hm1 fun i hi _ hx=>?_
  rcases hx with hx | ⟨a,ha,e⟩
  ·contradiction
  ·have:=hAK a ha; omega
 ·have:=hP'.set_ 1 (.slice A' (L.length + 1) c')
  rw [List.length_append];exact this
 ·rw [List.length_append];refine hset.own hO fun g hg' e=>?_
  obtain ⟨a,ha,e2⟩:=own_block_of hg';have:=hbase a ha
  omega
 ·intro k hk;rw [List.length_append,List.length_singleton] at hk;rcases Nat.lt_or_ge k L.length with hk1 | hk1
  ·rw [List.getElem_append_left hk1,Qe1 hx hk1];exact (((hel k hk1).mv hmw hUa).mv hset fun i hi=>⟨hgU i hi,.inl hi⟩)
  ·obtain rfl:k=L.length:=by omega
   rw [List.getElem_append_right nL,Qe2 hx hnd.len];simp only [Nat.sub_self,gD];exact hnd.mv hset fun i hi=>⟨(hV i hi).2.1,.inr hi⟩
 ·intro i hi;have hs:(w'.setCell ⟨gp,1,none⟩ (.slice A' (L.length + 1) c')).heap.size=w'.heap.size:=size_setCell' _ _ _;rw [hs];rcases hi with hi | hi
  ·refine ⟨Nat.lt_of_lt_of_le (h.free i hi).1 hmw.size,fun hx=>?_⟩
   rcases hx with hx | ⟨a,ha,e⟩
   ·exact hgU i hi hx
   ·rcases hrel a ha with h1 | h1
    ·exact (h.free i hi).2 (.inr ⟨a,h1,e⟩)
    ·have:=(h.free i hi).1; omega
  ·obtain ⟨v1,v2,v3,v4⟩:=hV i hi;refine ⟨v1,fun hx=>?_⟩
   rcases hx with hx | ⟨a,ha,e⟩
   ·exact v2 hx
   ·rcases hb with hb | hb
    ·rw [ha] at hb;obtain ⟨a2,ha2,e2⟩:=own_block_of hb.symm;have:=hAK a2 ha2
     omega
    ·rw [ha] at hb;have:a.block=wX.heap.size:=by simpa [Value.ownBlock] using hb
     omega
theorem NSt.edges {me:Nat} {es:List EdgeP} {Ae:Option Addr} {ce g cap:Nat} (h:NSt wK gp gl gt n cn An w (some ⟨g,0,none⟩) cap L U) (hme:me < L.length) (_h0:L[me].edges = []) (he:EdgesAt w w.heap.size Ae es) (hV:∀ a,Ae=some a→a.block < w.heap.size∧a.block≠gp∧a.block≠g) :
  NSt wK gp gl gt n cn An (w.setCell ⟨g,me * 7 + 6,none⟩ (.slice Ae es.length ce)) (some ⟨g,0,none⟩) cap (L.set me { L[me] with edges:=es }) (fun i=>U i∨∃ a,Ae=some a∧a.block=i):=by
 obtain ⟨xs,hO,hel⟩:=h.row;have hAK:=h.ownA _ rfl;have hset:Mv (fun i=>i=g) w (w.setCell ⟨g,me * 7 + 6,none⟩ (.slice Ae es.length ce)):=(Mv.rfl' (fun i=>i=g) w).set (.inr rfl) _
 have hUg:∀ i,U i→¬ i=g:=fun i hi e=>(h.free i hi).2 (.inr ⟨_,rfl,e.symm⟩)
 have hgpg:¬ gp=g:=fun e=>by
  have hp:=h.plan;rcases hO.2 with ⟨hv,_⟩ | ⟨g',cap',cur,hv,_,hh,_⟩
  ·cases hv
  ·injection hv with h1 _ _; injection h1 with h1; injection h1 with h1
   rw [← h1,← e] at hh;unfold Blk at hp;rw [hp] at hh;injection hh with hh; injection hh with _ hh
   exact absurd hh (by decide)
 refine ⟨?_,?_,⟨xs.set (me * 7 + 6) (.slice Ae es.length ce),?_,?_⟩,?_⟩
 ·exact h.mv.trans' hset fun i hi _ e=>by have:=hAK.1; simp only at this; omega
 ·rw [List.length_set]; exact hset.blk h.plan hgpg
 ·rw [List.length_set]; exact own_set hO _
 ·intro k hk;rw [List.length_set] at hk;have hkk:=(hel k hk).mv hset fun i hi=>⟨hUg i hi,(.inl hi:U i∨∃ a,Ae=some a∧a.block=i)⟩
  by_cases e:me=k
  ·subst e;rw [List.getElem_set_self,Qlu (by omega)]
   obtain ⟨A1,c1,A2,c2,hvs,q1,q2,q3,q4⟩:=hkk;refine ⟨A1,c1,Ae,ce,?_,q1,Reads.mv he hset fun a ha e=>?_,q3,fun a ha=>.inr ⟨a,ha,rfl⟩⟩
   ·rw [hvs]; rfl
   ·exact (hV a ha).2.2 e
  ·rw [List.getElem_set_ne e,Qkn (by omega) (fun e'=>e e'.symm)]
   exact hkk
 ·intro i hi;rw [size_setCell'];rcases hi with hi | ⟨a,ha,rfl⟩
  ·exact h.free i hi
  ·refine ⟨(hV a ha).1,fun hx=>?_⟩
   rcases hx with hx | ⟨a2,ha2,e⟩
   ·exact (hV a ha).2.1 hx
   ·injection ha2 with ha2
    exact (hV a ha).2.2 (by rw [← e,← ha2])
end
theorem Qq8:∃ i,Tryz.prog.info? 66=some i∧i.zero=some (.agg #[.int .i64 0,.int .i64 0,.int .i64 0,.int .i64 0,.int .i64 0,.slice none 0 0,.slice none 0 0])∧i.size=7∧i.bytes=88 :=
 Qal (a:=7) (b:=88) (v:=.agg #[.int .i64 0,.int .i64 0,.int .i64 0,.int .i64 0,.int .i64 0,.slice none 0 0,.slice none 0 0]) (s:=7) (by kernel_rfl)
theorem Qj6:∃ i,Tryz.prog.info? 70=some i∧i.zero=some (.agg #[.string ⟨#[]⟩,.bool false,.int .i64 0,.int .i64 0,.int .i64 0,.int .i64 0,.int .i64 0,.int .i64 0,.int .i64 0,.int .i64 0])∧i.size=10∧i.bytes=88 :=
 Qal (a:=10) (b:=88) (v:=.agg #[.string ⟨#[]⟩,.bool false,.int .i64 0,.int .i64 0,.int .i64 0,.int .i64 0,.int .i64 0,.int .i64 0,.int .i64 0,.int .i64 0]) (s:=10) (by kernel_rfl)
structure NCtx (s:Sch) (w0 wK:World) (gb gl gp gt n3 c3 cn:Nat) (A3 An:Option Addr) (xs:List Value) (mm:Int):Prop where
 hB:BldAt wK gb A3 n3 c3 xs gl gp mm
 hne:gb≠gp
 hE:Ext w0 wK
 hgp:w0.heap.size≤gp
 hgpK:gp < wK.heap.size
 hL:LatAt w0 gl s.ws s.os
 ok:LatOk s
 tab:TabB wK (fun i=>i≠gp) gt s.names
 named:NatAt wK wK.heap.size An (starts s s.n)
 hAn:∀ a,An=some a→a.block≠gp
 few:s.n≤64
section
variable {s:Sch} {w0 wK:World} {gb gl gp gt n3 c3 cn:Nat} {A3 An:Option Addr} {xs:List Value} {mm:Int}
theorem NCtx.bld (h:NCtx s w0 wK gb gl gp gt n3 c3 cn A3 An xs mm) {w:World} (hm:Mv (fun i=>i=gp) wK w):BldAt w gb A3 n3 c3 xs gl gp mm:=h.hB.mv hm h.hne
theorem NCtx.old (h:NCtx s w0 wK gb gl gp gt n3 c3 cn A3 An xs mm) {w:World} (hm:Mv (fun i=>i=gp) wK w):Ext w0 w:=hm.below h.hE fun i hi=>by rw [hi]; exact h.hgp
theorem NCtx.lat (h:NCtx s w0 wK gb gl gp gt n3 c3 cn A3 An xs mm) {w:World} (hm:Mv (fun i=>i=gp) wK w):LatAt w gl s.ws s.os:=h.hL.ext (h.old hm)
theorem NCtx.tb (h:NCtx s w0 wK gb gl gp gt n3 c3 cn A3 An xs mm) {w:World} (hm:Mv (fun _i=>_i=gp) wK w):TabAt w gt s.names:=(h.tab.mv hm fun _i hi=>hi).tab
theorem NCtx.nmd (h:NCtx s w0 wK gb gl gp gt n3 c3 cn A3 An xs mm) {w:World} (hm:Mv (fun i=>i=gp) wK w):NatAt w w.heap.size An (starts s s.n):=Reads.mv h.named hm h.hAn
end
def Qiy (s:Sch) (w0 wK:World) (gb gl gp gt cn:Nat) (An:Option Addr) (t:Ty):Prop:=∀ (w:World) (A:Option Addr) (c:Nat) (L:List NodeP) (U:Nat→Prop) (vs:List Value),
 NSt wK gp gl gt s.n cn An w A c L U→L.length + nodC t≤2000→TyAt w0 w0.heap.size t vs →
 Calls Tryz.prog 36 #[.pointer (some ⟨gb,0,none⟩),.agg vs.toArray] w (fun e w'=>e = .returned (.int .i64 (s.nodeI t L.length:Nat))∧NStep wK gp gl gt s.n cn An w A U (L ++ s.nodesOf t L.length) w')
def Sch.edgeX (s:Sch) (q:PtH) (t:Ty) (len:Nat):EdgeP :=
 { name:=q.name.1,bare:=q.bare,at_:=q.name.2,tgt:=if q.bare=true then -1 else (s.nodeI t len:Nat),label:=ofI s.ws s.os q.label,wide:=if q.wide=0 then 3 else q.wide,coarse:=q.ck,n:=q.cn,seen:=ofI s.ws s.os q.cl,cat:=q.cat }
theorem NStep.local_ {wK w w5 w6 w7:World} {gp gl gt n cn c:Nat} {An A:Option Addr} {L L':List NodeP} {U:Nat→Prop} (hst:NSt wK gp gl gt n cn An w A c L U) (hgp:gp < wK.heap.size) (hE:Ext w w5) (h:NStep wK gp gl gt n cn An w5 A U L' w6) (hm:Mv (fun i=>w.heap.size≤i∧i < w5.heap.size) w6 w7):NStep wK gp gl gt n cn An w A U L' w7:=by
 obtain ⟨A',c',U',k1,k2,k3,k4⟩:=h;have hKw:=hst.mv.size;refine ⟨A',c',U',k1.keep hm (fun i hi=>Nat.le_trans hKw hi.1) (fun hh=>by omega) (fun a ha hh=>?_) (fun i hi hh=>?_),((Mv.of_ext hE).trans k2).trans' hm fun i hi _ hh=>by omega,fun a ha=>?_,fun i hi=>?_⟩
 ·rcases k3 a ha with h1 | h1
  ·have:=(hst.ownA a h1).2; omega
  ·omega
 ·rcases k4 i hi with h1 | h1
  ·have:=(hst.free i h1).1; omega
  ·omega
 ·exact (k3 a ha).imp id fun h1=>Nat.le_trans hE.size h1
 ·exact (k4 i hi).imp id fun h1=>Nat.le_trans hE.size h1
theorem Qcx:(Tryz.prog.info? 70).map (·.size)=some 10:=by kernel_rfl
theorem Qb8 {w:World} {g:Nat} {t:TypeId} {l:List Value} (h:Blk w g t l.toArray):w.rangeAt g 0 l:=by
 intro j v hv;rw [Nat.zero_add,h.cell j,gA];exact hv
theorem Qs1 {g:Nat} {t:TypeId} (zs:List Value):∀ (xs ys:List Value) (w:World),Blk w g t (xs ++ ys).toArray→ys.length=zs.length→Blk (w.setCells g xs.length zs) g t (xs ++ zs).toArray:=by
 induction zs with
 | nil=>intro xs ys w h hl; rw [List.eq_nil_of_length_eq_zero hl] at h; exact h
 | cons z r ih =>
  intro xs ys w h hl;cases ys with
  | nil=>cases hl
  | cons y s =>
   have h1:=h.set_ xs.length z;have e:(xs ++ y :: s).toArray.setIfInBounds xs.length z=((xs ++ [z]) ++ s).toArray:=by simp
   have h2:Blk (w.setCell ⟨g,xs.length,none⟩ z) g t ((xs ++ [z]) ++ s).toArray:=by rw [← e]; simpa using h1
   have h3:=ih (xs ++ [z]) s _ h2 (by simpa using hl)
   rw [List.length_append] at h3;have e2:(xs ++ [z]) ++ r=xs ++ z :: r:=by simp
   rw [e2] at h3;exact h3
theorem Qdr {g:Nat} {t:TypeId} {w:World} (zs ys:List Value) (h:Blk w g t ys.toArray) (hl:ys.length=zs.length):Blk (w.setCells g 0 zs) g t zs.toArray:=Qs1 zs [] ys w h hl
theorem Mv.setCells {X:Nat→Prop} {a b:World} (h:Mv X a b) {g:Nat} (hg:X g) (vs:List Value):∀ (o:Nat),Mv X a (b.setCells g o vs):=by
 induction vs generalizing b with
 | nil=>intro o; exact h
 | cons v r ih=>intro o; exact ih (h.set (.inr hg) v) (o + 1)
theorem Blk.setL {w:World} {g:Nat} {t:TypeId} {l:List Value} (h:Blk w g t l.toArray) (i:Nat) (u:Value):Blk (w.setCell ⟨g,i,none⟩ u) g t (l.set i u).toArray:=by
 have:=h.set_ i u
 rwa [gE] at this
theorem Qlv {g:Nat} {w2:World} {fn:Func} {p:Tmp} {a:Act} {R:Ending→World→Prop} {cs:Array Value} (hB:Blk w2 g 70 cs) (h10:cs.size=10) (hfn:fn.results=#[.cell p 70]) (hp:a.tmps.getD p undef = .pointer (some ⟨g,0,none⟩)) (hd:a.defers = [])
  (hR:R (.returned (.agg cs)) w2):bodyPost Tryz.prog fn R .ret a w2 :=
 bodyPost_ret (results_cell_row hfn _ _ g 70 cs (0,0) _ hp hB Tryz.underlying70 rfl (by rw [h10]; kernel_rfl)) hd hR
set_option maxRecDepth 100000 in
set_option maxHeartbeats 20000000 in
theorem edge_any (s : Sch) (w0 wK : World) (gb gl gp gt n3 c3 cn : Nat) (A3 An : Option Addr) (xs : List Value) (mm : Int) (hC : NCtx s w0 wK gb gl gp gt n3 c3 cn A3 An xs mm) (q : PtH) (t : Ty) (hs1 : Qi q.label) (hs2 : Qi q.cl) (w : World) (A : Option Addr) (c : Nat) (L : List NodeP) (U : Nat → Prop) (vs : List Value)
    (hst : NSt wK gp gl gt s.n cn An w A c L U) (hlen : q.bare = false → L.length + nodC t ≤ 2000) (hP : PartAt w0 w0.heap.size q t vs) (hnode : q.bare = false → Qiy s w0 wK gb gl gp gt cn An t) :
    Calls Tryz.prog 76 #[.pointer (some ⟨gb, 0, none⟩), .agg vs.toArray] w (fun e w' => e = .returned (.agg (edgeV (s.edgeX q t L.length)).toArray) ∧ NStep wK gp gl gt s.n cn An w A U (L ++ if q.bare = true then [] else s.nodesOf t L.length) w') := by
  have hE0 := hC.old hst.mv;have hBw := hC.bld hst.mv;obtain ⟨Al, cl, Ac, cc, vt, rfl, hl, hc, hT⟩ := hP;have hv1 := fun w1 (hE : Ext w w1) => Qj2 gb gl gp n3 c3 A3 xs mm s Al cl _ q.label w1 (hBw.ext hE) ((hC.lat hst.mv).ext hE) hC.ok ((hl.ext hE0).ext hE) rfl (by have := hs1.1; omega)
  have hv2 := fun w1 (hE : Ext w w1) => Qj2 gb gl gp n3 c3 A3 xs mm s Ac cc _ q.cl w1 (hBw.ext hE) ((hC.lat hst.mv).ext hE) hC.ok ((hc.ext hE0).ext hE) rfl (by have := hs2.1; omega)
  have hnd := fun (hb : q.bare = false) w1 (hs : NSt wK gp gl gt s.n cn An w1 A c L U) => hnode hb w1 A c L U vt hs (hlen hb) hT
  obtain ⟨y0, y1, y2, y3, y4, y5, y6, y7, y8, rfl⟩ : ∃ y0 y1 y2 y3 y4 y5 y6 y7 y8 : Value, vt = [y0, y1, y2, y3, y4, y5, y6, y7, y8] := by obtain ⟨y0, y1, y2, y3, y4, y5, y6, y7, y8, e⟩ := hT.nine; exact ⟨y0, y1, y2, y3, y4, y5, y6, y7, y8, e⟩
  have hX : s.edgeX q t L.length = { name := q.name.1, bare := q.bare, at_ := q.name.2, tgt := if q.bare = true then -1 else (s.nodeI t L.length : Nat), label := ofI s.ws s.os q.label, wide := if q.wide = 0 then 3 else q.wide, coarse := q.ck, n := q.cn, seen := ofI s.ws s.os q.cl, cat := q.cat } := rfl;obtain ⟨EX, hEX⟩ : ∃ x, x = s.edgeX q t L.length := ⟨_, rfl⟩;rw [← hEX] at hX ⊢;obtain ⟨v1, hv1_⟩ : ∃ x, x = ofI s.ws s.os q.label := ⟨_, rfl⟩;obtain ⟨v2, hv2_⟩ : ∃ x, x = ofI s.ws s.os q.cl := ⟨_, rfl⟩;obtain ⟨NI, hNI⟩ : ∃ x, x = s.nodeI t L.length := ⟨_, rfl⟩;obtain ⟨NL, hNL⟩ : ∃ x, x = s.nodesOf t L.length := ⟨_, rfl⟩;rw [← hv1_, ← hv2_, ← hNI] at hX;rw [← hv1_] at hv1;rw [← hv2_] at hv2;rw [← hNI, ← hNL] at hnd;rw [← hNL];unfold ptV;obtain ⟨nm, hnm_⟩ : ∃ x, x = q.name.1 := ⟨_, rfl⟩;obtain ⟨na, hna_⟩ : ∃ x, x = q.name.2 := ⟨_, rfl⟩;obtain ⟨br, hbr_⟩ : ∃ x, x = q.bare := ⟨_, rfl⟩;obtain ⟨ll, hll_⟩ : ∃ x, x = q.label.length := ⟨_, rfl⟩;obtain ⟨wi, hwi_⟩ : ∃ x, x = q.wide := ⟨_, rfl⟩;obtain ⟨ck, hck_⟩ : ∃ x, x = q.ck := ⟨_, rfl⟩;obtain ⟨cn2, hcn2_⟩ : ∃ x, x = q.cn := ⟨_, rfl⟩;obtain ⟨ca, hca_⟩ : ∃ x, x = q.cat := ⟨_, rfl⟩;obtain ⟨lc, hlc_⟩ : ∃ x, x = q.cl.length := ⟨_, rfl⟩;rw [← hnm_, ← hna_, ← hbr_, ← hwi_, ← hck_, ← hcn2_, ← hca_] at hX;rw [← hbr_] at hnd;rw [← hll_] at hv1;rw [← hlc_] at hv2;rw [← hnm_, ← hna_, ← hbr_, ← hll_, ← hwi_, ← hck_, ← hcn2_, ← hca_, ← hlc_];have HV1 := hide hv1;have HV2 := hide hv2;have HND := hide hnd;have HX := hide hX;have HST := hide hst;have HGPK := hide hC.hgpK;obtain ⟨w1, hw1⟩ : ∃ wZ, wZ = w.alloc (.cells #[.string nm, .int .i64 na, .bool br, .slice Al ll cl, .int .i64 wi, .int .i64 ck, .int .i64 cn2, .int .i64 ca, .slice Ac lc cc, y0, y1, y2, y3, y4, y5, y6, y7, y8] 131) := ⟨_, rfl⟩;obtain ⟨g1, hg1⟩ : ∃ gZ, gZ = w.heap.size := ⟨_, rfl⟩;have hV : Blk w1 g1 131 #[.string nm, .int .i64 na, .bool br, .slice Al ll cl, .int .i64 wi, .int .i64 ck, .int .i64 cn2, .int .i64 ca, .slice Ac lc cc, y0, y1, y2, y3, y4, y5, y6, y7, y8] := by rw [hw1, hg1]; exact Blk.new _ _ _
  have hVE : Ext w w1 := by rw [hw1]; exact (Ext.rfl' w).alloc (Nat.le_refl _) _
  have Hw1 := hide hw1;have Hg1 := hide hg1;obtain ⟨w2, hw2⟩ : ∃ wZ, wZ = w1.alloc (.cells #[.string ⟨#[]⟩, .bool false, .int .i64 0, .int .i64 0, .int .i64 0, .int .i64 0, .int .i64 0, .int .i64 0, .int .i64 0, .int .i64 0] 70) := ⟨_, rfl⟩;obtain ⟨g2, hg2⟩ : ∃ gZ, gZ = w1.heap.size := ⟨_, rfl⟩;have hR : Blk w2 g2 70 #[.string ⟨#[]⟩, .bool false, .int .i64 0, .int .i64 0, .int .i64 0, .int .i64 0, .int .i64 0, .int .i64 0, .int .i64 0, .int .i64 0] := by rw [hw2, hg2]; exact Blk.new _ _ _
  have hRE : Ext w1 w2 := by rw [hw2]; exact (Ext.rfl' w1).alloc (Nat.le_refl _) _
  have Hw2 := hide hw2;have Hg2 := hide hg2;have Hg2' := hide (show g2 = g1 + 1 by rw [hg2, hw1, World.size_alloc, ← hg1])
  have HE2 := hide (hVE.trans' hRE);have HV := hide (hV.ext hRE);have HR := hide hR;have hlo1 : w.heap.size ≤ g1 := by omega
  have hlo2 : w.heap.size ≤ g2 := by have := hVE.size; omega
  have hg12 : g1 < w2.heap.size := (hV.ext hRE).lt;have hg22 : g2 < w2.heap.size := hR.lt;show Calls Tryz.prog 76 #[.pointer (some ⟨gb, 0, none⟩), .agg #[.string nm, .int .i64 na, .bool br, .slice Al ll cl, .int .i64 wi, .int .i64 ck, .int .i64 cn2, .int .i64 ca, .slice Ac lc cc, y0, y1, y2, y3, y4, y5, y6, y7, y8]] w _
  have t0 := HV.out.cell 0;have t1 := HV.out.cell 1;have t2 := HV.out.cell 2;have t3 := HV.out.cell 3;have t4 := HV.out.cell 4;have t5 := HV.out.cell 5;have t6 := HV.out.cell 6;have t7 := HV.out.cell 7;have t8 := HV.out.cell 8;simp only [List.getElem?_toArray, List.getElem?_cons_zero, List.getElem?_cons_succ] at t0 t1 t2 t3 t4 t5 t6 t7 t8;have HT := hide (show ∀ w', Ext w2 w' → Blk w' g1 131 #[.string nm, .int .i64 na, .bool br, .slice Al ll cl, .int .i64 wi, .int .i64 ck, .int .i64 cn2, .int .i64 ca, .slice Ac lc cc, y0, y1, y2, y3, y4, y5, y6, y7, y8] from fun w' hE => HV.out.ext hE)
  clear hw1 hg1 hw2 hg2 hV hVE hR hRE hv1 hv2 hnd hX hst hC hs1 hs2 hlen hnode hE0 hBw hl hc hT hEX hv1_ hv2_ hNI hNL hnm_ hna_ hbr_ hll_ hwi_ hck_ hcn2_ hca_ hlc_;go_enter Tryz.func76, Tryz.ntmps76
  go_upto_region 1 with fail
  rw [← Hw1.out, ← Hg1.out, ← Hw2.out, ← Hg2'.out];go_cut [5] (fun v wx => ∃ g5, v = .pointer (some ⟨g5, 0, none⟩) ∧ w2.heap.size ≤ g5 ∧ Blk wx g5 70 #[.string nm, .bool br, .int .i64 na, .int .i64 (-1), .int .i64 v1, .int .i64 wi, .int .i64 0, .int .i64 0, .int .i64 0, .int .i64 0] ∧ Ext w2 wx)
  case first =>
    have hone : ∀ v ∈ ([.string nm, .bool br, .int .i64 na, .int .i64 (-1), .int .i64 v1, .int .i64 wi, .int .i64 0, .int .i64 0, .int .i64 0, .int .i64 0] : List Value), v.oneCell' = true := by intro v hv; simp at hv; rcases hv with rfl | rfl | rfl | rfl | rfl | rfl | rfl | rfl | rfl | rfl <;> rfl
    have hinf : (Tryz.prog.info? 70).map (·.size) = some (#[.string nm, .bool br, .int .i64 na, .int .i64 (-1), .int .i64 v1, .int .i64 wi, .int .i64 0, .int .i64 0, .int .i64 0, .int .i64 0] : Array Value).size := by kernel_rfl
    have HCL := hide (show ∀ w', Ext w2 w' → w'.cell? ⟨g1, 0, none⟩ = some (.string nm) ∧ w'.cell? ⟨g1, 1, none⟩ = some (.int .i64 na) ∧ w'.cell? ⟨g1, 2, none⟩ = some (.bool br) ∧ w'.cell? ⟨g1, 3, none⟩ = some (.slice Al ll cl) ∧ w'.cell? ⟨g1, 4, none⟩ = some (.int .i64 wi) from fun w' hE => have hB1 := HT.out w' hE; ⟨hB1.cell 0, hB1.cell 1, hB1.cell 2, hB1.cell 3, hB1.cell 4⟩)
    go_region_held3 (fun w' => w'.cell? ⟨g1, 0, none⟩ = some (.string nm) ∧ w'.cell? ⟨g1, 1, none⟩ = some (.int .i64 na) ∧ w'.cell? ⟨g1, 2, none⟩ = some (.bool br) ∧ w'.cell? ⟨g1, 3, none⟩ = some (.slice Al ll cl) ∧ w'.cell? ⟨g1, 4, none⟩ = some (.int .i64 wi)) (first | (with_reducible exact hS) | (with_reducible exact HCL.out _ (((((((((((HEz.out).setCell (Nat.le_refl _) _).setCell (Nat.le_refl _) _).setCell (Nat.le_refl _) _).setCell (Nat.le_refl _) _).setCell (Nat.le_refl _) _).setCell (Nat.le_refl _) _).setCell (Nat.le_refl _) _).setCell (Nat.le_refl _) _).setCell (Nat.le_refl _) _).setCell (Nat.le_refl _) _)) | (with_reducible exact HCL.out _ (HEz.out.alloc HEz.out.size _)) | (with_reducible exact HCL.out _ (Ext.drew' (Ext.rfl' w2))) | go_keep)
      ((first
        | (go_at_call 111
           refine (HV1.out _ (by first | exact HE2.out.drew' | exact (HE2.out.drew').alloc HE2.out.size _)).mono ?_
           rintro e wz ⟨rfl, hEz⟩;have HEz := hide (show Ext w2 wz by first | exact ((Ext.rfl' w2).drew').trans' hEz | exact Ext.trans' (((Ext.rfl' w2).drew').alloc (Nat.le_refl _) _) hEz)
           (first
             | (have hB2 := Blk.ext (show Blk (w2.alloc (.cells (#[.string ⟨#[]⟩, .bool false, .int .i64 0, .int .i64 0, .int .i64 0, .int .i64 0, .int .i64 0, .int .i64 0, .int .i64 0, .int .i64 0] : Array Value) 70)).drew w2.heap.size 70 (#[.string ⟨#[]⟩, .bool false, .int .i64 0, .int .i64 0, .int .i64 0, .int .i64 0, .int .i64 0, .int .i64 0, .int .i64 0, .int .i64 0] : Array Value) from Blk.new w2 _ _) hEz
                have k0 := hB2.cell 0;have kf0 := hB2.free 0;have k1 := hB2.cell 1;have kf1 := hB2.free 1;have k2 := hB2.cell 2;have kf2 := hB2.free 2;have k3 := hB2.cell 3;have kf3 := hB2.free 3;have k4 := hB2.cell 4;have kf4 := hB2.free 4;have k5 := hB2.cell 5;have kf5 := hB2.free 5;have k6 := hB2.cell 6;have kf6 := hB2.free 6;have k7 := hB2.cell 7;have kf7 := hB2.free 7;have k8 := hB2.cell 8;have kf8 := hB2.free 8;have k9 := hB2.cell 9;have kf9 := hB2.free 9;simp only [List.getElem?_toArray, List.getElem?_cons_zero, List.getElem?_cons_succ] at k0 k1 k2 k3 k4 k5 k6 k7 k8 k9;have HB2 := hide hB2;clear hB2)
             | skip)
           have hS := HCL.out wz HEz.out;clear hEz)))
    · go_wp2_with fail
      go_meet
      exact ⟨wz.heap.size, rfl, HEz.out.size, Blk.new _ _ _, HEz.out.alloc HEz.out.size _⟩
    · go_wp2_with fail
      go_meet
      have hb := ((((((((((HB2.out).setL 0 (.string nm)).setL 1 (.bool br)).setL 2 (.int .i64 na)).setL 3 (.int .i64 (-1))).setL 4 (.int .i64 v1)).setL 5 (.int .i64 wi)).setL 6 (.int .i64 0)).setL 7 (.int .i64 0)).setL 8 (.int .i64 0)).setL 9 (.int .i64 0);simp only [List.set_cons_zero, List.set_cons_succ] at hb;have hx : Ext w2 _ := ((((((((((HEz.out).setCell (p := ⟨w2.heap.size, 0, none⟩) (Nat.le_refl _) (.string nm)).setCell (p := ⟨w2.heap.size, 1, none⟩) (Nat.le_refl _) (.bool br)).setCell (p := ⟨w2.heap.size, 2, none⟩) (Nat.le_refl _) (.int .i64 na)).setCell (p := ⟨w2.heap.size, 3, none⟩) (Nat.le_refl _) (.int .i64 (-1))).setCell (p := ⟨w2.heap.size, 4, none⟩) (Nat.le_refl _) (.int .i64 v1)).setCell (p := ⟨w2.heap.size, 5, none⟩) (Nat.le_refl _) (.int .i64 wi)).setCell (p := ⟨w2.heap.size, 6, none⟩) (Nat.le_refl _) (.int .i64 0)).setCell (p := ⟨w2.heap.size, 7, none⟩) (Nat.le_refl _) (.int .i64 0)).setCell (p := ⟨w2.heap.size, 8, none⟩) (Nat.le_refl _) (.int .i64 0)).setCell (p := ⟨w2.heap.size, 9, none⟩) (Nat.le_refl _) (.int .i64 0);refine ⟨w2.heap.size, rfl, Nat.le_refl _, ?_, ?_⟩
      · with_reducible exact hb
      · with_reducible exact hx
  case rest =>
    rename World => wx
    obtain ⟨g5, rfl, hlo5, hB5, hE5⟩ := hcut;have c5 := hB5.cell 5;have cf5 := hB5.free 5;simp only [List.getElem?_toArray, List.getElem?_cons_zero, List.getElem?_cons_succ] at c5;have HB5 := hide hB5;have HE5 := hide hE5;clear hB5 hE5 t0 t1 t2 t3 t4 t5 t6 t7 t8;have HCL4 := hide (show ∀ w', Ext w2 w' → w'.cell? ⟨g1, 5, none⟩ = some (.int .i64 ck) ∧ w'.cell? ⟨g1, 6, none⟩ = some (.int .i64 cn2) ∧ w'.cell? ⟨g1, 7, none⟩ = some (.int .i64 ca) ∧ w'.cell? ⟨g1, 8, none⟩ = some (.slice Ac lc cc) from fun w' hE => have hB1 := HT.out w' hE; ⟨hB1.cell 5, hB1.cell 6, hB1.cell 7, hB1.cell 8⟩)
    obtain ⟨wd, hwd⟩ : ∃ wd : Int, wd = if wi = 0 then 3 else wi := ⟨_, rfl⟩;have HWD := hide hwd;clear hwd;go_upto_if 23 with fail
    go_cut [] (fun wy => Blk wy g5 70 #[.string nm, .bool br, .int .i64 na, .int .i64 (-1), .int .i64 v1, .int .i64 wd, .int .i64 0, .int .i64 0, .int .i64 0, .int .i64 0] ∧ Ext w2 wy)
    case first =>
      by_cases hwi : wi = 0
      · have hb : (wi == 0) = true := by rw [hwi]; rfl
        have hwd := HWD.out;rw [if_pos hwi] at hwd;have HWD3 := hide hwd;clear hwd hwi;go_wp2_with fail
        go_meet
        exact ⟨by rw [HWD3.out]; exact HB5.out.set_ 5 _, HE5.out.setCell (p := ⟨g5, 5, none⟩) hlo5 _⟩
      · have hb : (wi == 0) = false := by simpa using hwi
        have hwd := HWD.out;rw [if_neg hwi] at hwd;have HWD3 := hide hwd;clear hwd hwi;go_wp2_with fail
        go_meet
        exact ⟨by rw [HWD3.out]; exact HB5.out, HE5.out⟩
    case rest =>
      rename World => w3
      obtain ⟨hB3, hE3⟩ := hcut;have HB3 := hide hB3;have HE3 := hide hE3;clear hB3 hE3 c5 cf5;go_upto_region 4 with fail
      go_region_held3 (fun w' => w'.cell? ⟨g1, 5, none⟩ = some (.int .i64 ck) ∧ w'.cell? ⟨g1, 6, none⟩ = some (.int .i64 cn2) ∧ w'.cell? ⟨g1, 7, none⟩ = some (.int .i64 ca) ∧ w'.cell? ⟨g1, 8, none⟩ = some (.slice Ac lc cc)) (first | (with_reducible exact hS) | (with_reducible exact HCL4.out _ ((HEz.out).setCell (p := ⟨g5, 6, none⟩) hlo5 _)) | (with_reducible exact HCL4.out _ (((HEz.out).setCell (p := ⟨g5, 6, none⟩) hlo5 _).setCell (p := ⟨g5, 7, none⟩) hlo5 _)) | (with_reducible exact HCL4.out _ ((((HEz.out).setCell (p := ⟨g5, 6, none⟩) hlo5 _).setCell (p := ⟨g5, 7, none⟩) hlo5 _).setCell (p := ⟨g5, 9, none⟩) hlo5 _)) | (with_reducible exact HCL4.out _ (((((HEz.out).setCell (p := ⟨g5, 6, none⟩) hlo5 _).setCell (p := ⟨g5, 7, none⟩) hlo5 _).setCell (p := ⟨g5, 9, none⟩) hlo5 _).setCell (p := ⟨g5, 8, none⟩) hlo5 _)) | (with_reducible exact HCL4.out _ (Ext.drew' HE3.out)) | go_keep)
        ((first
          | (go_at_call 111
             refine (HV2.out _ ((HE2.out.trans' HE3.out).drew')).mono ?_;rintro e wz ⟨rfl, hEz⟩;have hE3z := ((Ext.rfl' w3).drew').trans' hEz;have HEz := hide (HE3.out.trans' hE3z);have hBz := HB3.out.ext hE3z;have k6 := hBz.cell 6;have kf6 := hBz.free 6;have k7 := hBz.cell 7;have kf7 := hBz.free 7;have k8 := hBz.cell 8;have kf8 := hBz.free 8;have k9 := hBz.cell 9;have kf9 := hBz.free 9;simp only [List.getElem?_toArray, List.getElem?_cons_zero, List.getElem?_cons_succ] at k6 k7 k8 k9;have HBz := hide hBz;have hS := HCL4.out wz HEz.out;clear hEz hE3z hBz)))
      have hX6 : Ext w2 ((((wz.setCell ⟨g5, 6, none⟩ (.int .i64 ck)).setCell ⟨g5, 7, none⟩ (.int .i64 cn2)).setCell ⟨g5, 9, none⟩ (.int .i64 ca)).setCell ⟨g5, 8, none⟩ (.int .i64 v2)) := ((((HEz.out.setCell (p := ⟨g5, 6, none⟩) hlo5 _).setCell (p := ⟨g5, 7, none⟩) hlo5 _).setCell (p := ⟨g5, 9, none⟩) hlo5 _).setCell (p := ⟨g5, 8, none⟩) hlo5 _);have hB6 := (((HBz.out.setL 6 (.int .i64 ck)).setL 7 (.int .i64 cn2)).setL 9 (.int .i64 ca)).setL 8 (.int .i64 v2);simp only [List.set_cons_zero, List.set_cons_succ] at hB6;go_upto_region 5 with fail
      obtain ⟨w6, hw6⟩ : ∃ z, z = ((((wz.setCell ⟨g5, 6, none⟩ (.int .i64 ck)).setCell ⟨g5, 7, none⟩ (.int .i64 cn2)).setCell ⟨g5, 9, none⟩ (.int .i64 ca)).setCell ⟨g5, 8, none⟩ (.int .i64 v2)) := ⟨_, rfl⟩;rw [← hw6] at hX6 hB6 ⊢;have HX6 := hide hX6;have hT6 := HT.out w6 hX6;have hF2 := HR.out.ext hX6;have u2 := hT6.cell 2;have u9 := hT6.cell 9;have u10 := hT6.cell 10;have u11 := hT6.cell 11;have u12 := hT6.cell 12;have u13 := hT6.cell 13;have u14 := hT6.cell 14;have u15 := hT6.cell 15;have u16 := hT6.cell 16;have u17 := hT6.cell 17;simp only [List.getElem?_toArray, List.getElem?_cons_zero, List.getElem?_cons_succ] at u2 u9 u10 u11 u12 u13 u14 u15 u16 u17;have HN6 := hide (HST.out.ext (HE2.out.trans' hX6));have HS6 := hide hX6.size;clear hw6 hX6 hT6;cases br with
      | true =>
        have hx := HX.out;rw [if_pos rfl, ← HWD.out] at hx;have HXE := hide hx;have hF5 := hB6;clear hx hB6 HX HND;have hrg := Qb8 hF5;have hth := Qbo hF2 (o := 0) (m := (#[.string nm, .bool true, .int .i64 na, .int .i64 (-1), .int .i64 v1, .int .i64 wd, .int .i64 ck, .int .i64 cn2, .int .i64 v2, .int .i64 ca] : Array Value).size) (Nat.le_refl _);have hbf := Qdr [.string nm, .bool true, .int .i64 na, .int .i64 (-1), .int .i64 v1, .int .i64 wd, .int .i64 ck, .int .i64 cn2, .int .i64 v2, .int .i64 ca] [.string ⟨#[]⟩, .bool false, .int .i64 0, .int .i64 0, .int .i64 0, .int .i64 0, .int .i64 0, .int .i64 0, .int .i64 0, .int .i64 0] hF2 rfl;have HBF := hide hbf;have HRG5 := hide hrg;have HTH2 := hide hth;clear hF5 hF2 hrg hth hbf;go_upto_region 7 with fail
        refine wp_region_lit ?_;refine wpList_load_mid rfl 70 _ rfl g5 0 rfl _ _ HRG5.out Tryz.underlying70 rfl Qcx ?_;refine wpList_store_mid rfl 70 _ _ rfl g2 0 #[.string nm, .bool true, .int .i64 na, .int .i64 (-1), .int .i64 v1, .int .i64 wd, .int .i64 ck, .int .i64 cn2, .int .i64 v2, .int .i64 ca] rfl rfl HTH2.out (by kernel_rfl) (by simp [Value.oneCell']) ?_
        go_wp2_with fail
        refine Qlv (g := g2) HBF.out rfl rfl rfl rfl ⟨by rw [HXE.out]; rfl, ?_⟩
        (try rw [if_pos rfl])
        (try rw [List.append_nil])
        have hmv := Mv.setCells (X := fun i => w.heap.size ≤ i ∧ i < w6.heap.size) (g := g2) (Mv.rfl' _ w6) ⟨hlo2, Nat.lt_of_lt_of_le hg22 HS6.out⟩ [.string nm, .bool true, .int .i64 na, .int .i64 (-1), .int .i64 v1, .int .i64 wd, .int .i64 ck, .int .i64 cn2, .int .i64 v2, .int .i64 ca] 0
        have hee := HE2.out.trans' HX6.out;have h1 := NStep.refl HN6.out;have h0 := HST.out;have h2 := NStep.local_ h0 HGPK.out hee h1 hmv;with_reducible exact h2
      | false =>
        have hx := HX.out;rw [if_neg (by decide), ← HWD.out] at hx
        have HXE := hide hx;have HC6 := hide (HND.out rfl w6 HN6.out);have HB6 := hide hB6;have HF2 := hide hF2;clear hx hB6 hF2 HX HND;go_wp2_with fail
        refine HC6.out.mono ?_;rintro e w7 ⟨rfl, hN7⟩;have hm7 : Mv (XN gp A) w6 w7 := by obtain ⟨_, _, _, _, h, _⟩ := hN7; exact h
        have hk := HST.out.mv.size;have hxl : ∀ i, w.heap.size ≤ i → ¬ XN gp A i := fun i hi hx => by
          rcases hx with hx | ⟨a, ha, hx⟩
          · have := HGPK.out; omega
          · have := (HST.out.ownA a ha).2; omega
        have hw2l : w.heap.size ≤ g5 := Nat.le_trans HE2.out.size hlo5;have hB7 := hm7.blk HB6.out (hxl g5 hw2l);have hF7 := hm7.blk HF2.out (hxl g2 hlo2);have hg25 : g2 ≠ g5 := by have := hg22; omega
        have hs5 : g5 < w6.heap.size := HB6.out.lt;have HG5 := hide hs5;have d3 := hB7.cell 3;have df3 := hB7.free 3;simp only [List.getElem?_toArray, List.getElem?_cons_zero, List.getElem?_cons_succ] at d3;have hB8 := hB7.setL 3 (.int .i64 (NI : Int));simp only [List.set_cons_zero, List.set_cons_succ] at hB8;have hF8 : Blk (w7.setCell ⟨g5, 3, none⟩ (.int .i64 (NI : Int))) g2 70 #[.string ⟨#[]⟩, .bool false, .int .i64 0, .int .i64 0, .int .i64 0, .int .i64 0, .int .i64 0, .int .i64 0, .int .i64 0, .int .i64 0] := hF7.far hg25 _;have HN7 := hide hN7;clear hN7 hm7 hB7 hF7 u2 u9 u10 u11 u12 u13 u14 u15 u16 u17;go_upto_region 7 with fail
        obtain ⟨w8, hw8⟩ : ∃ z, z = w7.setCell ⟨g5, 3, none⟩ (.int .i64 (NI : Int)) := ⟨_, rfl⟩;have HM8 := hide (show Mv (fun i => w.heap.size ≤ i ∧ i < w6.heap.size) w7 w8 by rw [hw8]; exact (Mv.rfl' _ _).set (g := g5) (.inr ⟨hw2l, hs5⟩) _)
        rw [← hw8] at hB8 hF8 ⊢;have hF5 := hB8;have hF2 := hF8;clear hw8 hB8 hF8 d3 df3 hk hxl hw2l hg25 hs5;have hrg := Qb8 hF5;have hth := Qbo hF2 (o := 0) (m := (#[.string nm, .bool false, .int .i64 na, .int .i64 (NI : Int), .int .i64 v1, .int .i64 wd, .int .i64 ck, .int .i64 cn2, .int .i64 v2, .int .i64 ca] : Array Value).size) (Nat.le_refl _);have hbf := Qdr [.string nm, .bool false, .int .i64 na, .int .i64 (NI : Int), .int .i64 v1, .int .i64 wd, .int .i64 ck, .int .i64 cn2, .int .i64 v2, .int .i64 ca] [.string ⟨#[]⟩, .bool false, .int .i64 0, .int .i64 0, .int .i64 0, .int .i64 0, .int .i64 0, .int .i64 0, .int .i64 0, .int .i64 0] hF2 rfl;have HBF := hide hbf;have HRG5 := hide hrg;have HTH2 := hide hth;clear hF5 hF2 hrg hth hbf;refine wp_region_lit ?_;refine wpList_load_mid rfl 70 _ rfl g5 0 rfl _ _ HRG5.out Tryz.underlying70 rfl Qcx ?_;refine wpList_store_mid rfl 70 _ _ rfl g2 0 #[.string nm, .bool false, .int .i64 na, .int .i64 (NI : Int), .int .i64 v1, .int .i64 wd, .int .i64 ck, .int .i64 cn2, .int .i64 v2, .int .i64 ca] rfl rfl HTH2.out (by kernel_rfl) (by simp [Value.oneCell']) ?_
        rename_i Kz hKz
        obtain ⟨w9, hw9⟩ : ∃ z, z = w8.setCells g2 0 [.string nm, .bool false, .int .i64 na, .int .i64 (NI : Int), .int .i64 v1, .int .i64 wd, .int .i64 ck, .int .i64 cn2, .int .i64 v2, .int .i64 ca] := ⟨_, rfl⟩;have hmv := Mv.setCells (X := fun i => w.heap.size ≤ i ∧ i < w6.heap.size) (g := g2) HM8.out ⟨hlo2, Nat.lt_of_lt_of_le hg22 HS6.out⟩ [.string nm, .bool false, .int .i64 na, .int .i64 (NI : Int), .int .i64 v1, .int .i64 wd, .int .i64 ck, .int .i64 cn2, .int .i64 v2, .int .i64 ca] 0
        have hb9 := HBF.out;rw [← hw9] at hmv hb9;have HMV := hide hmv;have HB9 := hide hb9;show wpList _ _ _ _ _ (w8.setCells g2 0 [.string nm, .bool false, .int .i64 na, .int .i64 (NI : Int), .int .i64 v1, .int .i64 wd, .int .i64 ck, .int .i64 cn2, .int .i64 v2, .int .i64 ca])
        rw [← hw9];clear hw9 hmv hb9;refine wpList_nil ?_;refine hKz _ _ ?_;go_wp2_with fail
        refine Qlv (g := g2) HB9.out rfl rfl rfl rfl ⟨by rw [HXE.out]; rfl, ?_⟩
        (try rw [if_neg (by decide)])
        (try rw [List.append_nil])
        have hee := HE2.out.trans' HX6.out;have h1 := HN7.out;have h0 := HST.out;have h2 := NStep.local_ h0 HGPK.out hee h1 HMV.out;with_reducible exact h2
def Sch.Known (s:Sch):Ty→Prop
 | .nil=>True
 | .mk h n p t=>(h.kind=9→0≤findL s.names h.name.1)∧∀ i,i < n→(p i).bare=false→Sch.Known s (t i)
theorem Sch.edgeX_eq (s:Sch) (me me':Nat) (p:Nat→PtH) (t:Nat→Ty) (k:Nat):s.edgeX (p k) (t k) (me + 1 + (s.kidsTo p t me' k).length)=s.edgeP me p t k:=by
 unfold Sch.edgeX Sch.edgeP;congr 1
 unfold Sch.toI Sch.nodeI;rw [Sch.kidsTo_length];by_cases hb:(p k).bare=true
 ·rw [if_pos hb,if_pos hb]
 ·rw [if_neg hb,if_neg hb];by_cases hk:(t k).kd=9
  ·rw [if_pos hk,if_pos hk]
  ·rw [if_neg hk,if_neg hk]
def Qa9 (s:Sch) (me:Nat) (p:Nat→PtH) (t:Nat→Ty) (k:Nat):List EdgeP:=(List.range k).map (s.edgeP me p t)
theorem Qc1 (s:Sch) (me:Nat) (p:Nat→PtH) (t:Nat→Ty) (k:Nat):(Qa9 s me p t k).length=k:=by simp [Qa9]
theorem Qq9 (s:Sch) (me:Nat) (p:Nat→PtH) (t:Nat→Ty) (k:Nat):Qa9 s me p t (k + 1)=Qa9 s me p t k ++ [s.edgeP me p t k]:=by
 unfold Qa9;rw [List.range_succ,List.map_append];rfl
theorem Qe3 (s:Sch) (me:Nat) (p:Nat→PtH) (t:Nat→Ty) (k:Nat):edgeCells (Qa9 s me p t (k + 1))=edgeCells (Qa9 s me p t k) ++ edgeV (s.edgeP me p t k):=by
 rw [Qq9,Qhu];congr 1
def nd0 (h:TyH):NodeP:=⟨h.kind,h.at_,h.lo,h.hi,h.most,nms h.names,[]⟩
theorem Quv {α:Type} (L K:List α) (a b:α):(L ++ a :: K).set L.length b=L ++ b :: K:=by
 rw [List.set_append_right _ _ nL,Nat.sub_self];rfl
theorem Qra (s:Sch) (h:TyH) (n:Nat) (p:Nat→PtH) (t:Nat→Ty) (L:List NodeP) (hk:h.kind≠9):L ++ s.nodesOf (.mk h n p t) L.length=L ++ { nd0 h with edges:=Qa9 s L.length p t n } :: s.kidsTo p t (L.length + 1) n:=by
 rw [Sch.nodesOf_own s L.length hk];rfl
theorem Qrb (s:Sch) (h:TyH) (p:Nat→PtH) (t:Nat→Ty) (L:List NodeP) (k:Nat):(L ++ nd0 h :: s.kidsTo p t (L.length + 1) k) ++ (if (p k).bare=true then [] else s.nodesOf (t k) (L ++ nd0 h :: s.kidsTo p t (L.length + 1) k).length)=L ++ nd0 h :: s.kidsTo p t (L.length + 1) (k + 1):=by
 rw [Sch.kidsTo_succ,List.append_assoc,List.cons_append];congr 3
 rw [List.length_append,List.length_cons,show L.length + ((s.kidsTo p t (L.length + 1) k).length + 1)=L.length + 1 + (s.kidsTo p t (L.length + 1) k).length by omega]
theorem Qhw (s:Sch) (h:TyH) (p:Nat→PtH) (t:Nat→Ty) (L:List NodeP) (k:Nat):(L ++ nd0 h :: s.kidsTo p t (L.length + 1) k).length=L.length + 1 + (s.kidsTo p t (L.length + 1) k).length:=by
 rw [List.length_append,List.length_cons]; omega
theorem kids_room {h:TyH} {n:Nat} {p:Nat→PtH} {t:Nat→Ty} {s:Sch} {L:List NodeP} (hk:h.kind≠9) (hlen:L.length + nodC (.mk h n p t)≤2000) {k:Nat} (hkn:k < n) (hb:(p k).bare=false):(L ++ nd0 h :: s.kidsTo p t (L.length + 1) k).length + nodC (t k)≤2000:=by
 rw [Qhw,Sch.kidsTo_length];rw [Qbn hk] at hlen;have:=Qa5 (f:=fun i=>if (p i).bare=true then 0 else nodC (t i)) hkn
 rw [if_neg (show ¬ (p k).bare=true by rw [hb]; decide)] at this
 omega
set_option maxRecDepth 100000 in
theorem Qs2 (s:Sch) (w0 wK:World) (gb gl gp gt n3 c3 cn:Nat) (A3 An:Option Addr) (xs:List Value) (mm:Int) (hC:NCtx s w0 wK gb gl gp gt n3 c3 cn A3 An xs mm) (h:TyH) (n:Nat) (p:Nat→PtH) (t:Nat→Ty) (hk:h.kind=9) (hkn:0≤findL s.names h.name.1) (h0:0 < s.n):Qiy s w0 wK gb gl gp gt cn An (.mk h n p t):=by
 intro w A c L U vs hst _ hT;obtain ⟨Ai,ci,Ap,cp,rfl,_,_⟩:=hT.open_;rw [Sch.nodesOf_ref s L.length hk,List.append_nil];have hI:s.nodeI (.mk h n p t) L.length=s.start (s.find h.name.1):=if_pos hk;rw [hI];have HB:=hide (hC.bld hst.mv);have HP:=hide hst.plan;have hFx:=fun w1 (hE:Ext w w1)=>(show Calls Tryz.prog 72 #[.pointer (some ⟨gt,0,none⟩),.string h.name.1] w1 (fun e w'=>e = .returned (.tuple #[.int .i64 (s.find h.name.1:Nat),.bool true])∧Ext w1 w') by
  have:=Qbh gt s.names h.name.1 w1 ((hC.tb hst.mv).ext hE) (by have:=hC.few; simp [Sch.names]; omega)
  rw [Qff,decide_eq_true hkn] at this;exact this)
 obtain ⟨b,o,rfl,hb,hc⟩:=(hC.nmd hst.mv).cell (by rw [Qb1]; exact h0)
 have hlt:=Qb6 h0 h.name.1;have hcell:=hc (s.find h.name.1) (by rw [Qb1]; exact hlt)
 have hel:(starts s s.n)[s.find h.name.1]'(by rw [Qb1]; exact hlt)=s.start (s.find h.name.1):=by simp [starts]
 rw [hel] at hcell;obtain ⟨x,hx,fi,hfi⟩:=V2 (h.name.1) (s.find h.name.1);rw [← hfi] at hcell hFx hlt ⊢;obtain ⟨st,hst_⟩:=V1 (s.start fi);rw [← hst_] at hcell ⊢;rw [← hx] at hFx;unfold tyV;rw [← hx];have hk':(h.kind == 9)=true:=by rw [hk]; rfl
 obtain ⟨HFx,HST,HCL⟩:=Z3 hFx hst hcell;have i0:=nZ fi;have i1:(fi:Int) < (s.n:Int):=by omega
 obtain ⟨w1,g1,hw1,hg1,Hw1,Hg1,hT1,hT1E⟩:=T0 w 29 #[.int .i64 h.kind,.int .i64 h.at_,.int .i64 h.lo,.int .i64 h.hi,.int .i64 h.most,.slice Ai h.names.length ci,.slice Ap n cp,.string x,.int .i64 h.name.2];obtain ⟨t0,-,-,-,-,-,-,t7⟩:=X8 hT1;obtain ⟨HE1,HP1,HB1,HT1,HBS⟩:=Z5 hT1E (HP.out.ext hT1E) (HB.out.ext hT1E) hT1 hb;clear hw1 hg1 hT1 hT1E hC hst hcell hfi hst_ hx hFx hT hc hel hI hkn hlt h0 hk hb;go_enter Tryz.func36,Tryz.ntmps36
 go_upto_region 1 with fail
 rw [← Hw1.out,← Hg1.out];go_wp2_with fail
 clear t0 t7;refine Qbf (by kernel_rfl) (by kernel_rfl) w1 (Ext.rfl' _) ?_
 intro I _ f hf hc;have q3:∀ n,(f n).cell? ⟨gp,3,none⟩=some (.pointer (some ⟨gt,0,none⟩)):=fun n=>(HP1.out.ext (hf n)).cell 3
 have q13:∀ n,(f n).cell? ⟨gb,13,none⟩=some (.pointer (some ⟨gp,0,none⟩)):=fun n=>(HB1.out.ext (hf n)).c13
 have q7:∀ n,(f n).cell? ⟨g1,7,none⟩=some (.string x):=fun n=>(HT1.out.ext (hf n)).cell 7
 obtain ⟨H1,HG⟩:=Z2 (fun n=>Qcr hf hc (HFx.out (f n) (HE1.out.trans' (hf n)))) hf
 clear hf hc;repeat (go_big_quiet_step ((go_at_call 72; with_reducible exact H1.out _)))
 refine wpQuiet_nil ?_;rintro _ ⟨nq,rfl⟩;have hEq:=HE1.out.trans' (HG.out nq);obtain ⟨w3,hw3⟩:=V1 (f nq);have b13:=q13 nq;have p4:=(HP1.out.ext (HG.out nq)).cell 4;have cc:=(hEq.cell (p:=⟨b,o + fi,none⟩) HBS.out).trans HCL.out;rw [← hw3] at hEq b13 p4 cc ⊢;simp only [gA,gH,gS] at p4;have HEQ:=hide hEq;clear q3 q13 q7 hw3 hEq;go_wp2_with fail
 go_ret
 exact ⟨rfl,NStep.ext (NStep.refl HST.out) HEQ.out⟩
end Go.Proofs.YtanpljalbijfkaaGreat
