/- . -/
import Derived.Test.YtanpljalbijfkaaGreatQ26
import Derived.Test.YtanpljalbijfkaaGreatQ28
namespace Go.Proofs.YtanpljalbijfkaaGreat
open Go.RowKit
set_option maxHeartbeats 16000000
theorem Qkd {s:Sch} {i:Nat} (h:i < s.names.length):s.names[i]=(s.nm i).1:=by simp [Sch.names]
theorem Qfm (s:Sch):s.names.length=s.n:=by simp [Sch.names]
set_option maxRecDepth 100000 in
theorem dFind_any (s:Sch) (vs:List Value) (x:ByteArray) (w:World) (hS:SchAt w s vs) (h100:s.n≤100):Calls Tryz.prog 80 #[.agg vs.toArray,.string x] w (fun e w'=>e = .returned (.int .i64 (findL s.names x))∧Ext w w'):=by
 obtain ⟨A1,c1,A2,c2,A3,c3,vr,rfl,hA1,hA2,hA3,hR⟩:=hS;obtain ⟨y0,y1,y2,y3,y4,y5,y6,y7,y8,rfl⟩:∃ y0 y1 y2 y3 y4 y5 y6 y7 y8:Value,vr = [y0,y1,y2,y3,y4,y5,y6,y7,y8]:=by obtain ⟨y0,y1,y2,y3,y4,y5,y6,y7,y8,e⟩:=hR.nine; exact ⟨y0,y1,y2,y3,y4,y5,y6,y7,y8,e⟩
 obtain ⟨nw,hnw,no,hno,n,hn⟩:=V3 (s.ws.length) (s.os.length) (s.n);have HNM:=hide hA3;rw [← hn] at HNM h100;rw [← hnw,← hno,← hn];have HN:=hide hn;have hn0:=nZ n;clear hnw hno hn hA1 hA2 hA3 hR;show Calls Tryz.prog 80 #[.agg #[.slice A1 nw c1,.slice A2 no c2,.slice A3 n c3,y0,y1,y2,y3,y4,y5,y6,y7,y8],.string x] w _
 obtain ⟨w1,g1,hw1,hg1,Hw1,Hg1,hV,hVE⟩:=T0 w 31 #[.slice A1 nw c1,.slice A2 no c2,.slice A3 n c3,y0,y1,y2,y3,y4,y5,y6,y7,y8];obtain ⟨-,-,t2⟩:=X3 hV;have HE1:=hide hVE;clear hw1 hg1 hV hVE;go_enter Tryz.func80,Tryz.ntmps80
 go_upto_region 1 with fail
 rw [← Hw1.out,← Hg1.out];go_wp2_with fail
 go_loopw [5] (fun i wr=>∃ k:Nat,k≤n∧i = .int .i64 (k:Int)∧w1=wr∧Hid (∀ j (hj:j < s.names.length),j < k→s.names[j]≠x)) (fun i _=>n - (intOf i).toNat)
 case atStart=>exact ⟨0,Nat.zero_le _,rfl,rfl,fun j _ hj=>absurd hj (Nat.not_lt_zero _)⟩
 case round =>
  obtain ⟨k,hk,rfl,rfl,HA⟩:=hrel;by_cases hlt:k < n
  ·have hkl:k < s.names.length:=by rw [Qfm]; have:=HN.out; omega
   obtain ⟨b,o,rfl,hb,hc⟩:=HNM.out (by omega)
   obtain ⟨vt,h1,_⟩:=hc k hlt;have c0:=(HE1.out.cell (p:=⟨b,o + k * 11,none⟩) hb).trans (h1 0 (.string (s.nm k).1) rfl);obtain ⟨y,hy⟩:=V1 ((s.nm k).1);rw [← hy] at c0;have HX:=hide (show y=s.names[k] by rw [Qkd]; exact hy)
   have i0:=nZ k;have i1:(k:Int) < (n:Int):=by omega
   clear hc h1 hy hb;cases he:(y.toList == x.toList) with
   | true =>
    have hf:=Qeo hkl HA.out (by rw [← HX.out]; have:=Q8 y x; rw [he] at this; simpa using this.symm)
    have HF:=hide hf;clear hf;go_wp2_with fail
    go_ret
    exact ⟨Qq (by unfold findL; rw [HF.out]),HE1.out⟩
   | false =>
    have hn:∀ j (hj:j < s.names.length),j < k + 1→s.names[j]≠x:=fun j hj hjk=>by
     by_cases e:j=k
     ·subst e; rw [← HX.out]; have:=Q8 y x; rw [he] at this; simpa using this.symm
     ·exact HA.out j hj (by omega)
    have HNN:=hide hn;clear hn HA;go_wp2_with fail
    go_roundw
    case rel=>exact ⟨k + 1,by omega,by go_num,by trivial,HNN.out⟩
    case measure=>simp [intOf]; omega
  ·obtain rfl:k=n:=by omega
   have hf:=findIdx_miss fun j hj=>HA.out j hj (by rw [Qfm] at hj; have:=HN.out; omega)
   have HF:=hide hf;clear hf;go_wp2_with fail
   go_ret
   exact ⟨Qq (by unfold findL; rw [HF.out]),HE1.out⟩
theorem Qt6 {ws us:List Wd} {k:Nat} (hk:k < us.length) (h0:∀ j,j < k→Qab ws us j=none) (h:findL (nms ws) (wNm us k) < 0):ofF ws us=(17,wPl us k):=by
 unfold ofF;rw [Qk hk h0 (show Qab ws us k=some (17,wPl us k) by unfold Qab; rw [if_pos h])]
theorem Qtc {ws us:List Wd} (h0:∀ j,j < us.length→Qab ws us j=none):ofF ws us=(0,0):=by
 unfold ofF;rw [firstOf_miss.2 h0]
theorem Qtd {ws us:List Wd} {k:Nat} (h:¬ findL (nms ws) (wNm us k) < 0):Qab ws us k=none:=by
 unfold Qab;rw [if_neg h]
set_option maxRecDepth 100000 in
theorem dWord_any (s:Sch) (vs:List Value) (A:Option Addr) (c m:Nat) (us:List Wd) (w:World) (hS:SchAt w s vs) (h100:s.ws.length≤100) (hu:WdsAt w w.heap.size A us) (hm:m=us.length) (hmb:m≤5864062014634):Calls Tryz.prog 96 #[.agg vs.toArray,.slice A m c] w (fun e w'=>e = .returned (fltV (ofF s.ws us))∧Ext w w'):=by
 obtain ⟨A1,c1,A2,c2,A3,c3,vr,rfl,hA1,hA2,hA3,hR⟩:=hS;obtain ⟨y0,y1,y2,y3,y4,y5,y6,y7,y8,rfl⟩:∃ y0 y1 y2 y3 y4 y5 y6 y7 y8:Value,vr = [y0,y1,y2,y3,y4,y5,y6,y7,y8]:=by obtain ⟨y0,y1,y2,y3,y4,y5,y6,y7,y8,e⟩:=hR.nine; exact ⟨y0,y1,y2,y3,y4,y5,y6,y7,y8,e⟩
 obtain ⟨nw,hnw,no,hno,n,hn⟩:=V3 (s.ws.length) (s.os.length) (s.n);have HFI:=hide (fun w1 (hE:Ext w w1) x=>Qei A1 c1 nw s.ws x w1 (hA1.ext hE) hnw (by omega))
 rw [← hnw,← hno,← hn];obtain ⟨HM,HU⟩:=Z2 hm hu;have hm0:=nZ m;obtain ⟨R,hR_⟩:=V1 (ofF s.ws us);rw [← hR_];have HRR:=hide hR_;clear hnw hno hn hA1 hA2 hA3 hR hm hu hR_;show Calls Tryz.prog 96 #[.agg #[.slice A1 nw c1,.slice A2 no c2,.slice A3 n c3,y0,y1,y2,y3,y4,y5,y6,y7,y8],.slice A m c] w _
 obtain ⟨w1,g1,hw1,hg1,Hw1,Hg1,hV,hVE⟩:=T0 w 31 #[.slice A1 nw c1,.slice A2 no c2,.slice A3 n c3,y0,y1,y2,y3,y4,y5,y6,y7,y8];obtain ⟨w2,g4,hw2,hg4,Hw2,Hg4,hZ,hZE⟩:=T0 w1 34 #[.int .i64 0,.int .i64 0];have Hg4':=hide (show g4=g1 + 1 by rw [hg4,hw1,World.size_alloc,← hg1])
 obtain ⟨HE2,HZ2⟩:=Z2 (hVE.trans' hZE) hZ;have hlo4:w.heap.size≤g4:=by have:=hVE.size; omega
 have HV2:=hide (hV.ext hZE);have t0:=X1 HV2.out;obtain ⟨z0,z1⟩:=X2 HZ2.out;obtain ⟨f0,f1⟩:=Y2 HZ2.out;clear hw1 hg1 hw2 hg4 hV hVE hZ hZE;go_enter Tryz.func96,Tryz.ntmps96
 go_upto_region 1 with fail
 rw [← Hw1.out,← Hg1.out,← Hw2.out,← Hg4'.out];go_wp2_with fail
 go_loopw [5] (fun i wr=>∃ k:Nat,k≤m∧i = .int .i64 (k:Int)∧Ext w2 wr∧Hid (∀ j,j < k→Qab s.ws us j=none)) (fun i _=>m - (intOf i).toNat)
 case atStart=>exact ⟨0,Nat.zero_le _,rfl,Ext.rfl' _,fun j hj=>absurd hj (Nat.not_lt_zero _)⟩
 case round =>
  obtain ⟨k,hk,rfl,hEr,HA⟩:=hrel;have HEr:=hide hEr;have hZr:=HZ2.out.ext hEr;have hVr:=HV2.out.ext hEr;have u0:=X1 hVr;obtain ⟨r0,r1⟩:=X2 hZr;obtain ⟨s0,s1⟩:=Y2 hZr;have HZr:=hide hZr;clear hEr hZr hVr;by_cases hlt:k < m
  ·have hkl:k < us.length:=by have:=HM.out; omega
   obtain ⟨b,o,rfl,hb,hc⟩:=HU.out.cell (by omega)
   obtain ⟨q1,q2⟩:=hc k hkl;have c0:=((HE2.out.trans' HEr.out).cell (p:=⟨b,o + k * 2,none⟩) hb).trans q1;have c1':=((HE2.out.trans' HEr.out).cell (p:=⟨b,o + k * 2 + 1,none⟩) hb).trans q2;have hit:=fun h=>Qt6 (ws:=s.ws) (us:=us) hkl HA.out h
   have hno:=fun h=>Q0 HA.out (show Qab s.ws us k=none from Qtd h)
   have hf:=fun n':Nat=>Qdh (n:=n') (HFI.out (_root_.Go.World.drewN wr n') (below_drewN (HE2.out.trans' HEr.out) n') (wNm us k))
   obtain ⟨x,hx,p,hp⟩:=V2 (wNm us k) (wPl us k);rw [← hx] at c0 hf hit hno;rw [← hp] at c1' hit;obtain ⟨v,hv⟩:=V1 (findL (nms s.ws) x);rw [← hv] at hf hit hno;obtain ⟨HF,HIT,HNO⟩:=Z3 hf hit hno;have i0:=nZ k;have i1:(k:Int) < (m:Int):=by omega
   clear hc q1 q2 hx hp hv hf hit hno hb HA;go_upto_region 4 with fail
   go_quiet ((go_at_call 87; with_reducible exact HF.out _))
   obtain ⟨w5,hw5⟩:=V1 (wr.drewN nq);have hE5:Ext wr w5:=by rw [hw5]; exact below_drewN (Ext.rfl' _) nq
   have hZ5:=HZr.out.ext hE5;have d1:=(show w5.cell? ⟨b,o + k * 2 + 1,none⟩=some (.int .i64 p) by rw [hw5]; exact c1')
   obtain ⟨r0,r1⟩:=X2 hZ5;obtain ⟨s0,s1⟩:=Y2 hZ5;obtain ⟨HZ5,HE5⟩:=Z2 hZ5 (HEr.out.trans' hE5);rw [← hw5];clear hw5 hE5 hZ5 c0 c1' u0;by_cases hv0:v < 0
   ·have HX:=hide (show R=(17,p) by rw [HRR.out]; exact HIT.out hv0)
    go_wp2_with fail
    exact Qa (f:=(17,p)) (g:=g4) ((HZ5.out.set_ 0 _).set_ 1 _) rfl rfl rfl ⟨by rw [HX.out],ext_two' (HE2.out.trans' HE5.out) hlo4 _ _⟩
   ·have HNN:=hide (HNO.out hv0);go_wp2_with fail
    go_roundw
    case rel=>exact ⟨k + 1,by omega,by go_num,HE5.out,HNN.out⟩
    case measure=>simp [intOf]; omega
  ·obtain rfl:k=m:=by omega
   have HX:=hide (show R=(0,0) by rw [HRR.out]; exact Qtc (fun j hj=>HA.out j (by have:=HM.out; omega)))
   go_wp2_with fail
   exact Qa (f:=(0,0)) (g:=g4) ((HZr.out.set_ 0 _).set_ 1 _) rfl rfl rfl ⟨by rw [HX.out],ext_two' (HE2.out.trans' HEr.out) hlo4 _ _⟩
theorem Qfn:(Tryz.prog.info? 131).map (·.size)=some 18:=by kernel_rfl
theorem Qte {s:Sch} {h:TyH} {n:Nat} {p:Nat→PtH} {t:Nat→Ty} (hk:¬ (h.kind=9∧findL s.names h.name.1 < 0)) {k:Nat} {f:Flt} (hkn:k < n) (h0:∀ j,j < k→(s.partK p t j).1=0) (hf:s.partK p t k=f) (hn:f.1≠0):s.knownF (.mk h n p t)=f:=by
 rw [Sch.knownF_mk,if_neg hk,Qk (k:=k) (x:=f) hkn (fun j hj=>Qb7 (h0 j hj)) (by rw [hf]; exact Qgf hn)]
 rfl
theorem Qrm {s:Sch} {h:TyH} {n:Nat} {p:Nat→PtH} {t:Nat→Ty} (hk:¬ (h.kind=9∧findL s.names h.name.1 < 0)) (h0:∀ j,j < n→(s.partK p t j).1=0):s.knownF (.mk h n p t)=(0,0):=by
 rw [Sch.knownF_mk,if_neg hk,firstOf_miss.2 (fun j hj=>Qb7 (h0 j hj))]
 rfl
theorem Qtf {s:Sch} {h:TyH} {n:Nat} {p:Nat→PtH} {t:Nat→Ty} (hk:h.kind=9∧findL s.names h.name.1 < 0):s.knownF (.mk h n p t)=(15,h.name.2):=by
 rw [Sch.knownF_mk,if_pos hk]
theorem Qn8 {f:Nat→Int} {k:Nat} (h:∀ j,j < k→f j=0) (hk:f k=0):∀ j,j < k + 1→f j=0:=fun j hj=>by
 rcases Nat.lt_or_ge j k with h1 | h1
 ·exact h j h1
 ·rw [show j=k by omega]; exact hk
set_option maxRecDepth 100000 in
theorem Qnl (s:Sch) (vsS:List Value) (h100:s.n≤100) (hw100:s.ws.length≤100) (w0:World) (hS:SchAt w0 s vsS) (t:Ty):Qr t→∀ (w:World) (vs:List Value),Ext w0 w→TyAt w w.heap.size t vs→Calls Tryz.prog 58 #[.agg vsS.toArray,.agg vs.toArray] w (fun e w'=>e = .returned (fltV (s.knownF t))∧Ext w w'):=by
 induction t with
 | nil=>intro hS'; exact hS'.elim
 | mk h np p t ih =>
  intro hSz w vs hE0 hT;obtain ⟨An,cn,Ap,cp,rfl,_,hPt⟩:=hT.open_;obtain ⟨_,_,hnp,hSp⟩:=hSz;obtain ⟨HFD,HWD,HIH,HSP,HPT⟩:=Z5 (fun w1 (hE:Ext w w1) x=>dFind_any s vsS x w1 (hS.ext (hE0.trans' hE)) h100) (fun w1 (hE:Ext w w1) A c m us (hu:WdsAt w1 w1.heap.size A us) (hm:m=us.length) (hmb:m≤5864062014634)=>dWord_any s vsS A c m us w1 (hS.ext (hE0.trans' hE)) hw100 hu hm hmb) (fun k (hk:k < np) w1 vs (hE:Ext w w1) hT=>ih k (hSp k hk).2.2.2 w1 vs (hE0.trans' hE) hT) hSp hPt
  have hSS:=hS;obtain ⟨A1,c1,A2,c2,A3,c3,vr,rfl,hA1,hA2,hA3,hR⟩:=hS;obtain ⟨y0,y1,y2,y3,y4,y5,y6,y7,y8,rfl⟩:∃ y0 y1 y2 y3 y4 y5 y6 y7 y8:Value,vr = [y0,y1,y2,y3,y4,y5,y6,y7,y8]:=by obtain ⟨y0,y1,y2,y3,y4,y5,y6,y7,y8,e⟩:=hR.nine; exact ⟨y0,y1,y2,y3,y4,y5,y6,y7,y8,e⟩
  obtain ⟨nw,hnw,no,hno,n,hn⟩:=V3 (s.ws.length) (s.os.length) (s.n);rw [← hnw,← hno,← hn] at HFD HWD HIH ⊢;obtain ⟨R,hR_⟩:=V1 (s.knownF (.mk h np p t));obtain ⟨HHIT,HMISS,HREF⟩:=Z3 (fun hk k f hkn h0 hf hn=>Qte (s:=s) (h:=h) (n:=np) (p:=p) (t:=t) hk (k:=k) (f:=f) hkn h0 hf hn) (fun hk h0=>Qrm (s:=s) (h:=h) (n:=np) (p:=p) (t:=t) hk h0) (fun hk=>Qtf (s:=s) (h:=h) (n:=np) (p:=p) (t:=t) hk)
  rw [← hR_] at HHIT HMISS HREF ⊢;unfold tyV;obtain ⟨x,hx,y,hy⟩:=V2 (h.name.1) (h.name.2);rw [← hx] at HHIT HMISS HREF ⊢;rw [← hy] at HREF ⊢;have hp0:=nZ np;clear hnw hno hn hA1 hA2 hA3 hR hx hy hR_ ih hSp hPt hSS hE0 hT;show Calls Tryz.prog 58 #[.agg #[.slice A1 nw c1,.slice A2 no c2,.slice A3 n c3,y0,y1,y2,y3,y4,y5,y6,y7,y8],.agg #[.int .i64 h.kind,.int .i64 h.at_,.int .i64 h.lo,.int .i64 h.hi,.int .i64 h.most,.slice An h.names.length cn,.slice Ap np cp,.string x,.int .i64 y]] w _
  obtain ⟨w1,g2,hw1,hg2,Hw1,Hg2,hV,hVE⟩:=T0 w 31 #[.slice A1 nw c1,.slice A2 no c2,.slice A3 n c3,y0,y1,y2,y3,y4,y5,y6,y7,y8];obtain ⟨w2,g3,hw2,hg3,Hw2,Hg3,hT,hTE⟩:=T0 w1 29 #[.int .i64 h.kind,.int .i64 h.at_,.int .i64 h.lo,.int .i64 h.hi,.int .i64 h.most,.slice An h.names.length cn,.slice Ap np cp,.string x,.int .i64 y];obtain ⟨w3,g4,hw3,hg4,Hw3,Hg4,hZ,hZE⟩:=T0 w2 34 #[.int .i64 0,.int .i64 0];have Hg3':=hide (show g3=g2 + 1 by rw [hg3,hw1,World.size_alloc,← hg2])
  have Hg4':=hide (show g4=g3 + 1 by rw [hg4,hw2,World.size_alloc,← hg3])
  obtain ⟨HE3,HV3,HT3,HZ3⟩:=Z4 ((hVE.trans' hTE).trans' hZE) ((hV.ext hTE).ext hZE) (hT.ext hZE) hZ;have hlo4:w.heap.size≤g4:=by have:=hVE.size; have:=hTE.size; omega
  obtain ⟨t0,-,-,-,-,-,t6,t7,t8⟩:=X9 HT3.out;obtain ⟨s0,s1,s2,s3,s4,s5,s6,s7,s8,s9,s10,s11⟩:=X12 HV3.out;obtain ⟨z0,z1⟩:=X2 HZ3.out;obtain ⟨f0,f1⟩:=Y2 HZ3.out;obtain ⟨FV,hFV⟩:=V1 (findL s.names x);have hfd:=HFD.out w3 HE3.out x;rw [← hFV] at hfd HHIT HMISS HREF;have HFX:=hide hfd;clear hw1 hg2 hw2 hg3 hw3 hg4 hV hVE hT hTE hZ hZE hFV hfd HFD;go_enter Tryz.func58,Tryz.ntmps58
  go_upto_region 1 with fail
  rw [← Hw1.out,← Hg2.out,← Hw2.out,← Hg3'.out,← Hw3.out,← Hg4'.out];go_cut [18] (fun v wx=>∃ b:Bool,v = .bool b∧Ext w3 wx∧Hid (b=decide (h.kind=9∧FV < 0)))
  case first =>
   by_cases h9:h.kind=9
   ·have h9':(h.kind == 9)=true:=by simpa using h9
    have H9:=hide h9;clear h9;go_wp2_with fail
    refine HFX.out.mono ?_;rintro e w4 ⟨rfl,hE4⟩;have HE4:=hide hE4;clear hE4;by_cases hv:FV < 0
    ·have HD:=hide (show true=decide (h.kind=9∧FV < 0) by simp [H9.out,hv])
     go_wp2_with fail
     go_meet
     exact ⟨true,rfl,HE4.out,HD.out⟩
    ·have HD:=hide (show decide (FV < 0)=decide (h.kind=9∧FV < 0) by simp [hv])
     go_wp2_with fail
     go_meet
     exact ⟨decide (FV < 0),rfl,HE4.out,HD.out⟩
   ·have h9':(h.kind == 9)=false:=by simpa using h9
    have HD:=hide (show false=decide (h.kind=9∧FV < 0) by simp [h9])
    go_wp2_with fail
    go_meet
    exact ⟨false,rfl,Ext.rfl' _,HD.out⟩
  case rest =>
   rename World=>w4
   obtain ⟨b,rfl,hE4,HD⟩:=hcut;obtain ⟨HT4,HV4,HZ4,HE4⟩:=Z4 (HT3.out.ext hE4) (HV3.out.ext hE4) (HZ3.out.ext hE4) (HE3.out.trans' hE4);clear hE4 t0 t6 t7 t8 s0 s1 s2 s3 s4 s5 s6 s7 s8 s9 s10 s11 z0 z1 f0 f1;cases b with
   | true =>
    have HX:=hide (HREF.out (by simpa using HD.out.symm))
    obtain ⟨-,-,-,-,-,-,-,-,t8⟩:=X9 HT4.out;obtain ⟨z0,z1⟩:=X2 HZ4.out;obtain ⟨f0,f1⟩:=Y2 HZ4.out;go_wp2_with fail
    exact Qa (f:=(15,y)) (g:=g4) ((HZ4.out.set_ 0 _).set_ 1 _) rfl rfl rfl ⟨by rw [HX.out],ext_two' HE4.out hlo4 _ _⟩
   | false =>
    have hnk:¬ (h.kind=9∧FV < 0):=by simpa using HD.out.symm
    obtain ⟨HHT,HMS⟩:=Z2 (fun k f hkn h0 hf hn=>HHIT.out hnk k f hkn h0 hf hn) (fun h0=>HMISS.out hnk h0)
    clear hnk HHIT HMISS HREF HD;go_wp2_with fail
    go_loopw [5] (fun i wr=>∃ k:Nat,k≤np∧i = .int .i64 (k:Int)∧Ext w4 wr∧Hid (∀ j,j < k→(s.partK p t j).1=0)) (fun i _=>np - (intOf i).toNat)
    case atStart=>exact ⟨0,Nat.zero_le _,rfl,Ext.rfl' _,fun j hj=>absurd hj (Nat.not_lt_zero _)⟩
    case round =>
     obtain ⟨k,hk,rfl,hE,HA⟩:=hrel;have t6:=(HT4.out.ext hE).cell 6;simp only [gA,gH,gS] at t6;by_cases hlt:k < np
     ·obtain ⟨b,o,rfl,hb,hc⟩:=HPT.out (by omega)
      obtain ⟨vsP,h1,hpa⟩:=hc k hlt;have hEw:=HE4.out.trans' hE;have hr1:wr.rangeAt b (o + k * 18) vsP:=fun j v hv=>(hEw.cell (p:=⟨b,o + k * 18 + j,none⟩) hb).trans (h1 j v hv)
      obtain ⟨Al,cl,Ac,cc,vt,rfl,q2,q3,q4⟩:=hpa;obtain ⟨z0,z1,z2,z3,z4,z5,z6,z7,z8,rfl⟩:∃ z0 z1 z2 z3 z4 z5 z6 z7 z8:Value,vt = [z0,z1,z2,z3,z4,z5,z6,z7,z8]:=by obtain ⟨y0,y1,y2,y3,y4,y5,y6,y7,y8,e⟩:=q4.nine; exact ⟨y0,y1,y2,y3,y4,y5,y6,y7,y8,e⟩
      have HRG:=hide hr1;have hsp:=HSP.out k hlt;obtain ⟨HW1,HW2,HRC,HZO,HP1,HP2,HP3,HS1⟩:=Z8 (fun w1 (hE1:Ext w w1)=>HWD.out w1 hE1 Al cl (p k).label.length (p k).label (q2.ext hE1) rfl hsp.2.1.1) (fun w1 (hE1:Ext w w1)=>HWD.out w1 hE1 Ac cc (p k).cl.length (p k).cl (q3.ext hE1) rfl hsp.2.2.1.1) (fun w1 (hE1:Ext w w1)=>HIH.out k hlt w1 _ hE1 (q4.ext hE1)) (PartAt.one (q:=p k) (t:=t k) (show PartAt w w.heap.size (p k) (t k) _ from ⟨Al,cl,Ac,cc,_,rfl,q2,q3,q4⟩)) (fun h=>Qj4 (s:=s) (p:=p) (t:=t) (k:=k) h) (fun h0 h=>Qls (s:=s) (p:=p) (t:=t) (k:=k) h0 h) (fun h0 h=>Qj5 (s:=s) (p:=p) (t:=t) (k:=k) h0 h) (Qek s.ws (p k).label)
      obtain ⟨HS2,HKN⟩:=Z2 (Qek s.ws (p k).cl) (Qj8 s (t k));have hhit:=fun f hf hn=>HHT.out k f hlt HA.out hf hn
      have hnx:=fun (hz:(s.partK p t k).1=0)=>Qn8 (f:=fun j=>(s.partK p t j).1) HA.out hz
      obtain ⟨PK,hPK⟩:=V1 (s.partK p t k);rw [← hPK] at HP1 HP2 HP3 hhit hnx;obtain ⟨HHK,HNX⟩:=Z2 hhit hnx;unfold ptV at HRG HZO;simp only [List.cons_append,List.nil_append] at HRG HZO;have i0:=nZ k;have i1:(k:Int) < (np:Int):=by omega
      obtain ⟨HE,HEW⟩:=Z2 hE hEw;obtain ⟨F1,hF1,F2,hF2,F3,hF3⟩:=V3 (ofF s.ws (p k).label) (ofF s.ws (p k).cl) (s.knownF (t k));rw [← hF1] at HW1 HP1 HP2 HP3 HS1;rw [← hF2] at HW2 HP2 HP3 HS2;rw [← hF3] at HRC HP3 HKN;obtain ⟨nm,hnm_⟩:=V1 ((p k).name.1);rw [← hnm_] at HRG HZO;obtain ⟨na,hna_⟩:=V1 ((p k).name.2);rw [← hna_] at HRG HZO;obtain ⟨br,hbr_⟩:=V1 ((p k).bare);rw [← hbr_] at HRG HZO;obtain ⟨ll,hll_⟩:=V1 ((p k).label.length);rw [← hll_] at HRG HZO HW1;obtain ⟨wi,hwi_⟩:=V1 ((p k).wide);rw [← hwi_] at HRG HZO;obtain ⟨ck,hck_⟩:=V1 ((p k).ck);rw [← hck_] at HRG HZO;obtain ⟨cn2,hcn2_⟩:=V1 ((p k).cn);rw [← hcn2_] at HRG HZO;obtain ⟨ca,hca_⟩:=V1 ((p k).cat);rw [← hca_] at HRG HZO;obtain ⟨lc,hlc_⟩:=V1 ((p k).cl.length);rw [← hlc_] at HRG HZO HW2;rw [← hbr_] at HP3;clear hc h1 hr1 q2 q3 q4 hsp hhit hnx hPK hE hEw hF1 hF2 hF3 hb hnm_ hna_ hbr_ hll_ hwi_ hck_ hcn2_ hca_ hlc_;obtain ⟨w5,g6,hw5,hg6,Hw5,Hg6,hV5,hV5E⟩:=T0 wr 131 #[.string nm,.int .i64 na,.bool br,.slice Al ll cl,.int .i64 wi,.int .i64 ck,.int .i64 cn2,.int .i64 ca,.slice Ac lc cc,z0,z1,z2,z3,z4,z5,z6,z7,z8];obtain ⟨HE5,HEW5,HU5⟩:=Z3 (HE.out.trans' hV5E) (HEW.out.trans' hV5E) hV5;have hS5:=HV4.out.ext HE5.out;have HS5:=hide hS5;obtain ⟨s0,s1,s2,s3,s4,s5,s6,s7,s8,s9,s10,s11⟩:=X12 hS5;obtain ⟨-,-,-,u3⟩:=X4 hV5;clear hw5 hg6 hV5 hV5E hS5;go_upto_region 6 with fail
      refine wp_region_lit ?_;refine wpList_plain rfl fun K0 hK0=>?_
      go_simp;refine hK0 _ _ ?_;refine wpList_plain rfl fun K1 hK1=>?_
      go_simp;refine hK1 _ _ ?_;refine wpList_plain rfl fun K2 hK2=>?_
      go_simp;refine hK2 _ _ ?_;refine wpList_plain rfl fun K3 hK3=>?_
      go_simp;refine hK3 _ _ ?_;refine wpList_load_mid rfl 131 _ rfl b (o + k * 18) rfl _ _ HRG.out Tryz.underlying131 rfl Qfn ?_;refine wpList_plain rfl fun K0 hK0=>?_
      go_simp;refine hK0 _ _ ?_;refine Qc rfl 131 _ _ rfl _ #[.string nm,.int .i64 na,.bool br,.slice Al ll cl,.int .i64 wi,.int .i64 ck,.int .i64 cn2,.int .i64 ca,.slice Ac lc cc,z0,z1,z2,z3,z4,z5,z6,z7,z8] rfl rfl Qfn rfl HZO.out ?_;go_upto_region 7 with fail
      rw [← Hw5.out,← Hg6.out];clear t6;go_wp2_with fail
      refine (HW1.out w5 HEW5.out).mono ?_;rintro e w6 ⟨rfl,hE6⟩;obtain ⟨E1,hE1_,B1,hB1_⟩:=V2 (F1.1) (F1.2);have HQ1:=hide (show F1=(E1,B1) by rw [hE1_,hB1_])
      rw [show fltV F1 = .agg #[.int .i64 E1,.int .i64 B1] by rw [hE1_,hB1_]; rfl]
      clear hE1_ hB1_;obtain ⟨w7,g7,hw7,hg7,Hw7,Hg7,hV7,hV7E⟩:=T0 w6 34 #[.int .i64 E1,.int .i64 B1];obtain ⟨HE7,HEW7,HU7,HS7,HF7⟩:=Z5 ((HE5.out.trans' hE6).trans' hV7E) ((HEW5.out.trans' hE6).trans' hV7E) ((HU5.out.ext hE6).ext hV7E) ((HS5.out.ext hE6).ext hV7E) hV7;have hlo7:w4.heap.size≤g7:=by have:=HE5.out.size; have:=hE6.size; omega
      have hg67:g6≠g7:=by have:=hE6.size; have:=HU5.out.lt; omega
      have hg47:g4≠g7:=by have:=HZ4.out.lt; omega
      clear hE6 hw7 hg7 hV7 hV7E s0 s1 s2 s3 s4 s5 s6 s7 s8 s9 s10 s11 u3;go_upto_region 8 with fail
      rw [← Hw7.out,← Hg7.out];by_cases h1:E1=0
      rotate_left
      ·have hb1:(E1 == 0)=false:=by simpa using h1
       have hb1':(E1 != 0)=true:=by simpa using h1
       have HX:=hide (HHK.out F1 (HP1.out (by rw [HQ1.out]; exact h1)) (by rw [HQ1.out]; exact h1))
       clear h1;have d0:=HF7.out.cell 0;have d1:=HF7.out.cell 1;have hZr:=HZ4.out.ext HE7.out;obtain ⟨z0,z1⟩:=X2 hZr;obtain ⟨f0,f1⟩:=Y2 hZr;simp only [gA,gH,gS] at d0 d1;have HZr:=hide hZr;clear hZr;go_wp2_with fail
       exact Qa (f:=(E1,B1)) (g:=g4) ((HZr.out.set_ 0 _).set_ 1 _) rfl rfl rfl ⟨by rw [HX.out,HQ1.out],ext_two' (HE4.out.trans' HE7.out) hlo4 _ _⟩
      have hb1:(E1 == 0)=true:=by simpa using h1
      have hz1:F1=(0,0):=by
       rcases HS1.out with e | e
       ·exact e
       ·rw [HQ1.out] at e; exact absurd h1 e
      have HZ1:=hide hz1;clear h1 hz1 HP1 HS1;obtain ⟨d0,d1⟩:=X2 HF7.out;obtain ⟨e0,e1⟩:=Y2 HF7.out;obtain ⟨s0,s1,s2,s3,s4,s5,s6,s7,s8,s9,s10,s11⟩:=X12 HS7.out;obtain ⟨-,-,u2,-,-,-,-,-,u8,u9,u10,u11,u12,u13,u14,u15,u16,u17⟩:=X18 HU7.out;go_upto_region 9 with fail
      go_wp2_with fail
      refine (HW2.out w7 HEW7.out).mono ?_;rintro e w8 ⟨rfl,hE8⟩;obtain ⟨E2,hE2_,B2,hB2_⟩:=V2 (F2.1) (F2.2);have HQ2:=hide (show F2=(E2,B2) by rw [hE2_,hB2_])
      rw [show fltV F2 = .agg #[.int .i64 E2,.int .i64 B2] by rw [hE2_,hB2_]; rfl]
      have hF8:=HF7.out.ext hE8;have HF8:=hide hF8;obtain ⟨d0,d1⟩:=X2 hF8;obtain ⟨e0,e1⟩:=Y2 hF8;have hE48:=HE7.out.trans' hE8;obtain ⟨w9,hw9⟩:=V1 ((w8.setCell ⟨g7,0,none⟩ (.int .i64 E2)).setCell ⟨g7,1,none⟩ (.int .i64 B2));have hm9:Mv (fun i=>i=g7) w8 w9:=by rw [hw9]; exact Qe4 _ _ _ _ _ _
      have HF9:=hide (show Blk w9 g7 34 #[.int .i64 E2,.int .i64 B2] by rw [hw9]; exact Qb9 HF8.out)
      have hE49:=hm9.below hE48 (fun i e=>by rw [e]; exact hlo7)
      have hgw7:w.heap.size≤g7:=Nat.le_trans HE4.out.size hlo7;have hEw9:=hm9.below (HEW7.out.trans' hE8) (fun i e=>by rw [e]; exact hgw7)
      have hg27:g2≠g7:=by have:=HV4.out.lt; omega
      obtain ⟨HE9,HEW9,HU9⟩:=Z3 hE49 hEw9 (hm9.blk (HU7.out.ext hE8) hg67);clear hE2_ hB2_ hE8 hF8 hE48 hm9 hE49 hEw9 s0 s1 s2 s3 s4 s5 s6 s7 s8 s9 s10 s11;go_upto_region 10 with fail
      rw [← hw9];clear hw9 d0 d1 e0 e1 u2 u8 u9 u10 u11 u12 u13 u14 u15 u16 u17;obtain ⟨d0,d1⟩:=X2 HF9.out;by_cases h2:E2=0
      rotate_left
      ·have hb2:(E2 == 0)=false:=by simpa using h2
       have hb2':(E2 != 0)=true:=by simpa using h2
       have HX:=hide (HHK.out F2 (HP2.out HZ1.out (by rw [HQ2.out]; exact h2)) (by rw [HQ2.out]; exact h2))
       clear h2;have d0:=HF9.out.cell 0;have d1:=HF9.out.cell 1;have hZr:=HZ4.out.ext HE9.out;obtain ⟨z0,z1⟩:=X2 hZr;obtain ⟨f0,f1⟩:=Y2 hZr;simp only [gA,gH,gS] at d0 d1;have HZr:=hide hZr;clear hZr;go_wp2_with fail
       exact Qa (f:=(E2,B2)) (g:=g4) ((HZr.out.set_ 0 _).set_ 1 _) rfl rfl rfl ⟨by rw [HX.out,HQ2.out],ext_two' (HE4.out.trans' HE9.out) hlo4 _ _⟩
      have hb2:(E2 == 0)=true:=by simpa using h2
      have hb2':(E2 != 0)=false:=by simpa using h2
      have hz2:F2=(0,0):=by
       rcases HS2.out with e | e
       ·exact e
       ·rw [HQ2.out] at e; exact absurd h2 e
      have hpk:=HP3.out HZ1.out hz2;have HPK:=hide hpk;clear h2 hz2 hpk HP2 HS2;have hU9:=HU9.out;have hS9:=HV4.out.ext HE9.out;obtain ⟨s0,s1,s2,s3,s4,s5,s6,s7,s8,s9,s10,s11⟩:=X12 hS9;obtain ⟨-,u1,u2,-,-,-,-,-,-,u9,u10,u11,u12,u13,u14,u15,u16,u17⟩:=X18 hU9;clear hU9 hS9;cases br with
      | true =>
       have HNN:=hide (HNX.out (by rw [HPK.out,if_pos rfl]))
       go_wp2_with fail
       go_roundw
       case rel=>exact ⟨k + 1,by omega,by go_num,HE9.out,HNN.out⟩
       case measure=>simp [intOf]; omega
      | false =>
       have hpk:=HPK.out;rw [if_neg (by decide)] at hpk
       have HPQ:=hide hpk;clear hpk;have hrc:=HRC.out w9 HEW9.out;have HRC9:=hide hrc;clear hrc;go_upto_region 11 with fail
       go_wp2_with fail
       refine HRC9.out.mono ?_;rintro e w10 ⟨rfl,hE10⟩;obtain ⟨E3,hE3_,B3,hB3_⟩:=V2 (F3.1) (F3.2);have HQ3:=hide (show F3=(E3,B3) by rw [hE3_,hB3_])
       rw [show fltV F3 = .agg #[.int .i64 E3,.int .i64 B3] by rw [hE3_,hB3_]; rfl]
       have hF10:=HF9.out.ext hE10;have HF10:=hide hF10;obtain ⟨d0,d1⟩:=X2 hF10;obtain ⟨e0,e1⟩:=Y2 hF10;have hE410:=HE9.out.trans' hE10;obtain ⟨w11,hw11⟩:=V1 ((w10.setCell ⟨g7,0,none⟩ (.int .i64 E3)).setCell ⟨g7,1,none⟩ (.int .i64 B3));have hm11:Mv (fun i=>i=g7) w10 w11:=by rw [hw11]; exact Qe4 _ _ _ _ _ _
       have HF11:=hide (show Blk w11 g7 34 #[.int .i64 E3,.int .i64 B3] by rw [hw11]; exact Qb9 HF10.out)
       have hE411:=hm11.below hE410 (fun i e=>by rw [e]; exact hlo7)
       have HE11:=hide hE411;clear hE3_ hB3_ hE10 hF10 hE410 hm11 hE411 s0 s1 s2 s3 s4 s5 s6 s7 s8 s9 s10 s11;go_upto_region 12 with fail
       rw [← hw11];clear hw11 d0 d1 e0 e1 u1 u2 u9 u10 u11 u12 u13 u14 u15 u16 u17;by_cases h3:E3=0
       ·have hb3:(E3 != 0)=false:=by simpa using h3
        have HNN:=hide (HNX.out (by rw [HPQ.out,HQ3.out]; exact h3))
        obtain ⟨d0,d1⟩:=X2 HF11.out;clear h3;go_wp2_with fail
        go_roundw
        case rel=>exact ⟨k + 1,by omega,by go_num,HE11.out,HNN.out⟩
        case measure=>simp [intOf]; omega
       ·have hb3':(E3 != 0)=true:=by simpa using h3
        have HX:=hide (HHK.out F3 HPQ.out (by rw [HQ3.out]; exact h3))
        clear h3;have d0:=HF11.out.cell 0;have d1:=HF11.out.cell 1;have hZr:=HZ4.out.ext HE11.out;obtain ⟨z0,z1⟩:=X2 hZr;obtain ⟨f0,f1⟩:=Y2 hZr;simp only [gA,gH,gS] at d0 d1;have HZr:=hide hZr;clear hZr;go_wp2_with fail
        exact Qa (f:=(E3,B3)) (g:=g4) ((HZr.out.set_ 0 _).set_ 1 _) rfl rfl rfl ⟨by rw [HX.out,HQ3.out],ext_two' (HE4.out.trans' HE11.out) hlo4 _ _⟩
     ·obtain rfl:k=np:=by omega
      have HX:=hide (HMS.out HA.out);have hZr:=HZ4.out.ext hE;have HEr:=hide (HE4.out.trans' hE);obtain ⟨z0,z1⟩:=X2 hZr;obtain ⟨f0,f1⟩:=Y2 hZr;have HZr:=hide hZr;clear hZr hE;go_wp2_with fail
      exact Qa (f:=(0,0)) (g:=g4) ((HZr.out.set_ 0 _).set_ 1 _) rfl rfl rfl ⟨by rw [HX.out],ext_two' HEr.out hlo4 _ _⟩
section
variable {P:Program} {ops:Array Oper} {md:Region.Mode} {S:World→Prop}
def Qgo (P:Program) (ops:Array Oper) (Q:Exit→Act→World→Prop) (S:World→Prop) (K:Act→World→Prop) (f:Oper):List Oper→Act→World→Prop
 | [],a,w=>seqK P ops Q S K [f] a w
 | o :: r,a,w=>seqK P ops Q S K (f :: o :: r) a w∧wpList P ops (fun e a' w'=>match e with | .normal=>S w'∧Qgo P ops Q S K f r a' w' | e=>Q e a' w') [o] a w
def mixB (md:Region.Mode) (ops:Array Oper) (f:Nat) (ts:List Nat):List Nat→Array Bool→Bool
 | [],ls=>decide (Region.ready md ops ls = [f]) && tailB md ops ts (ls.setIfInBounds f true)
 | r :: rs,ls=>(decide (Region.ready md ops ls = [r,f]) || decide (Region.ready md ops ls = [f,r])) && onesB md ops (r :: rs) (ls.setIfInBounds f true) && tailB md ops ts (Qcn (ls.setIfInBounds f true) (r :: rs)) && mixB md ops f ts rs (ls.setIfInBounds r true)
theorem Qtg {Q:Exit→Act→World→Prop} {z f:Nat} {of:Oper} {ts:List Nat} (hf:ops[f]? = some of) (hts:∀ r ∈ ts,z≤r):∀ (rs:List Nat) (ls:Array Bool) (a:Act) (w:World),mixB md ops f ts rs ls=true→S w→Qgo P ops Q S (wpList P ops Q (opsAt ops ts)) of (opsAt ops rs) a w→Qdc P md ops Q S z (rs.length + 1 + ts.length) ls a w:=by
 intro rs;induction rs with
 | nil =>
  intro ls a w hB hS h;simp only [mixB,Bool.and_eq_true,decide_eq_true_eq] at hB;have h':seqK P ops Q S (wpList P ops Q (opsAt ops ts)) (opsAt ops [f]) a w:=by rw [opsAt_cons hf]; exact h
  have:=Qfi (md:=md) (z:=z) (fuel:=ts.length) [f] ls a w (by simp only [onesB,Bool.and_eq_true,decide_eq_true_eq,and_true]; exact hB.1) (fun a w _ k=>Qd8 ts _ a w hts hB.2 k) hS h'
  rw [show ([]:List Nat).length + 1 + ts.length = [f].length + ts.length by simp]
  exact this
 | cons r rs ih =>
  intro ls a w hB hS h;simp only [mixB,Bool.and_eq_true,Bool.or_eq_true,decide_eq_true_eq] at hB;obtain ⟨⟨⟨hr,h1⟩,h2⟩,h3⟩:=hB;have hmem:∀ i,i ∈ Region.ready md ops ls↔i=r∨i=f:=fun i=>by
   rcases hr with e | e <;> rw [e] <;> simp
   exact Or.comm
  obtain ⟨_,o,ho,_⟩:=mem_ready.1 ((hmem r).2 (.inl rfl));rw [opsAt_cons ho] at h;obtain ⟨k1,k2⟩:=h;rw [show (r :: rs).length + 1 + ts.length=(rs.length + 1 + ts.length) + 1 by simp; omega]
  refine ⟨fun e=>?_,fun i hi=>?_⟩
  ·have:=(hmem r).2 (.inl rfl)
   rw [e] at this;cases this
  ·rcases (hmem i).1 hi with rfl | rfl
   ·exact Qc0 (Q':=fun e a' w'=>match e with | .normal=>S w'∧Qgo P ops Q S (wpList P ops Q (opsAt ops ts)) of (opsAt ops rs) a' w' | e=>Q e a' w') ho (fun a' w' h'=>⟨fun _=>h'.1,ih _ a' w' h3 h'.1 h'.2⟩) (fun _ _ _ h'=>h') (fun _ _ h'=>h') k2
   ·refine Qc0 (Q':=fun e a' w'=>match e with | .normal=>S w'∧seqK P ops Q S (wpList P ops Q (opsAt ops ts)) (o :: opsAt ops rs) a' w' | e=>Q e a' w') hf (fun a' w' h'=>⟨fun _=>h'.1,?_⟩) (fun _ _ _ h'=>h') (fun _ _ h'=>h') k1
    have h'':seqK P ops Q S (wpList P ops Q (opsAt ops ts)) (opsAt ops (r :: rs)) a' w':=by rw [opsAt_cons ho]; exact h'.2
    have:=Qfi (md:=md) (z:=z) (fuel:=ts.length) (r :: rs) (ls.setIfInBounds i true) a' w' h1 (fun a w _ k=>Qd8 ts _ a w hts h2 k) h'.1 h''
    rw [show rs.length + 1 + ts.length=(r :: rs).length + ts.length by simp]
    exact this
def Qrn (md:Region.Mode) (ops:Array Oper) (i1:List Nat) (f:Nat) (rs ts:List Nat) (z:Nat):Bool :=
 let l0:=Array.replicate ops.size false
 let l1:=Qcn l0 i1
 Region.noSelect ops && Qcw md ops z && floatsB md ops z i1 l0 && mixB md ops f ts rs l1 && ts.all (fun r=>decide (z≤r)) && decide (f < ops.size) && decide (i1.length + (rs.length + 1 + ts.length)=ops.size)
theorem Qdd {id:Nat} {Q:Exit→Act→World→Prop} {a:Act} {w:World} {l:List Oper} (i1:List Nat) (f:Nat) (rs ts:List Nat) (z:Nat) (hm:P.follows .mixedOrders=true) (hB:Qrn .any l.toArray i1 f rs ts z=true) (S:World→Prop) (hS:S w.drew)
  (h:∀ (I:Type) [Nonempty I] (f_:I→World),(∀ n,S (f_ n))→wpQuiet P l.toArray (fun w'=>∃ n,w'=f_ n) (fun a'=>Qgo P l.toArray (Qbd Q) S (wpList P l.toArray (Qbd Q) (opsAt l.toArray ts)) ((l.toArray[f]?).getD o0) (opsAt l.toArray rs) a' w.drew) (opsAt l.toArray i1) a):(Code.region id l.toArray true).wp P Q a w:=by
 simp only [Qrn,Bool.and_eq_true,decide_eq_true_eq] at hB;obtain ⟨⟨⟨⟨⟨⟨hsel,hz⟩,h1⟩,h2⟩,hts⟩,hf⟩,hlen⟩:=hB;haveI:Nonempty {w':World // S w'}:=⟨⟨_,hS⟩⟩
 have h':=h {w':World // S w'} Subtype.val (fun n=>n.2)
 have e:(fun w'=>∃ n:{w':World // S w'},w'=n.1)=S:=by
  funext w'
  exact propext ⟨fun ⟨n,hn⟩=>by rw [hn]; exact n.2,fun h=>⟨⟨w',h⟩,rfl⟩⟩
 rw [e] at h';refine wp_region_any hm (Qhv _ ?_);have hcalm:∀ c a w,¬ Qbd Q (.panic c) a w:=fun c a w h=>h
 have hfo:l.toArray[f]? = some ((l.toArray[f]?).getD o0):=by
  rw [Array.getElem?_eq_getElem hf];rfl
 have:=Qfj (md:=.any) (Q:=Qbd Q) (fuel:=rs.length + 1 + ts.length) hsel hz hcalm hS i1 (Array.replicate l.toArray.size false) a h1 (fun a1 k1 =>
  Qtg hfo (fun r hr=>by simpa using List.all_eq_true.1 hts r hr) rs _ a1 _ h2 hS k1) h'
 rw [hlen] at this;exact Qet _ this
theorem mixK_here {Q:Exit→Act→World→Prop} {f o:Oper} {r:List Oper} {K0:Act→World→Prop} {a:Act} {w:World} (hg:o.guard=none) (h1:seqK P ops Q S K0 (f :: o :: r) a w)
  (h:∀ K:Act→World→Prop,(∀ a w,S w→Qgo P ops Q S K0 f r a w→K a w)→o.wp P a w K (fun e a' w'=>match e with | .normal=>S w'∧Qgo P ops Q S K0 f r a' w' | e=>Q e a' w')):Qgo P ops Q S K0 f (o :: r) a w :=
 ⟨h1,show wpList P ops _ [o] a w from wpList_plain hg fun K hK=>h K fun a w h1 h2=>hK a w ⟨h1,h2⟩⟩
theorem mixK_done {Q:Exit→Act→World→Prop} {f:Oper} {K0:Act→World→Prop} {a:Act} {w:World} (h:seqK P ops Q S K0 [f] a w):Qgo P ops Q S K0 f [] a w:=h
end
def Qh4:Option Nat→Int | some j=>(j:Nat) | none=>-1
theorem Qfo {s:Sch} {t:Ty} (hK:s.Known t) (hkd:t.kd=9):0≤findL s.names t.nmw.1:=by
 cases t with
 | nil=>exact absurd hkd (by decide)
 | mk h n p t=>exact hK.1 hkd
theorem Ql5 {s:Sch} {x:ByteArray} (h:0≤findL s.names x):findL s.names x=(s.find x:Nat):=by
 unfold Sch.find; omega
set_option maxRecDepth 100000 in
theorem Ql6 (s:Sch) (vs:List Value) (h100:s.n≤100) (_hz:SchSz s) (hKn:∀ i,i < s.n→s.Known (s.ty i)):∀ (k i:Nat) (w:World),SchAt w s vs→i < s.n→k≤1000→Calls Tryz.prog 59 #[.agg vs.toArray,.int .i64 (i:Int),.int .i64 (k:Int)] w (fun e w'=>e = .returned (.int .i64 (Qh4 (s.endK k i)))∧Ext w w'):=by
 intro k;induction k with
 | zero =>
  intro i w hS hi _;obtain ⟨A1,c1,A2,c2,A3,c3,vr,rfl,hA1,hA2,hA3,hR⟩:=hS;obtain ⟨y0,y1,y2,y3,y4,y5,y6,y7,y8,rfl⟩:∃ y0 y1 y2 y3 y4 y5 y6 y7 y8:Value,vr = [y0,y1,y2,y3,y4,y5,y6,y7,y8]:=by obtain ⟨y0,y1,y2,y3,y4,y5,y6,y7,y8,e⟩:=hR.nine; exact ⟨y0,y1,y2,y3,y4,y5,y6,y7,y8,e⟩
  obtain ⟨nw,hnw,no,hno,n,hn⟩:=V3 (s.ws.length) (s.os.length) (s.n);obtain ⟨b,o,rfl,hb,hc⟩:=hA3 (by omega)
  obtain ⟨vt,h1,h2⟩:=hc i hi;obtain ⟨h,np,p,t,An,cn,Ap,cp,hty,rfl⟩:=h2.open2;have hkd:(s.ty i).kd=h.kind:=by rw [hty]; rfl
  have he:Qh4 (s.endK 0 i)=if h.kind=9 then -1 else (i:Int):=by rw [Sch.endK_zero,hkd]; split <;> rfl
  have q:w.cell? ⟨b,o + i * 11 + 2,none⟩=some (.int .i64 h.kind):=h1 2 _ rfl;rw [← hn] at hi;rw [← hnw,← hno,← hn,he];have i0:=nZ i;have i1:(i:Int) < (n:Int):=by omega
  obtain ⟨hk,hhk⟩:=V1 (h.kind);rw [← hhk] at q ⊢;clear hnw hno hn hA1 hA2 hA3 hR hc h1 h2 hty hkd he hhk h100 _hz hKn;show Calls Tryz.prog 59 #[.agg #[.slice A1 nw c1,.slice A2 no c2,.slice (some ⟨b,o,none⟩) n c3,y0,y1,y2,y3,y4,y5,y6,y7,y8],.int .i64 (i:Int),.int .i64 0] w _
  obtain ⟨w1,g1,hw1,hg1,Hw1,Hg1,hV,hVE⟩:=T0 w 31 #[.slice A1 nw c1,.slice A2 no c2,.slice (some ⟨b,o,none⟩) n c3,y0,y1,y2,y3,y4,y5,y6,y7,y8];obtain ⟨-,-,t2⟩:=X3 hV;have HE1:=hide hVE;have q1:=(hVE.cell (p:=⟨b,o + i * 11 + 2,none⟩) hb).trans q;clear hw1 hg1 hV hVE q hb;by_cases h9:hk=9
  ·subst h9;rw [if_pos rfl];go_enter Tryz.func59,Tryz.ntmps59
   go_upto_region 1 with fail
   rw [← Hw1.out,← Hg1.out];go_wp2_with fail
   go_ret
   exact ⟨rfl,HE1.out⟩
  ·have k9:(hk != 9)=true:=by simpa using h9
   rw [if_neg h9];clear h9;go_enter Tryz.func59,Tryz.ntmps59
   go_upto_region 1 with fail
   rw [← Hw1.out,← Hg1.out];go_wp2_with fail
   go_ret
   exact ⟨rfl,HE1.out⟩
 | succ k ih =>
  intro i w hS hi hk1;have hSS:=hS;obtain ⟨A1,c1,A2,c2,A3,c3,vr,rfl,hA1,hA2,hA3,hR⟩:=hS;obtain ⟨y0,y1,y2,y3,y4,y5,y6,y7,y8,rfl⟩:∃ y0 y1 y2 y3 y4 y5 y6 y7 y8:Value,vr = [y0,y1,y2,y3,y4,y5,y6,y7,y8]:=by obtain ⟨y0,y1,y2,y3,y4,y5,y6,y7,y8,e⟩:=hR.nine; exact ⟨y0,y1,y2,y3,y4,y5,y6,y7,y8,e⟩
  obtain ⟨nw,hnw,no,hno,n,hn⟩:=V3 (s.ws.length) (s.os.length) (s.n);obtain ⟨b,o,rfl,hb,hc⟩:=hA3 (by omega)
  obtain ⟨vt,h1,h2⟩:=hc i hi;obtain ⟨h,np,p,t,An,cn,Ap,cp,hty,rfl⟩:=h2.open2;have hkd:(s.ty i).kd=h.kind:=by rw [hty]; rfl
  have hnm:(s.ty i).nmw.1=h.name.1:=by rw [hty]; rfl
  have he:Qh4 (s.endK (k + 1) i)=if h.kind=9 then Qh4 (s.endK k (s.find h.name.1)) else (i:Int):=by rw [Sch.endK_succ,hkd,hnm]; split <;> rfl
  have q:w.cell? ⟨b,o + i * 11 + 2,none⟩=some (.int .i64 h.kind):=h1 2 _ rfl;have q9:w.cell? ⟨b,o + i * 11 + 9,none⟩=some (.string h.name.1):=h1 9 _ rfl;have HFD:=hide (fun (h9:h.kind=9) w1 (hE:Ext w w1)=>(show Calls Tryz.prog 80 #[.agg _,.string h.name.1] w1 (fun e w'=>e = .returned (.int .i64 (s.find h.name.1:Nat))∧Ext w1 w') by
   have:=dFind_any s _ h.name.1 w1 (hSS.ext hE) h100
   rw [Ql5 (by have:=Qfo (hKn i hi) (by rw [hkd]; exact h9); rw [hnm] at this; exact this)] at this
   exact this))
  have HIH:=hide (fun w1 (hE:Ext w w1)=>ih (s.find h.name.1) w1 (hSS.ext hE) (Qb6 (by omega) _) (by omega))
  rw [← hn] at hi;rw [← hnw,← hno,← hn] at HFD HIH ⊢;rw [he];have i0:=nZ i;have i1:(i:Int) < (n:Int):=by omega
  obtain ⟨hk,hhk,x,hx⟩:=V2 (h.kind) (h.name.1);rw [← hhk] at q HFD ⊢;rw [← hx] at q9 HFD HIH ⊢;obtain ⟨fi,hfi⟩:=V1 (s.find x);rw [← hfi] at HFD HIH ⊢;obtain ⟨EI,hEI⟩:=V1 (Qh4 (s.endK k fi));rw [← hEI] at HIH ⊢;have hkb:(k:Int)≤1000:=by omega
  have hkc:=nZ k;have hk1':¬ (k:Int) + 1 < 1:=by omega
  rw [show ((k + 1:Nat):Int)=(k:Int) + 1 by omega]
  clear hnw hno hn hA1 hA2 hA3 hR hc h1 h2 hty hkd hnm he hhk hx hfi hEI h100 _hz hKn ih hSS;show Calls Tryz.prog 59 #[.agg #[.slice A1 nw c1,.slice A2 no c2,.slice (some ⟨b,o,none⟩) n c3,y0,y1,y2,y3,y4,y5,y6,y7,y8],.int .i64 (i:Int),.int .i64 ((k:Int) + 1)] w _
  obtain ⟨w1,g1,hw1,hg1,Hw1,Hg1,hV,hVE⟩:=T0 w 31 #[.slice A1 nw c1,.slice A2 no c2,.slice (some ⟨b,o,none⟩) n c3,y0,y1,y2,y3,y4,y5,y6,y7,y8];obtain ⟨-,-,t2⟩:=X3 hV;have HE1:=hide hVE;have q1:=(hVE.cell (p:=⟨b,o + i * 11 + 2,none⟩) hb).trans q;have q19:=(hVE.cell (p:=⟨b,o + i * 11 + 9,none⟩) hb).trans q9;have HQ:=hide (show ∀ w',Ext w1 w'→w'.cell? ⟨b,o + i * 11 + 9,none⟩=some (.string x) from fun w' hE=>(hE.cell (p:=⟨b,o + i * 11 + 9,none⟩) (Nat.lt_of_lt_of_le hb hVE.size)).trans q19)
  have HV:=hide hV;clear hw1 hg1 hV hVE q q9 q19 hb;by_cases h9:hk=9
  ·have HFX:=hide (HFD.out h9);subst h9;rw [if_pos rfl];clear HFD;go_enter Tryz.func59,Tryz.ntmps59
   go_upto_region 1 with fail
   rw [← Hw1.out,← Hg1.out];go_upto_region 5 with fail
   clear q1 t2;refine Qbf (by kernel_rfl) (by kernel_rfl) w1 (Ext.rfl' _) ?_
   intro I _ f_ hf hc;have q9:∀ n,(f_ n).cell? ⟨b,o + i * 11 + 9,none⟩=some (.string x):=fun n=>HQ.out _ (hf n)
   have r0:∀ n_,(f_ n_).cell? ⟨g1,0,none⟩=some (.slice A1 nw c1):=fun n_=>(HV.out.ext (hf n_)).cell 0
   have r1:∀ n_,(f_ n_).cell? ⟨g1,1,none⟩=some (.slice A2 no c2):=fun n_=>(HV.out.ext (hf n_)).cell 1
   have r2:∀ n_,(f_ n_).cell? ⟨g1,2,none⟩=some (.slice (some ⟨b,o,none⟩) n c3):=fun n_=>(HV.out.ext (hf n_)).cell 2
   have r3:∀ n_,(f_ n_).cell? ⟨g1,3,none⟩=some (y0):=fun n_=>(HV.out.ext (hf n_)).cell 3
   have r4:∀ n_,(f_ n_).cell? ⟨g1,4,none⟩=some (y1):=fun n_=>(HV.out.ext (hf n_)).cell 4
   have r5:∀ n_,(f_ n_).cell? ⟨g1,5,none⟩=some (y2):=fun n_=>(HV.out.ext (hf n_)).cell 5
   have r6:∀ n_,(f_ n_).cell? ⟨g1,6,none⟩=some (y3):=fun n_=>(HV.out.ext (hf n_)).cell 6
   have r7:∀ n_,(f_ n_).cell? ⟨g1,7,none⟩=some (y4):=fun n_=>(HV.out.ext (hf n_)).cell 7
   have r8:∀ n_,(f_ n_).cell? ⟨g1,8,none⟩=some (y5):=fun n_=>(HV.out.ext (hf n_)).cell 8
   have r9:∀ n_,(f_ n_).cell? ⟨g1,9,none⟩=some (y6):=fun n_=>(HV.out.ext (hf n_)).cell 9
   have r10:∀ n_,(f_ n_).cell? ⟨g1,10,none⟩=some (y7):=fun n_=>(HV.out.ext (hf n_)).cell 10
   have r11:∀ n_,(f_ n_).cell? ⟨g1,11,none⟩=some (y8):=fun n_=>(HV.out.ext (hf n_)).cell 11
   obtain ⟨H1,H2,HG⟩:=Z3 (fun n=>Qcr hf hc (HFX.out (f_ n) (HE1.out.trans' (hf n)))) (fun n=>Qcr hf hc (HIH.out (f_ n) (HE1.out.trans' (hf n)))) hf
   clear hf hc;have e1:wrap64 ((k:Int) + 1 - 1)=(k:Int):=by rw [IntWalk.wrap64_in _ (by omega)]; omega
   repeat (go_big_quiet_step ((first | (go_at_call 80; exact H1.out _) | (go_at_call 59; exact H2.out _))))
   refine wpQuiet_nil ?_;rintro _ ⟨nq,rfl⟩;have HEq:=hide (HE1.out.trans' (HG.out nq));go_wp2_with fail
   go_ret
   exact ⟨rfl,HEq.out⟩
  ·have k9:(hk != 9)=true:=by simpa using h9
   rw [if_neg h9];clear h9;go_enter Tryz.func59,Tryz.ntmps59
   go_upto_region 1 with fail
   rw [← Hw1.out,← Hg1.out];go_wp2_with fail
   go_ret
   exact ⟨rfl,HE1.out⟩
end Go.Proofs.YtanpljalbijfkaaGreat
