/- . -/
import Derived.Test.YtanpljalbijfkaaGreatQ29
namespace Go.Proofs.YtanpljalbijfkaaGreat
open Go.RowKit
set_option maxHeartbeats 16000000
theorem Qro (x:ByteArray) (y:Int):Qo [(x,y)]=if Qj x=false then (9,y) else (0,0):=by
 unfold Qo;rw [if_neg (by simp)]
 by_cases h:Qj x=false
 ·rw [if_pos h,Qk (k:=0) (x:=(9,y)) (by simp) (fun j hj=>absurd hj (Nat.not_lt_zero _)) (show Qce [(x,y)] 0=some (9,y) from if_pos h)]
  rfl
 ·rw [if_neg h,firstOf_miss.2 (fun j hj=>by
   have:j=0:=by simpa using hj
   subst this;exact if_neg h)]
  rfl
theorem Qph {s:Sch} {k:Nat} (hk:k < s.n):listE s.names k=if Qj (s.nm k).1=false then 9 else if findL s.names (s.nm k).1 < (k:Int) then 10 else 0:=by
 have hg:s.names.getD k ⟨#[]⟩=(s.nm k).1:=by rw [List.getD_eq_getElem?_getD,List.getElem?_eq_getElem (by rw [Qfm]; exact hk),Qkd]; rfl
 unfold listE twiceP;rw [hg];by_cases h:Qj (s.nm k).1=false
 ·rw [if_pos h,if_pos h]
 ·rw [if_neg h,if_neg h];by_cases h2:findL s.names (s.nm k).1 < (k:Int)
  ·rw [if_pos h2,if_pos (by simpa using h2)]
  ·rw [if_neg h2,if_neg (by simpa using h2)]
set_option maxRecDepth 100000 in
theorem Qpi (s:Sch) (vs:List Value) (w:World) (hS:SchAt w s vs) (hz:SchSz s) (h100:s.n≤100):Calls Tryz.prog 56 #[.agg vs.toArray] w (fun e w'=>e = .returned (fltV s.calledF)∧Ext w w'):=by
 have hSS:=hS;obtain ⟨A1,c1,A2,c2,A3,c3,vr,rfl,hA1,hA2,hA3,hR⟩:=hS;obtain ⟨y0,y1,y2,y3,y4,y5,y6,y7,y8,rfl⟩:∃ y0 y1 y2 y3 y4 y5 y6 y7 y8:Value,vr = [y0,y1,y2,y3,y4,y5,y6,y7,y8]:=by obtain ⟨y0,y1,y2,y3,y4,y5,y6,y7,y8,e⟩:=hR.nine; exact ⟨y0,y1,y2,y3,y4,y5,y6,y7,y8,e⟩
 obtain ⟨nw,hnw,no,hno,n,hn⟩:=V3 (s.ws.length) (s.os.length) (s.n);obtain ⟨HFD,HNM⟩:=Z2 (fun w1 (hE:Ext w w1) x=>dFind_any s _ x w1 (hSS.ext hE) h100) hA3
 have HSZ:=hide hz.nm;obtain ⟨HIT,HMI,HMA,HLE,HNO⟩:=Z5 (fun k (hk:k < s.n) (h64:¬ 64 < s.n) (hh:∀ j,j < k→s.nameAt j=none) (ev:Int) (he:listE s.names k=ev) (hev:ev≠0)=>Qix (s:=s) (k:=k) (ev:=ev) h64 hk hh he hev) (fun (h64:¬ 64 < s.n) (hh:∀ j,j < s.n→s.nameAt j=none)=>Qhj (s:=s) h64 hh) (fun h=>Qhi (s:=s) h) (fun k (hk:k < s.n)=>Qph hk) (fun k (h:listE s.names k=0)=>(show s.nameAt k=none from if_pos h))
 rw [← hn] at HNM HSZ HIT HMI HMA HLE h100;rw [← hnw,← hno,← hn] at HFD ⊢;obtain ⟨R,hR_⟩:=V1 (s.calledF);rw [← hR_] at HIT HMI HMA ⊢;have hn0:=nZ n;clear hnw hno hn hA1 hA2 hA3 hR hz hSS hR_;show Calls Tryz.prog 56 #[.agg #[.slice A1 nw c1,.slice A2 no c2,.slice A3 n c3,y0,y1,y2,y3,y4,y5,y6,y7,y8]] w _
 obtain ⟨w1,g1,hw1,hg1,Hw1,Hg1,hV,hVE⟩:=T0 w 31 #[.slice A1 nw c1,.slice A2 no c2,.slice A3 n c3,y0,y1,y2,y3,y4,y5,y6,y7,y8];obtain ⟨w2,g2,hw2,hg2,Hw2,Hg2,hZ,hZE⟩:=T0 w1 34 #[.int .i64 0,.int .i64 0];have Hg2':=hide (show g2=g1 + 1 by rw [hg2,hw1,World.size_alloc,← hg1])
 obtain ⟨HE2,HV2,HZ2⟩:=Z3 (hVE.trans' hZE) (hV.ext hZE) hZ;have hlo2:w.heap.size≤g2:=by have:=hVE.size; omega
 obtain ⟨-,-,t2⟩:=X3 HV2.out;obtain ⟨z0,z1⟩:=X2 HZ2.out;obtain ⟨f0,f1⟩:=Y2 HZ2.out;clear hw1 hg1 hw2 hg2 hV hVE hZ hZE;by_cases h64:64 < n
 ·have HX:=hide (HMA.out h64);obtain ⟨b,o,rfl,hb,hc⟩:=HNM.out (by omega)
  obtain ⟨vt,h1,_⟩:=hc 64 h64;have d1:=(HE2.out.cell (p:=⟨b,o + 64 * 11 + 1,none⟩) hb).trans (h1 1 (.int .i64 (s.nm 64).2) rfl);obtain ⟨y,hy⟩:=V1 ((s.nm 64).2);rw [← hy] at d1 HX;rw [show o + 64 * 11 + 1=o + 705 by omega] at d1
  have i0:(64:Int) < (n:Int):=by omega
  clear hc h1 hy hb HIT HMI HMA h64;go_enter Tryz.func56,Tryz.ntmps56
  go_upto_region 1 with fail
  rw [← Hw1.out,← Hg1.out,← Hw2.out,← Hg2'.out];go_wp2_with fail
  exact Qa (f:=(8,y)) (g:=g2) ((HZ2.out.set_ 0 _).set_ 1 _) rfl rfl rfl ⟨by rw [HX.out],ext_two' HE2.out hlo2 _ _⟩
 have i64:¬ (64:Int) < (n:Int):=by omega
 have H64:=hide h64;clear h64;go_enter Tryz.func56,Tryz.ntmps56
 go_upto_region 1 with fail
 rw [← Hw1.out,← Hg1.out,← Hw2.out,← Hg2'.out];go_wp2_with fail
 clear t2 z0 z1 f0 f1;go_loopw [3] (fun i wr=>∃ k:Nat,k≤n∧i = .int .i64 (k:Int)∧Ext w2 wr∧Hid (∀ j,j < k→s.nameAt j=none)) (fun i _=>n - (intOf i).toNat)
 case atStart=>exact ⟨0,Nat.zero_le _,rfl,Ext.rfl' _,fun j hj=>absurd hj (Nat.not_lt_zero _)⟩
 case round =>
  obtain ⟨k,hk,rfl,hE,HA⟩:=hrel;have t2:=(HV2.out.ext hE).cell 2;simp only [gA,gH,gS] at t2;by_cases hlt:k < n
  ·obtain ⟨b,o,rfl,hb,hc⟩:=HNM.out (by omega)
   obtain ⟨vt,h1,_⟩:=hc k hlt;have hEw:=HE2.out.trans' hE;have c0:=(hEw.cell (p:=⟨b,o + k * 11,none⟩) hb).trans (h1 0 (.string (s.nm k).1) rfl);have c1':=(hEw.cell (p:=⟨b,o + k * 11 + 1,none⟩) hb).trans (h1 1 (.int .i64 (s.nm k).2) rfl);have hle:=HLE.out k hlt;have hit:=HIT.out k hlt H64.out HA.out;have hst:=fun h=>Q0 HA.out (HNO.out k h)
   have hsx:=HSZ.out k hlt;obtain ⟨x,hx,y,hy⟩:=V2 ((s.nm k).1) ((s.nm k).2);rw [← hx] at c0 hle hsx;rw [← hy] at c1' hit;obtain ⟨LE,hLE⟩:=V1 (listE s.names k);rw [← hLE] at hle hit hst;obtain ⟨HHT,HST,HLE2⟩:=Z3 hit hst hle;have i0:=nZ k;have i1:(k:Int) < (n:Int):=by omega
   obtain ⟨w5,g4,hw5,hg4,Hw5,Hg4,hU,hUE⟩:=T0 wr 27 #[.string x,.int .i64 y];obtain ⟨w6,g6,hw6,hg6,Hw6,Hg6,hB,hBE⟩:=T0 w5 27 #[.string x,.int .i64 y];obtain ⟨HE5,HU5,HE6,HU6⟩:=Z4 (hE.trans' hUE) hU ((hE.trans' hUE).trans' hBE) (hU.ext hBE);have hwd:WdsAt w6 w6.heap.size (some ⟨g6,0,none⟩) [(x,y)]:=⟨rfl,fun _=>⟨_,rfl,hB.lt,fun j u hu=>by
    have e:(⟨g6,0,none⟩:Addr).add j=⟨g6,j,none⟩:=by unfold Addr.add; split <;> simp_all
    rw [e,hB.cell j];simpa [wdCells] using hu⟩⟩
   have hlb:=Qcj (some ⟨g6,0,none⟩) 1 1 [(x,y)] w6 hwd rfl ⟨by simp,fun q=>by
    cases q with
    | zero=>exact hsx
    | succ q=>show (ByteArray.mk #[]).size≤_; exact Nat.zero_le _⟩
   rw [Qro] at hlb;have HLB:=hide hlb;obtain ⟨u0,u1⟩:=X2 hU;have hEr:=HE2.out.trans' HE6.out;clear hc h1 hx hy hLE hle hit hst hsx hEw hw5 hg4 hU hUE hw6 hg6 hB hBE hwd hlb hE hb HA HIT HMI HLE HMA;go_upto_region 7 with fail
   rw [← Hw5.out,← Hg4.out];clear t2 c0 c1';go_wp2_with fail
   rw [← Hw6.out,← Hg6.out];refine HLB.out.mono ?_;clear u0 u1;cases hrb:Qj x with
   | false =>
    have hle:=HLE2.out;rw [if_pos hrb] at hle;have HX:=hide (HHT.out 9 hle (by decide))
    clear hle;rw [if_pos rfl];rintro e w7 ⟨rfl,hE7⟩;rw [show fltV (9,y) = .agg #[.int .i64 9,.int .i64 y] from rfl]
    obtain ⟨w8,g5,hw8,hg5,Hw8,Hg5,hF,hFE⟩:=T0 w7 34 #[.int .i64 9,.int .i64 y];have HE8:=hide ((HE6.out.trans' hE7).trans' hFE);have hZ8:=HZ2.out.ext HE8.out;obtain ⟨d0,d1⟩:=X2 hF;obtain ⟨z0,z1⟩:=X2 hZ8;obtain ⟨f0,f1⟩:=Y2 hZ8;have HZ8:=hide hZ8;clear hE7 hw8 hg5 hF hFE hZ8;go_upto_region 8 with fail
    rw [← Hw8.out,← Hg5.out];go_wp2_with fail
    exact Qa (f:=(9,y)) (g:=g2) ((HZ8.out.set_ 0 _).set_ 1 _) rfl rfl rfl ⟨by rw [HX.out],ext_two' (HE2.out.trans' HE8.out) hlo2 _ _⟩
   | true =>
    have hle:=HLE2.out;rw [if_neg (by rw [hrb]; decide)] at hle
    have HLE3:=hide hle;clear hle;rw [if_neg (by decide)]
    rintro e w7 ⟨rfl,hE7⟩;rw [show fltV (0,0) = .agg #[.int .i64 0,.int .i64 0] from rfl]
    obtain ⟨w8,g5,hw8,hg5,Hw8,Hg5,hF,hFE⟩:=T0 w7 34 #[.int .i64 0,.int .i64 0];have HE8:=hide ((HE6.out.trans' hE7).trans' hFE);have hV8:=HV2.out.ext HE8.out;have hU8:=(HU6.out.ext hE7).ext hFE;obtain ⟨HU8,HFX⟩:=Z2 hU8 (HFD.out w8 (HE2.out.trans' HE8.out) x);have d0:=X1 hF;obtain ⟨s0,s1,s2,s3,s4,s5,s6,s7,s8,s9,s10,s11⟩:=X12 hV8;have u0:=X1 hU8;obtain ⟨FV,hFV⟩:=V1 (findL s.names x);have hle:=HLE3.out;rw [← hFV] at HFX hle;have HLE4:=hide hle;clear hE7 hw8 hg5 hF hFE hV8 hU8 hFV hle hrb;go_upto_region 8 with fail
    rw [← Hw8.out,← Hg5.out];go_wp2_with fail
    refine HFX.out.mono ?_;rintro e w9 ⟨rfl,hE9⟩;have HE9:=hide (HE8.out.trans' hE9);have hU9:=HU8.out.ext hE9;have hZ9:=HZ2.out.ext HE9.out;obtain ⟨z0,z1⟩:=X2 hZ9;obtain ⟨-,v1⟩:=X2 hU9;obtain ⟨f0,f1⟩:=Y2 hZ9;have HZ9:=hide hZ9;clear hE9 hU9 hZ9 d0 s0 s1 s2 s3 s4 s5 s6 s7 s8 s9 s10 s11 u0;by_cases hv:FV < (k:Int)
    ·have hle:=HLE4.out;rw [if_pos hv] at hle;have HX:=hide (HHT.out 10 hle (by decide))
     clear hle;go_wp2_with fail
     exact Qa (f:=(10,y)) (g:=g2) ((HZ9.out.set_ 0 _).set_ 1 _) rfl rfl rfl ⟨by rw [HX.out],ext_two' (HE2.out.trans' HE9.out) hlo2 _ _⟩
    ·have hle:=HLE4.out;rw [if_neg hv] at hle;have HNN:=hide (HST.out hle);clear hle;go_wp2_with fail
     go_roundw
     case rel=>exact ⟨k + 1,by omega,by go_num,HE9.out,HNN.out⟩
     case measure=>simp [intOf]; omega
  ·obtain rfl:k=n:=by omega
   have HX:=hide (HMI.out H64.out HA.out);have hZr:=HZ2.out.ext hE;have HEr:=hide (HE2.out.trans' hE);obtain ⟨z0,z1⟩:=X2 hZr;obtain ⟨f0,f1⟩:=Y2 hZr;have HZr:=hide hZr;clear hZr hE;go_wp2_with fail
   exact Qa (f:=(0,0)) (g:=g2) ((HZr.out.set_ 0 _).set_ 1 _) rfl rfl rfl ⟨by rw [HX.out],ext_two' HEr.out hlo2 _ _⟩
theorem Qn9:∃ i,Tryz.prog.info? 29=some i∧i.zero=some (.agg #[.int .i64 0,.int .i64 0,.int .i64 0,.int .i64 0,.int .i64 0,.slice none 0 0,.slice none 0 0,.string ⟨#[]⟩,.int .i64 0])∧i.size=9∧i.bytes=112 :=
 Qal (a:=9) (b:=112) (v:=.agg #[.int .i64 0,.int .i64 0,.int .i64 0,.int .i64 0,.int .i64 0,.slice none 0 0,.slice none 0 0,.string ⟨#[]⟩,.int .i64 0]) (s:=9) (by kernel_rfl)
theorem Qeb (w:World) {ops:Array Oper} {rest:List Oper} {o:Oper} {a:Act} {Q:Exit→Act→World→Prop} (hgd:o.guard=none) (s x:Operand)
  (ho:o.op = .call { callee:=.builtin .append,args:=#[s,x],argTypes:=#[97,97] })
  (base:Nat) (v:Value) (n:Nat) (xs:List Value) (hs:a.eval s=v) (B:Nat) (A:Option Addr) (c:Nat) (news:List Value) (hx:a.eval x = .slice A 1 c)
  (hown:w.ownsRow base 29 9 v n xs) (hr:Reads w B 9 A 1 news) (h1:∀ u ∈ news,u.oneCell'=true) (hn:n≤1000000) (hbase:base≤w.heap.size)
  (h:∀ A' c' w',w'.ownsRow base 29 9 (.slice A' (n + 1) c') (n + 1) (xs ++ news)→w.grownBy w' v.ownBlock→(Value.ownBlock (.slice A' (n + 1) c')=v.ownBlock∨Value.ownBlock (.slice A' (n + 1) c')=some w.heap.size)→wpList Tryz.prog ops Q rest (a.put o.dst (.slice A' (n + 1) c')) w'):wpList Tryz.prog ops Q (o :: rest) a w:=by
 obtain ⟨i0,hi,hz,hs2,hb⟩:=Qn9;exact Qp w hgd s x 97 ho base 29 i0 _ 9 112 Tryz.underlying97 hi hz hs2 hb rfl (by decide) v n xs hs hown B A 1 c news hx hr h1 (by unfold maxLen; omega) (by omega) hbase h
def TysIn (w:World) (B:Nat) (m:Nat) (f:Nat→Ty) (xs:List Value):Prop:=∀ i,i < m→TyAt w B (f i) ((xs.drop (i * 9)).take 9)
def TysAt (w:World) (B:Nat) (A:Option Addr) (m:Nat) (f:Nat→Ty):Prop:=∃ xs,Reads w B 9 A m xs∧TysIn w B m f xs
theorem TysIn.ext {w w':World} {m:Nat} {f:Nat→Ty} {xs:List Value} (h:TysIn w w.heap.size m f xs) (hE:Ext w w'):TysIn w' w'.heap.size m f xs:=fun i hi=>(h i hi).ext hE
theorem Qcy (xs:List Value) (k j:Nat) (hj:j < 9):((xs.drop (k * 9)).take 9)[j]? = xs[k * 9 + j]?:=by
 rw [List.getElem?_take_of_lt hj,List.getElem?_drop]
theorem Ql7 {xs vs:List Value} {n k:Nat} (hx:xs.length=n * 9) (hk:k < n):(((xs ++ vs).drop (k * 9)).take 9)=((xs.drop (k * 9)).take 9):=by
 apply List.ext_getElem?
 intro j;rcases Nat.lt_or_ge j 9 with hj | hj
 ·rw [Qcy _ _ _ hj,Qcy _ _ _ hj,List.getElem?_append_left (by omega)]
 ·rw [List.getElem?_take_eq_none hj,List.getElem?_take_eq_none hj]
theorem Qth {xs vs:List Value} {n:Nat} (hx:xs.length=n * 9) (hv:vs.length=9):(((xs ++ vs).drop (n * 9)).take 9)=vs:=by
 rw [← hx,List.drop_left,← hv,List.take_length]
theorem TysAt.cell {w:World} {B:Nat} {A:Option Addr} {m:Nat} {f:Nat→Ty} (h:TysAt w B A m f) (hn:0 < m):∃ b o,A=some ⟨b,o,none⟩∧b < B∧∀ k,k < m→∃ vt,w.rangeAt b (o + k * 9) vt∧TyAt w B (f k) vt:=by
 obtain ⟨xs,h1,h2⟩:=h;obtain ⟨b,o,e,hb,hc⟩:=h1.form hn (by omega)
 refine ⟨b,o,e,hb,fun k hk=>⟨_,fun j v hj=>?_,h2 k hk⟩⟩
 have hj9:j < 9:=by
  have:=(List.getElem?_eq_some_iff.1 hj).1
  rw [List.length_take] at this;omega
 rw [Qcy _ _ _ hj9] at hj;have:=hc (k * 9 + j) v hj
 rw [← Nat.add_assoc] at this;exact this
theorem TyAt.one9 {t:Ty} {w:World} {B:Nat} {vs:List Value} (h:TyAt w B t vs):∀ u ∈ vs,u.oneCell'=true:=by
 obtain ⟨h',n',An,cn,Ap,cp,rfl⟩:=h.form;intro u hu;simp [tyV] at hu
 rcases hu with rfl | rfl | rfl | rfl | rfl | rfl | rfl | rfl | rfl <;> rfl
theorem TysIn.more {w:World} {B m:Nat} {f:Nat→Ty} {xs vt:List Value} (h:TysIn w B m f xs) (hx:xs.length=m * 9) (ht:TyAt w B (f m) vt):TysIn w B (m + 1) f (xs ++ vt):=by
 intro i hi;rcases Nat.lt_or_ge i m with h1 | h1
 ·rw [Ql7 hx h1]; exact h i h1
 ·obtain rfl:i=m:=by omega
  rw [Qth hx (by obtain ⟨a0,a1,a2,a3,a4,a5,a6,a7,a8,e⟩:=ht.nine; rw [e]; rfl)]
  exact ht
set_option maxRecDepth 100000 in
theorem Qke (s:Sch) (vs:List Value) (w0 w:World) (hS:SchAt w0 s vs) (hE0:Ext w0 w) (h100:s.n≤100):Calls Tryz.prog 38 #[.agg vs.toArray] w (fun e w'=>∃ A c xs,e = .returned (.slice A (s.n + 1) c)∧Reads w' w'.heap.size 9 A (s.n + 1) xs∧TysIn w0 w0.heap.size (s.n + 1) s.all xs∧Ext w w'∧∀ a,A=some a→w.heap.size≤a.block):=by
 obtain ⟨A1,c1,A2,c2,A3,c3,vr,rfl,hA1,hA2,hA3,hR⟩:=hS;obtain ⟨y0,y1,y2,y3,y4,y5,y6,y7,y8,rfl⟩:∃ y0 y1 y2 y3 y4 y5 y6 y7 y8:Value,vr = [y0,y1,y2,y3,y4,y5,y6,y7,y8]:=by obtain ⟨y0,y1,y2,y3,y4,y5,y6,y7,y8,e⟩:=hR.nine; exact ⟨y0,y1,y2,y3,y4,y5,y6,y7,y8,e⟩
 obtain ⟨nw,hnw,no,hno,n,hn⟩:=V3 (s.ws.length) (s.os.length) (s.n);obtain ⟨HNM,HRT,HE0⟩:=Z3 hA3 hR hE0;rw [← hn] at HNM h100;rw [← hnw,← hno,← hn];have HN:=hide hn;have hn0:=nZ n;clear hnw hno hn hA1 hA2 hA3 hR hE0;show Calls Tryz.prog 38 #[.agg #[.slice A1 nw c1,.slice A2 no c2,.slice A3 n c3,y0,y1,y2,y3,y4,y5,y6,y7,y8]] w _
 obtain ⟨w1,g1,hw1,hg1,Hw1,Hg1,hV,hVE⟩:=T0 w 31 #[.slice A1 nw c1,.slice A2 no c2,.slice A3 n c3,y0,y1,y2,y3,y4,y5,y6,y7,y8];obtain ⟨HE1,HV⟩:=Z2 hVE hV;clear hw1 hg1 hV hVE;go_enter Tryz.func38,Tryz.ntmps38
 go_upto_region 1 with fail
 rw [← Hw1.out,← Hg1.out];go_wp2_with fail
 go_loopw [4,3] (fun i v wr=>∃ (k:Nat) (Ao:Option Addr) (co:Nat) (xs:List Value),k≤n∧i = .int .i64 (k:Int)∧v = .slice Ao k co∧Ext w1 wr∧wr.ownsRow w1.heap.size 29 9 (.slice Ao k co) k xs∧Hid (TysIn w0 w0.heap.size k s.all xs)) (fun i _ _=>n - (intOf i).toNat)
 case atStart=>exact ⟨0,none,0,[],Nat.zero_le _,rfl,rfl,Ext.rfl' _,World.ownsRow_nil _ _ _ _,fun i hi=>absurd hi (Nat.not_lt_zero _)⟩
 case round =>
  obtain ⟨k,Ao,co,xs,hk,rfl,rfl,hE,hO,HX⟩:=hrel;have hVr:=HV.out.ext hE;obtain ⟨-,-,t2⟩:=X3 hVr;by_cases hlt:k < n
  ·have hEw:=HE0.out.trans' (HE1.out.trans' hE);obtain ⟨b,o,rfl,hb,hc⟩:=HNM.out (by omega)
   obtain ⟨vt,h1,h2⟩:=hc k hlt;obtain ⟨z0,z1,z2,z3,z4,z5,z6,z7,z8,rfl⟩:∃ z0 z1 z2 z3 z4 z5 z6 z7 z8:Value,vt = [z0,z1,z2,z3,z4,z5,z6,z7,z8]:=by obtain ⟨y0,y1,y2,y3,y4,y5,y6,y7,y8,e⟩:=h2.nine; exact ⟨y0,y1,y2,y3,y4,y5,y6,y7,y8,e⟩
   have HRG:=hide (show wr.rangeAt b (o + k * 11 + 2) [z0,z1,z2,z3,z4,z5,z6,z7,z8] from Qbp (xs:=[.string (s.nm k).1,.int .i64 (s.nm k).2]) fun j v hv=>(hEw.cell (p:=⟨b,o + k * 11 + j,none⟩) hb).trans (h1 j v hv))
   have HTY:=hide (show TyAt w0 w0.heap.size (s.all k) [z0,z1,z2,z3,z4,z5,z6,z7,z8] by rw [Sch.all_lt (by have:=HN.out; omega)]; exact h2)
   have HON:=hide (TyAt.one9 h2);have i0:=nZ k;have i1:(k:Int) < (n:Int):=by omega
   obtain ⟨HE,HO⟩:=Z2 hE hO;have HXL:=hide hO.1;clear hc h1 h2 hEw hE hO hVr hb;go_upto_region 5 with fail
   refine wp_region_lit ?_;refine wpList_plain rfl fun K0 hK0=>?_
   go_simp;refine hK0 _ _ ?_;refine wpList_plain rfl fun K1 hK1=>?_
   go_simp;refine hK1 _ _ ?_;refine wpList_plain rfl fun K2 hK2=>?_
   go_simp;refine hK2 _ _ ?_;refine wpList_plain rfl fun K3 hK3=>?_
   go_simp;refine hK3 _ _ ?_;refine wpList_plain rfl fun K4 hK4=>?_
   go_simp;refine hK4 _ _ ?_;refine wpList_plain rfl fun K5 hK5=>?_
   go_simp;refine hK5 _ _ ?_;refine wpList_load_mid rfl 29 _ rfl b (o + k * 11 + 2) rfl _ _ HRG.out Tryz.underlying29 rfl Qbg ?_;refine wpList_plain rfl fun K7 hK7=>?_
   go_simp;refine hK7 _ _ ?_;obtain ⟨wX,hwX⟩:=V1 (wr.alloc (.cells #[z0,z1,z2,z3,z4,z5,z6,z7,z8] 29));have hEX:Ext wr wX:=by rw [hwX]; exact (Ext.rfl' wr).alloc nL _
   have hrd:Reads wX (wr.heap.size + 1) 9 (some ⟨wr.heap.size,0,none⟩) 1 [z0,z1,z2,z3,z4,z5,z6,z7,z8]:=by rw [hwX]; exact Qa6 wr 29 [z0,z1,z2,z3,z4,z5,z6,z7,z8] 9 rfl _ rfl
   rw [← hwX];refine Qeb wX rfl _ _ rfl w1.heap.size _ k xs rfl (wr.heap.size + 1) (some ⟨wr.heap.size,0,none⟩) 1 [z0,z1,z2,z3,z4,z5,z6,z7,z8] rfl (own_ext HO.out hEX) hrd HON.out (by omega) (by have:=HE.out.size; have:=hEX.size; omega) ?_
   intro A7 c7 w7 hown7 hgrow7 _;have hE7:Ext w1 w7:=grown_ext' (w:=w1) (wr:=wr) (base:=w1.heap.size) HE.out hEX hgrow7 HO.out nL;obtain ⟨HT7,HE7,HO7⟩:=Z3 (TysIn.more HX.out HXL.out HTY.out) hE7 hown7;clear hwX hEX hrd hown7 hgrow7 hE7 t2;go_wp2_with fail
   go_roundw
   case rel=>exact ⟨k + 1,A7,c7,xs ++ [z0,z1,z2,z3,z4,z5,z6,z7,z8],by omega,by go_num,rfl,HE7.out,HO7.out,HT7.out⟩
   case measure=>simp [intOf]; omega
  ·obtain rfl:k=n:=by omega
   have hEw:=HE1.out.trans' hE;have HRG:=hide (show wr.rangeAt g1 3 [y0,y1,y2,y3,y4,y5,y6,y7,y8] from fun j v hv=>by
    have hj:j < 9:=(List.getElem?_eq_some_iff.1 hv).1;rw [hVr.cell (3 + j)];rw [gA,show 3 + j=j + 1 + 1 + 1 by omega,gS,gS,gS]
    exact hv)
   have HTY:=hide (show TyAt w0 w0.heap.size (s.all k) [y0,y1,y2,y3,y4,y5,y6,y7,y8] by rw [HN.out,Sch.all_end]; exact HRT.out)
   obtain ⟨HON,HE,HEW,HO⟩:=Z4 (TyAt.one9 HRT.out) hE hEw hO;have HXL:=hide hO.1;clear hE hO hVr hEw;go_upto_region 6 with fail
   refine wp_region_lit ?_;clear t2;refine wpList_plain rfl fun K0 hK0=>?_
   go_simp;refine hK0 _ _ ?_;refine wpList_plain rfl fun K1 hK1=>?_
   go_simp;refine hK1 _ _ ?_;refine wpList_load_mid rfl 29 _ rfl g1 3 rfl _ _ HRG.out Tryz.underlying29 rfl Qbg ?_;refine wpList_plain rfl fun K7 hK7=>?_
   go_simp;refine hK7 _ _ ?_;obtain ⟨wX,hwX⟩:=V1 (wr.alloc (.cells #[y0,y1,y2,y3,y4,y5,y6,y7,y8] 29));have hEX:Ext wr wX:=by rw [hwX]; exact (Ext.rfl' wr).alloc nL _
   have hrd:Reads wX (wr.heap.size + 1) 9 (some ⟨wr.heap.size,0,none⟩) 1 [y0,y1,y2,y3,y4,y5,y6,y7,y8]:=by rw [hwX]; exact Qa6 wr 29 [y0,y1,y2,y3,y4,y5,y6,y7,y8] 9 rfl _ rfl
   rw [← hwX];refine Qeb wX rfl _ _ rfl w1.heap.size _ k xs rfl (wr.heap.size + 1) (some ⟨wr.heap.size,0,none⟩) 1 [y0,y1,y2,y3,y4,y5,y6,y7,y8] rfl (own_ext HO.out hEX) hrd HON.out (by omega) (by have:=HE.out.size; have:=hEX.size; omega) ?_
   intro A7 c7 w7 hown7 hgrow7 _;have hE7:Ext w1 w7:=grown_ext' (w:=w1) (wr:=wr) (base:=w1.heap.size) HE.out hEX hgrow7 HO.out nL;obtain ⟨HT7,HE7,HO7⟩:=Z3 (TysIn.more HX.out HXL.out HTY.out) (HE1.out.trans' hE7) hown7;clear hwX hEX hrd hown7 hgrow7 hE7;go_wp2_with fail
   go_ret
   exact ⟨A7,c7,_,rfl,Reads.of_own HO7.out,HT7.out,HE7.out,fun a ha=>Nat.le_trans HE1.out.size (own_base HO7.out a ha)⟩
theorem Qti (s:Sch) (vs:List Value) (w:World) (hS:SchAt w s vs) (h100:s.n≤100):Calls Tryz.prog 38 #[.agg vs.toArray] w (fun e w'=>∃ A c,e = .returned (.slice A (s.n + 1) c)∧TysAt w' w'.heap.size A (s.n + 1) s.all∧Ext w w') :=
 (Qke s vs w w hS (Ext.rfl' _) h100).mono (by
  rintro e w' ⟨A,c,xs,rfl,h1,h2,h3,_⟩;exact ⟨A,c,rfl,⟨xs,h1,h2.ext h3⟩,h3⟩)
theorem Qkf {ws:List Wd} {os:List (Wd × Wd)} (h:(wrongL ws os).1=0):wrongL ws os=(0,0):=by
 have hg:=Qgy h;have h1:¬ ws.length=0:=by have:=hg.pos; omega
 have h2:¬ 32 < ws.length:=by have:=hg.few; omega
 have h3:¬ 256 < os.length:=by have:=hg.fewO; omega
 have h4:=firstOf_miss.2 hg.named;have h5:=firstOf_miss.2 hg.found;unfold wrongL at h ⊢;rw [if_neg h1,if_neg h2,if_neg h3,h4] at h ⊢;dsimp only at h ⊢
 rw [h5] at h ⊢;dsimp only at h ⊢
 unfold Qb5 at h ⊢;cases h6:Qac (leads ws.length (prs ws os)) with
 | some a=>rw [h6] at h; cases h
 | none =>
  rw [h6] at h;dsimp only at h ⊢
  unfold Qbm at h ⊢;by_cases c:LatM.boundsL ws.length (leqL ws os) < 0
  ·rw [if_pos c]
  ·rw [if_neg c] at h; cases h
section
variable {s:Sch}
theorem Qi5 {k:Nat} {M:Int} (h:(chk (s.all k) 1 0).1.1≠0):(s.rightG k M).1=(chk (s.all k) 1 0).1:=by
 unfold Sch.rightG; rw [if_pos h]
theorem Qnm {k:Nat} {M:Int} (h:(chk (s.all k) 1 0).1.1=0) (h2:512 < IntKind.i64.wrap (M + Q6 (s.all k))):(s.rightG k M).1=(8,(s.all k).pl):=by
 unfold Sch.rightG; rw [if_neg (by rw [h]; decide),if_pos h2]
theorem Qrp {k:Nat} {M:Int} (h:(chk (s.all k) 1 0).1.1=0) (h2:¬ 512 < IntKind.i64.wrap (M + Q6 (s.all k))):s.rightG k M=((0,0),IntKind.i64.wrap (M + Q6 (s.all k))):=by
 unfold Sch.rightG; rw [if_neg (by rw [h]; decide),if_neg h2]
theorem Qrq {k:Nat} {M:Int} {f:Flt} (hk:k < s.n + 1) (h1:(goTo s.rightG k 0).1.1=0) (h2:(goTo s.rightG k 0).2=M) (hf:(s.rightG k M).1=f) (hn:f.1≠0):s.rightF=f:=by
 have e:goTo s.rightG (k + 1) 0=s.rightG k M:=by rw [Qae h1,h2]
 unfold Sch.rightF;rw [Qa1 (k:=k + 1) (by omega) (by rw [e,hf]; exact hn),e,hf]
theorem Qpj {k:Nat} {M M':Int} (h1:(goTo s.rightG k 0).1.1=0) (h2:(goTo s.rightG k 0).2=M) (hf:s.rightG k M=((0,0),M')):(goTo s.rightG (k + 1) 0).1.1=0∧(goTo s.rightG (k + 1) 0).2=M':=by
 rw [Qae h1,h2,hf]; exact ⟨rfl,rfl⟩
theorem Qpk {k:Nat} {f:Flt} (hk:k < s.n + 1) (h0:∀ j,j < k→(s.knownF (s.all j)).1=0) (hf:s.knownF (s.all k)=f) (hn:f.1≠0):s.knownsF=f:=by
 unfold Sch.knownsF;rw [Qk (k:=k) (x:=f) hk (fun j hj=>Qb7 (h0 j hj)) (by rw [hf]; exact Qgf hn)]
 rfl
theorem Qnn (h0:∀ j,j < s.n + 1→(s.knownF (s.all j)).1=0):s.knownsF=(0,0):=by
 unfold Sch.knownsF;rw [firstOf_miss.2 (fun j hj=>Qb7 (h0 j hj))]
 rfl
theorem Qno {q k:Nat} (hk:k < s.n) (h0:∀ j,j < k→s.loopAt q j=none) (h:s.endK q k=none):s.loopsF q=(11,(s.nm k).2):=by
 unfold Sch.loopsF;rw [Qk hk h0 (show s.loopAt q k=some (11,(s.nm k).2) by unfold Sch.loopAt; rw [h,if_pos rfl])]
 rfl
theorem Ql8 {q:Nat} (h0:∀ j,j < s.n→s.loopAt q j=none):s.loopsF q=(0,0):=by
 unfold Sch.loopsF;rw [firstOf_miss.2 h0];rfl
end
set_option maxRecDepth 100000 in
theorem Qpl (s:Sch) (vs:List Value) (w:World) (hS:SchAt w s vs) (hz:SchSz s) (hw100:s.ws.length≤100) (h100:s.n≤100):Calls Tryz.prog 27 #[.agg vs.toArray] w (fun e w'=>e = .returned (fltV (s.badK 99))∧Ext w w'):=by
 have hSS:=hS;obtain ⟨A1,c1,A2,c2,A3,c3,vr,rfl,hA1,hA2,hA3,hR⟩:=hS;obtain ⟨y0,y1,y2,y3,y4,y5,y6,y7,y8,rfl⟩:∃ y0 y1 y2 y3 y4 y5 y6 y7 y8:Value,vr = [y0,y1,y2,y3,y4,y5,y6,y7,y8]:=by obtain ⟨y0,y1,y2,y3,y4,y5,y6,y7,y8,e⟩:=hR.nine; exact ⟨y0,y1,y2,y3,y4,y5,y6,y7,y8,e⟩
 obtain ⟨nw,hnw,no,hno,n,hn⟩:=V3 (s.ws.length) (s.os.length) (s.n);obtain ⟨HLW,HND,HAL,HWR,HSI,HUN,HEN,HNM⟩:=Z8 (fun w1 (hE:Ext w w1)=>Qlf A1 c1 nw s.ws A2 c2 no s.os w1 (hA1.ext hE) hz.ws.2 hnw (hA2.ext hE) hno) (fun w1 (hE:Ext w w1)=>Qpi s _ w1 (hSS.ext hE) hz h100) (fun w1 (hE:Ext w w1)=>Qti s _ w1 (hSS.ext hE) h100) (fun k (hk:k < s.n + 1) w1 vt (hT:TyAt w1 w1.heap.size (s.all k) vt)=>Qkl (s.all k) (hz.all k (by omega)) 1 0 w1 vt hT) (fun k (hk:k < s.n + 1) w1 vt (hT:TyAt w1 w1.heap.size (s.all k) vt)=>Qhs (s.all k) w1 vt hT (hz.all k (by omega))) (fun k (hk:k < s.n + 1) w1 vt (hE:Ext w w1) (hT:TyAt w1 w1.heap.size (s.all k) vt)=>Qnl s _ h100 hw100 w hSS (s.all k) (hz.all k (by omega)) w1 vt hE hT) (fun (hKn:∀ i,i < s.n→s.Known (s.ty i)) i w1 (hE:Ext w w1) (hi:i < s.n)=>Ql6 s _ h100 hz hKn 99 i w1 (hSS.ext hE) hi (by omega)) hA3
 rw [← hn] at HAL HWR HSI HUN HEN HNM h100;rw [← hnw,← hno] at HAL HUN HEN;rw [← hnw,← hno,← hn] at HND ⊢;have HN:=hide hn;have hn0:=nZ n;obtain ⟨R,hR_⟩:=V1 (s.badK 99);obtain ⟨HB1,HB2,HB3,HB4,HB5⟩:=Z5 (fun h=>Qly (s:=s) (k:=99) h) (fun h1 h=>Qhl (s:=s) (k:=99) h1 h) (fun h1 h2 h=>Qi0 (s:=s) (k:=99) h1 h2 h) (fun h1 h2 h3 h=>Qi1 (s:=s) (k:=99) h1 h2 h3 h) (fun h1 h2 h3 h4=>Qdp (s:=s) (k:=99) h1 h2 h3 h4)
 rw [← hR_] at HB1 HB2 HB3 HB4 HB5 ⊢;clear hnw hno hn hA1 hA2 hA3 hR hz hSS hR_;show Calls Tryz.prog 27 #[.agg #[.slice A1 nw c1,.slice A2 no c2,.slice A3 n c3,y0,y1,y2,y3,y4,y5,y6,y7,y8]] w _
 obtain ⟨w1,g1,hw1,hg1,Hw1,Hg1,hV,hVE⟩:=T0 w 31 #[.slice A1 nw c1,.slice A2 no c2,.slice A3 n c3,y0,y1,y2,y3,y4,y5,y6,y7,y8];obtain ⟨w2,g2,hw2,hg2,Hw2,Hg2,hZ,hZE⟩:=T0 w1 34 #[.int .i64 0,.int .i64 0];have Hg2':=hide (show g2=g1 + 1 by rw [hg2,hw1,World.size_alloc,← hg1])
 obtain ⟨HE2,HV2,HZ2⟩:=Z3 (hVE.trans' hZE) (hV.ext hZE) hZ;have hlo2:w.heap.size≤g2:=by have:=hVE.size; omega
 obtain ⟨t0,t1⟩:=X2 HV2.out;clear hw1 hg1 hw2 hg2 hV hVE hZ hZE;go_enter Tryz.func27,Tryz.ntmps27
 go_upto_region 1 with fail
 rw [← Hw1.out,← Hg1.out,← Hw2.out,← Hg2'.out];go_wp2_with fail
 refine (HLW.out w2 HE2.out).mono ?_;rintro e w3 ⟨rfl,hE3⟩;obtain ⟨E1,hE1,B1,hB1⟩:=V2 ((wrongL s.ws s.os).1) ((wrongL s.ws s.os).2);have HQE1:=hide (show wrongL s.ws s.os=(E1,B1) by rw [hE1,hB1])
 rw [show fltV (wrongL s.ws s.os) = .agg #[.int .i64 E1,.int .i64 B1] by rw [hE1,hB1]; rfl]
 obtain ⟨w4,g3,hw4,hg3,Hw4,Hg3,hF,hFE⟩:=T0 w3 34 #[.int .i64 E1,.int .i64 B1];have HEw4:=hide (hE3.trans' hFE);obtain ⟨d0,d1⟩:=X2 hF;clear hE1 hB1 hw4 hg3 hF hFE;go_upto_region 2 with fail
 rw [← Hw4.out,← Hg3.out];by_cases h0:E1=0
 rotate_left
 ·have hxb:(E1 != 0)=true:=by simpa using h0
  have HX:=hide (show R=(E1,B1) by rw [HB1.out (by rw [HQE1.out]; exact h0),HQE1.out])
  clear h0;have hZr:=HZ2.out.ext HEw4.out;obtain ⟨z0,z1⟩:=X2 hZr;obtain ⟨f0,f1⟩:=Y2 hZr;have HZr:=hide hZr;clear hZr;go_wp2_with fail
  exact Qa (f:=(E1,B1)) (g:=g2) ((HZr.out.set_ 0 _).set_ 1 _) rfl rfl rfl ⟨by rw [HX.out],ext_two' (HE2.out.trans' HEw4.out) hlo2 _ _⟩
 have hxbE1:(E1 != 0)=false:=by simpa using h0
 have HZE1:=hide (show (wrongL s.ws s.os).1=0 by rw [HQE1.out]; exact h0)
 clear h0;go_upto_region 4 with fail
 clear d0 d1;have HZL:=hide (Qkf HZE1.out);clear hE3 t0 t1;have hV4:=HV2.out.ext HEw4.out;have HNDc:=hide (HND.out w4 (HE2.out.trans' HEw4.out));obtain ⟨t0,t1,t2,t3,t4,t5,t6,t7,t8,t9,t10,t11⟩:=X12 hV4;clear hV4;go_wp2_with fail
 refine HNDc.out.mono ?_;rintro e w5 ⟨rfl,hE5⟩;have hE25:=HEw4.out.trans' hE5;clear t0 t1 t2 t3 t4 t5 t6 t7 t8 t9 t10 t11;obtain ⟨E2,hE2,B2,hB2⟩:=V2 ((s.calledF).1) ((s.calledF).2);have HQE2:=hide (show s.calledF=(E2,B2) by rw [hE2,hB2])
 rw [show fltV (s.calledF) = .agg #[.int .i64 E2,.int .i64 B2] by rw [hE2,hB2]; rfl]
 obtain ⟨w6,g4,hw6,hg4,Hw6,Hg4,hF,hFE⟩:=T0 w5 34 #[.int .i64 E2,.int .i64 B2];have HEw6:=hide (hE25.trans' hFE);obtain ⟨d0,d1⟩:=X2 hF;clear hE2 hB2 hw6 hg4 hF hFE;go_upto_region 5 with fail
 rw [← Hw6.out,← Hg4.out];by_cases h0:E2=0
 rotate_left
 ·have hxb:(E2 != 0)=true:=by simpa using h0
  have HX:=hide (show R=(E2,B2) by rw [HB2.out HZL.out (by rw [HQE2.out]; exact h0),HQE2.out])
  clear h0;have hZr:=HZ2.out.ext HEw6.out;obtain ⟨z0,z1⟩:=X2 hZr;obtain ⟨f0,f1⟩:=Y2 hZr;have HZr:=hide hZr;clear hZr;go_wp2_with fail
  exact Qa (f:=(E2,B2)) (g:=g2) ((HZr.out.set_ 0 _).set_ 1 _) rfl rfl rfl ⟨by rw [HX.out],ext_two' (HE2.out.trans' HEw6.out) hlo2 _ _⟩
 have hxbE2:(E2 != 0)=false:=by simpa using h0
 have HZE2:=hide (show (s.calledF).1=0 by rw [HQE2.out]; exact h0)
 clear h0;go_upto_region 7 with fail
 clear d0 d1;clear hE5 hE25;have hV6:=HV2.out.ext HEw6.out;have HALc:=hide (HAL.out w6 (HE2.out.trans' HEw6.out));obtain ⟨t0,t1,t2,t3,t4,t5,t6,t7,t8,t9,t10,t11⟩:=X12 hV6;clear hV6;go_wp2_with fail
 refine HALc.out.mono ?_;rintro e w7 ⟨Al,cl,rfl,hT7,hE7⟩;obtain ⟨HT7,HE7⟩:=Z2 hT7 (HEw6.out.trans' hE7);clear t0 t1 t2 t3 t4 t5 t6 t7 t8 t9 t10 t11 hT7 hE7;obtain ⟨N1,hN1⟩:=V1 (n + 1);have HN1:=hide hN1;rw [← hN1] at HT7 HWR HSI HUN ⊢;have hN100:N1≤101:=by omega
 have hN10:1≤N1:=by omega
 have hN1i:=nZ N1;clear hN1;go_wp2_with fail
 go_loopw [7,6] (fun i mm wr=>∃ (k:Nat) (M:Int),k≤N1∧i = .int .i64 (k:Int)∧mm = .int .i64 M∧Ext w7 wr∧Hid ((goTo s.rightG k 0).1.1=0∧(goTo s.rightG k 0).2=M)) (fun i _ _=>N1 - (intOf i).toNat)
 case atStart=>exact ⟨0,0,Nat.zero_le _,rfl,rfl,Ext.rfl' _,⟨rfl,rfl⟩⟩
 case round =>
  obtain ⟨k,M,hk,rfl,rfl,hE,HG⟩:=hrel;by_cases hlt:k < N1
  ·have hkn:k < s.n + 1:=by have:=HN.out; have:=HN1.out; omega
   obtain ⟨b,o,rfl,hb,hc⟩:=HT7.out.cell (by omega)
   obtain ⟨vt,h1,h2⟩:=hc k hlt;have hpl:=h2.at1;obtain ⟨z0,z1,z2,z3,z4,z5,z6,z7,z8,rfl⟩:∃ z0 z1 z2 z3 z4 z5 z6 z7 z8:Value,vt = [z0,z1,z2,z3,z4,z5,z6,z7,z8]:=by obtain ⟨y0,y1,y2,y3,y4,y5,y6,y7,y8,e⟩:=h2.nine; exact ⟨y0,y1,y2,y3,y4,y5,y6,y7,y8,e⟩
   obtain rfl:z1 = .int .i64 (s.all k).pl:=by simpa using hpl
   have hwr:=fun w1 (hE:Ext w7 w1)=>HWR.out k hlt w1 _ (h2.ext hE)
   have hsi:=fun w1 (hE:Ext w7 w1)=>HSI.out k hlt w1 _ (h2.ext hE)
   have hr1:=fun {M} h=>Qi5 (s:=s) (k:=k) (M:=M) h
   have hg1:=fun f hf hn=>Qrq (s:=s) hkn HG.out.1 HG.out.2 (f:=f) hf hn
   have hm:=fun h h2=>Qnm (s:=s) (k:=k) (M:=M) h h2
   have hok:=fun h h2=>Qrp (s:=s) (k:=k) (M:=M) h h2
   have hgd:=fun M' hf=>Qpj (s:=s) (M':=M') HG.out.1 HG.out.2 hf
   have h1c:=fun h=>Qi5 (s:=s) (k:=k) (M:=M) h
   unfold Qfd at hsi;obtain ⟨pl,hpl_,CK,hCK,CN,hCN,DP,hDP⟩:=V4 ((s.all k).pl) (chk (s.all k) 1 0) (Q6 (s.all k)) (Qba (s.all k));rw [← hpl_] at hwr hsi hm h1;rw [← hCK] at hwr hm hok h1c;rw [← hCN] at hsi hm hok;rw [← hDP] at hsi;obtain ⟨HM,HOK,HGD,HG1,H1C⟩:=Z5 hm hok hgd hg1 h1c;obtain ⟨⟨CE,CA⟩,CM⟩:=CK;have HWK:=hide (show ∀ w1,Ext w7 w1→Calls Tryz.prog 57 #[.agg #[.int .i64 0,.int .i64 0,.int .i64 0],.agg #[z0,.int .i64 pl,z2,z3,z4,z5,z6,z7,z8],.int .i64 1] w1 (fun e w'=>e = .returned (.agg #[.int .i64 CE,.int .i64 CA,.int .i64 CM])∧Ext w1 w') from hwr)
   have HSK:=hide (show ∀ w1,Ext w7 w1→Calls Tryz.prog 48 #[.agg #[z0,.int .i64 pl,z2,z3,z4,z5,z6,z7,z8]] w1 (fun e w'=>e = .returned (.tuple #[.int .i64 CN,.int .i64 DP])∧Ext w1 w') from hsi)
   have HRG:=hide (show ∀ w1,Ext w7 w1→w1.rangeAt b (o + k * 9) [z0,.int .i64 pl,z2,z3,z4,z5,z6,z7,z8] from fun w1 hE j v hv=>(hE.cell (p:=⟨b,o + k * 9 + j,none⟩) hb).trans (h1 j v hv))
   have HE:=hide hE;have i0:=nZ k;have i1:(k:Int) < (N1:Int):=by omega
   have hkk:k≤101:=by omega
   clear hc h1 h2 hpl hwr hsi hr1 hg1 hm hok hgd h1c hpl_ hCK hCN hDP hb hE HG;go_upto_region 12 with fail
   refine wp_region_lit ?_;refine wpList_plain rfl fun K0 hK0=>?_
   go_simp;refine hK0 _ _ ?_;refine wpList_plain rfl fun K1 hK1=>?_
   go_simp;refine hK1 _ _ ?_;refine wpList_plain rfl fun K2 hK2=>?_
   go_simp;refine hK2 _ _ ?_;refine wpList_plain rfl fun K3 hK3=>?_
   go_simp;refine hK3 _ _ ?_;refine wpList_load_mid rfl 29 _ rfl b (o + k * 9) rfl _ _ (HRG.out wr HE.out) Tryz.underlying29 rfl Qbg ?_;refine wpList_plain rfl fun K7 hK7=>?_
   go_simp;refine (HWK.out wr HE.out).mono ?_;rintro e w8 ⟨rfl,hE8⟩;refine hK7 _ _ ?_;obtain ⟨w9,g8,hw9,hg8,Hw9,Hg8,hF,hFE⟩:=T0 w8 124 #[.int .i64 CE,.int .i64 CA,.int .i64 CM];have HE9:=hide ((HE.out.trans' hE8).trans' hFE);have HE29:=hide (HE7.out.trans' HE9.out);obtain ⟨d0,d1⟩:=X2 hF;clear hE8 hw9 hg8 hF hFE;go_upto_region 13 with fail
   rw [← Hw9.out,← Hg8.out];by_cases h0:CE=0
   rotate_left
   ·have hxb:(CE != 0)=true:=by simpa using h0
    have HX:=hide (show R=(CE,CA) by rw [HB3.out HZL.out HZE2.out (by rw [HG1.out (CE,CA) (H1C.out h0) h0]; exact h0),HG1.out (CE,CA) (H1C.out h0) h0])
    clear h0;have hZr:=HZ2.out.ext HE29.out;obtain ⟨z0,z1⟩:=X2 hZr;obtain ⟨f0,f1⟩:=Y2 hZr;have HZr:=hide hZr;clear hZr;go_wp2_with fail
    exact Qa (f:=(CE,CA)) (g:=g2) ((HZr.out.set_ 0 _).set_ 1 _) rfl rfl rfl ⟨by rw [HX.out],ext_two' (HE2.out.trans' HE29.out) hlo2 _ _⟩
   have hxb:(CE != 0)=false:=by simpa using h0
   obtain ⟨HM2,HOK2⟩:=Z2 (fun h=>HM.out h0 h) (fun h=>HOK.out h0 h)
   clear h0 HM HOK H1C;go_upto_region 15 with fail
   clear d0 d1;refine wp_region_lit ?_;refine wpList_plain rfl fun K0 hK0=>?_
   go_simp;refine hK0 _ _ ?_;refine wpList_plain rfl fun K1 hK1=>?_
   go_simp;refine hK1 _ _ ?_;refine wpList_plain rfl fun K2 hK2=>?_
   go_simp;refine hK2 _ _ ?_;refine wpList_load_mid rfl 29 _ rfl b (o + k * 9) rfl _ _ (HRG.out w9 HE9.out) Tryz.underlying29 rfl Qbg ?_;refine wpList_plain rfl fun K8 hK8=>?_
   go_simp;refine (HSK.out w9 HE9.out).mono ?_;rintro e w10 ⟨rfl,hE10⟩;refine hK8 _ _ ?_;have HE10:=hide (HE9.out.trans' hE10);have HE210:=hide (HE7.out.trans' HE10.out);clear hE10;have c1':=HRG.out w10 HE10.out 1 (.int .i64 pl) rfl;obtain ⟨MM,hMM⟩:=V1 (IntKind.i64.wrap (M + CN));have hw64:wrap64 (M + CN)=MM:=by rw [hMM,wrap_64]
   rw [← hMM] at HM2 HOK2;clear hMM;by_cases h5:512 < MM
   ·have hrf:=HG1.out (8,pl) (HM2.out h5) (show (8:Int)≠0 by decide)
    have HX:=hide (show R=(8,pl) by rw [HB3.out HZL.out HZE2.out (by rw [hrf]; show (8:Int)≠0; decide),hrf])
    clear hrf;have hZr:=HZ2.out.ext HE210.out;obtain ⟨z0,z1⟩:=X2 hZr;obtain ⟨f0,f1⟩:=Y2 hZr;have HZr:=hide hZr;clear hZr;go_wp2_with fail
    exact Qa (f:=(8,pl)) (g:=g2) ((HZr.out.set_ 0 _).set_ 1 _) rfl rfl rfl ⟨by rw [HX.out],ext_two' (HE2.out.trans' HE210.out) hlo2 _ _⟩
   ·have HNX:=hide (HGD.out MM (HOK2.out h5));go_wp2_with fail
    go_roundw
    case rel=>exact ⟨k + 1,MM,by omega,by go_num,by rw [hw64],HE10.out,HNX.out⟩
    case measure=>simp [intOf]; omega
  ·obtain rfl:k=N1:=by omega
   have HZR:=hide (show s.rightF.1=0 by
    have e:k=s.n + 1:=by have:=HN.out; have:=HN1.out; omega
    unfold Sch.rightF;rw [← e]; exact HG.out.1)
   have HE:=hide hE;clear hE HG HB1 HB2 HB3;go_wp2_with fail
   go_loopw [11] (fun i wx=>∃ (q:Nat),q≤k∧i = .int .i64 (q:Int)∧Ext w7 wx∧Hid (∀ j,j < q→(s.knownF (s.all j)).1=0)) (fun i _=>k - (intOf i).toNat)
   case atStart=>exact ⟨0,Nat.zero_le _,rfl,HE.out,fun j hj=>absurd hj (Nat.not_lt_zero _)⟩
   case round =>
    clear HE;obtain ⟨q,hq,rfl,hE,HA⟩:=hrel;by_cases hlt2:q < k
    ·have hqn:q < s.n + 1:=by have:=HN.out; have:=HN1.out; omega
     obtain ⟨b,o,rfl,hb,hc⟩:=HT7.out.cell (by omega)
     obtain ⟨vt,h1,h2⟩:=hc q hlt2;obtain ⟨z0,z1,z2,z3,z4,z5,z6,z7,z8,rfl⟩:∃ z0 z1 z2 z3 z4 z5 z6 z7 z8:Value,vt = [z0,z1,z2,z3,z4,z5,z6,z7,z8]:=by obtain ⟨y0,y1,y2,y3,y4,y5,y6,y7,y8,e⟩:=h2.nine; exact ⟨y0,y1,y2,y3,y4,y5,y6,y7,y8,e⟩
     have hun:=fun w1 (hE:Ext w7 w1)=>HUN.out q hlt2 w1 _ (HE2.out.trans' (HE7.out.trans' hE)) (h2.ext hE)
     have hkh:=fun f hf hn=>Qpk (s:=s) hqn HA.out (f:=f) hf hn
     have hnx:=fun (h:(s.knownF (s.all q)).1=0)=>Qn8 (f:=fun j=>(s.knownF (s.all j)).1) HA.out h
     obtain ⟨F,hF⟩:=V1 (s.knownF (s.all q));rw [← hF] at hun hkh hnx;obtain ⟨⟨KE,KA⟩,hKF⟩:∃ z,z=F:=⟨_,rfl⟩;rw [← hKF] at hun hkh hnx;have HUK:=hide (show ∀ w1,Ext w7 w1→Calls Tryz.prog 58 #[.agg #[.slice A1 nw c1,.slice A2 no c2,.slice A3 n c3,y0,y1,y2,y3,y4,y5,y6,y7,y8],.agg #[z0,z1,z2,z3,z4,z5,z6,z7,z8]] w1 (fun e w'=>e = .returned (.agg #[.int .i64 KE,.int .i64 KA])∧Ext w1 w') from hun)
     obtain ⟨HKH,HNX⟩:=Z2 hkh hnx;have HR9:=hide (show ∀ w1,Ext w7 w1→w1.rangeAt b (o + q * 9) [z0,z1,z2,z3,z4,z5,z6,z7,z8] from fun w1 hE j v hv=>(hE.cell (p:=⟨b,o + q * 9 + j,none⟩) hb).trans (h1 j v hv))
     have HV7:=hide (show ∀ w1,Ext w7 w1→Blk w1 g1 31 #[.slice A1 nw c1,.slice A2 no c2,.slice A3 n c3,y0,y1,y2,y3,y4,y5,y6,y7,y8] from fun w1 hE=>HV2.out.ext (HE7.out.trans' hE))
     have HE:=hide hE;have i0:=nZ q;have i1:(q:Int) < (k:Int):=by omega
     clear hc h1 h2 hun hkh hnx hF hKF hb hE HA;go_upto_region 22 with fail
     go_cut [12] (fun v wx=>∃ g5,v = .pointer (some ⟨g5,0,none⟩)∧Blk wx g5 34 #[.int .i64 KE,.int .i64 KA]∧Ext w7 wx)
     case first =>
      rename_i Kz hKz
      refine Qdd [0,1,2,3,4] 6 [5] [7] 7 (by kernel_rfl) (by kernel_rfl) (fun w'=>Ext w7 w') (Ext.drew' HE.out) ?_
      intro I _ f hf;have r0:∀ n_,(f n_).cell? ⟨g1,0,none⟩=some (.slice A1 nw c1):=fun n_=>(HV7.out _ (hf n_)).cell 0
      have r1:∀ n_,(f n_).cell? ⟨g1,1,none⟩=some (.slice A2 no c2):=fun n_=>(HV7.out _ (hf n_)).cell 1
      have r2:∀ n_,(f n_).cell? ⟨g1,2,none⟩=some (.slice A3 n c3):=fun n_=>(HV7.out _ (hf n_)).cell 2
      have r3:∀ n_,(f n_).cell? ⟨g1,3,none⟩=some (y0):=fun n_=>(HV7.out _ (hf n_)).cell 3
      have r4:∀ n_,(f n_).cell? ⟨g1,4,none⟩=some (y1):=fun n_=>(HV7.out _ (hf n_)).cell 4
      have r5:∀ n_,(f n_).cell? ⟨g1,5,none⟩=some (y2):=fun n_=>(HV7.out _ (hf n_)).cell 5
      have r6:∀ n_,(f n_).cell? ⟨g1,6,none⟩=some (y3):=fun n_=>(HV7.out _ (hf n_)).cell 6
      have r7:∀ n_,(f n_).cell? ⟨g1,7,none⟩=some (y4):=fun n_=>(HV7.out _ (hf n_)).cell 7
      have r8:∀ n_,(f n_).cell? ⟨g1,8,none⟩=some (y5):=fun n_=>(HV7.out _ (hf n_)).cell 8
      have r9:∀ n_,(f n_).cell? ⟨g1,9,none⟩=some (y6):=fun n_=>(HV7.out _ (hf n_)).cell 9
      have r10:∀ n_,(f n_).cell? ⟨g1,10,none⟩=some (y7):=fun n_=>(HV7.out _ (hf n_)).cell 10
      have r11:∀ n_,(f n_).cell? ⟨g1,11,none⟩=some (y8):=fun n_=>(HV7.out _ (hf n_)).cell 11
      have v0:∀ n_,(f n_).cell? ⟨b,o + q * 9,none⟩=some z0:=fun n_=>HR9.out _ (hf n_) 0 _ rfl
      have v1:∀ n_,(f n_).cell? ⟨b,o + q * 9 + 1,none⟩=some z1:=fun n_=>HR9.out _ (hf n_) 1 _ rfl
      have v2:∀ n_,(f n_).cell? ⟨b,o + q * 9 + 2,none⟩=some z2:=fun n_=>HR9.out _ (hf n_) 2 _ rfl
      have v3:∀ n_,(f n_).cell? ⟨b,o + q * 9 + 3,none⟩=some z3:=fun n_=>HR9.out _ (hf n_) 3 _ rfl
      have v4:∀ n_,(f n_).cell? ⟨b,o + q * 9 + 4,none⟩=some z4:=fun n_=>HR9.out _ (hf n_) 4 _ rfl
      have v5:∀ n_,(f n_).cell? ⟨b,o + q * 9 + 5,none⟩=some z5:=fun n_=>HR9.out _ (hf n_) 5 _ rfl
      have v6:∀ n_,(f n_).cell? ⟨b,o + q * 9 + 6,none⟩=some z6:=fun n_=>HR9.out _ (hf n_) 6 _ rfl
      have v7:∀ n_,(f n_).cell? ⟨b,o + q * 9 + 7,none⟩=some z7:=fun n_=>HR9.out _ (hf n_) 7 _ rfl
      have v8:∀ n_,(f n_).cell? ⟨b,o + q * 9 + 8,none⟩=some z8:=fun n_=>HR9.out _ (hf n_) 8 _ rfl
      clear hf;simp only [opsAt,List.map_cons,List.map_nil,gA,gH,gS,Option.getD_some];repeat (go_big_quiet_step ((fail)))
      refine wpQuiet_nil ?_;clear r0 r1 r2 r3 r4 r5 r6 r7 r8 r9 r10 r11 v0 v1 v2 v3 v4 v5 v6 v7 v8;refine mixK_here rfl ?_ ?_
      ·refine seqK_plain rfl ?_;intro K1 hK1;go_simp;have hE1:Ext w7 ((wr.alloc (.cells #[.int .i64 0,.int .i64 0] 34)).drew):=Ext.drew' (HE.out.alloc HE.out.size _);refine hK1 _ _ hE1 ?_;refine seqK_plain rfl ?_;intro K2 hK2;go_simp;refine (HUK.out _ hE1).mono ?_;rintro e w8 ⟨rfl,hE8⟩;have hE8':=hE1.trans' hE8;refine hK2 _ _ hE8' ?_;refine seqK_done ?_;have hB8:=(show Blk ((wr.alloc (.cells #[.int .i64 0,.int .i64 0] 34)).drew) wr.heap.size 34 #[.int .i64 0,.int .i64 0] from Blk.new wr _ _).ext hE8
       obtain ⟨d0,d1⟩:=X2 hB8;obtain ⟨e0,e1⟩:=Y2 hB8;obtain ⟨HB8,HE8⟩:=Z2 hB8 hE8';clear hE8 hE8' hB8 hE1;go_wp2_with fail
       refine hKz _ _ ?_;go_meet
       exact ⟨wr.heap.size,rfl,Qb9 HB8.out,(HE8.out.setCell (p:=⟨wr.heap.size,0,none⟩) HE.out.size _).setCell (p:=⟨wr.heap.size,1,none⟩) HE.out.size _⟩
      ·intro K1 hK1;go_simp;refine (HUK.out _ (Ext.drew' HE.out)).mono ?_;rintro e w8 ⟨rfl,hE8⟩;have hE8':=(Ext.drew' HE.out).trans' hE8;refine hK1 _ _ hE8' ?_;refine mixK_done ?_;refine seqK_plain rfl ?_;intro K2 hK2;go_simp;refine hK2 _ _ (hE8'.alloc hE8'.size _) ?_;refine seqK_done ?_;have HE8:=hide hE8';have hsz8:w7.heap.size≤w8.heap.size:=hE8'.size;clear hE8 hE8';go_wp2_with fail
       refine hKz _ _ ?_;go_meet
       first
        | exact ⟨w8.heap.size,rfl,Qb9 (Blk.new w8 _ _),((HE8.out.alloc hsz8 _).setCell (p:=⟨w8.heap.size,0,none⟩) hsz8 _).setCell (p:=⟨w8.heap.size,1,none⟩) hsz8 _⟩
        | exact ⟨w8.heap.size,rfl,Blk.new w8 _ _,HE8.out.alloc hsz8 _⟩
     case rest =>
      rename World=>wx
      obtain ⟨g5,rfl,hB5,hE5⟩:=hcut;obtain ⟨HE5,HE25⟩:=Z2 hE5 (HE7.out.trans' hE5);obtain ⟨d0,d1⟩:=X2 hB5;clear hE5 hB5;by_cases h0:KE=0
      ·have hxb:(KE != 0)=false:=by simpa using h0
       have HNN:=hide (HNX.out h0);clear h0;go_wp2_with fail
       go_roundw
       case rel=>exact ⟨q + 1,by omega,by go_num,HE5.out,HNN.out⟩
       case measure=>simp [intOf]; omega
      ·have hxb:(KE != 0)=true:=by simpa using h0
       have hkf:=HKH.out (KE,KA) rfl h0;have HX:=hide (show R=(KE,KA) by rw [HB4.out HZL.out HZE2.out HZR.out (by rw [hkf]; exact h0),hkf])
       clear h0 hkf;have hZr:=HZ2.out.ext HE25.out;obtain ⟨z0,z1⟩:=X2 hZr;obtain ⟨f0,f1⟩:=Y2 hZr;have HZr:=hide hZr;clear hZr;go_wp2_with fail
       exact Qa (f:=(KE,KA)) (g:=g2) ((HZr.out.set_ 0 _).set_ 1 _) rfl rfl rfl ⟨by rw [HX.out],ext_two' (HE2.out.trans' HE25.out) hlo2 _ _⟩
    ·obtain rfl:q=k:=by omega
     have HZK:=hide (show s.knownsF.1=0 by
      rw [Qnn (s:=s) (fun j hj=>HA.out j (by have:=HN.out; have:=HN1.out; omega))])
     obtain ⟨HENc,HE⟩:=Z2 (HEN.out (fun i hi=>by have hi':i < s.n:=(by have:=HN.out; omega); have:=Qgh HZK.out i (by omega); rw [Sch.all_lt hi'] at this; exact this)) hE
     have hnq:n + 1=q:=by have:=HN1.out; omega
     have HNQ:=hide hnq;clear hE HA HB4 HEN HUN hnq;go_wp2_with fail
     go_loopw [13] (fun i wx=>∃ (r:Nat),r≤n∧i = .int .i64 (r:Int)∧Ext w7 wx∧Hid (∀ j,j < r→s.loopAt 99 j=none)) (fun i _=>n - (intOf i).toNat)
     case atStart=>exact ⟨0,Nat.zero_le _,rfl,HE.out,fun j hj=>absurd hj (Nat.not_lt_zero _)⟩
     case round =>
      clear HE;obtain ⟨r,hr,rfl,hE,HA⟩:=hrel;have hVr:=HV2.out.ext (HE7.out.trans' hE);obtain ⟨t0,t1,t2,t3,t4,t5,t6,t7,t8,t9,t10,t11⟩:=X12 hVr;by_cases hlt3:r < n
      ·have hrn:r < s.n:=by have:=HN.out; omega
       obtain ⟨b3,o3,rfl,hb3,hc3⟩:=HNM.out (by omega)
       obtain ⟨vt,h1,_⟩:=hc3 r hlt3;have hE0:=HE2.out.trans' (HE7.out.trans' hE);have hq1:=h1 1 (.int .i64 (s.nm r).2) rfl;have hend:=HENc.out r wr hE0 hlt3;have hlh:=fun h=>Qno (s:=s) (q:=99) hrn HA.out h
       have hln:=fun (h:s.endK 99 r≠none)=>Q0 HA.out (show s.loopAt 99 r=none from if_neg h)
       obtain ⟨p,hp⟩:=V1 ((s.nm r).2);rw [← hp] at hq1 hlh;obtain ⟨EO,hEO⟩:=V1 (s.endK 99 r);rw [← hEO] at hend hlh hln;obtain ⟨HED,HLH,HLN⟩:=Z3 hend hlh hln;have HP:=hide (show ∀ w1,Ext wr w1→w1.cell? ⟨b3,o3 + r * 11 + 1,none⟩=some (.int .i64 p) from fun w1 hE1=>((hE0.trans' hE1).cell (p:=⟨b3,o3 + r * 11 + 1,none⟩) hb3).trans hq1)
       have HE:=hide hE;have i0:=nZ r;have i1:(r:Int) < (n:Int):=by omega
       have HVr:=hide hVr;clear hc3 h1 hE0 hq1 hend hlh hln hp hEO hb3 hE HA hVr;go_upto_region 28 with fail
       go_wp2_with fail
       refine HED.out.mono ?_;rintro e w8 ⟨rfl,hE8⟩;have HE8:=hide (HE.out.trans' hE8);have HE28:=hide (HE7.out.trans' HE8.out);have d1:=HP.out w8 hE8;have hV8:=HVr.out.ext hE8;clear t0 t1 t2 t3 t4 t5 t6 t7 t8 t9 t10 t11 hE8;obtain ⟨-,-,t2⟩:=X3 hV8;clear hV8;cases EO with
       | none =>
        have HX:=hide (show R=(11,p) by rw [HB5.out HZL.out HZE2.out HZR.out HZK.out,HLH.out rfl])
        unfold Qh4;have hZr:=HZ2.out.ext HE28.out;obtain ⟨z0,z1⟩:=X2 hZr;obtain ⟨f0,f1⟩:=Y2 hZr;have HZr:=hide hZr;clear hZr;go_wp2_with fail
        exact Qa (f:=(11,p)) (g:=g2) ((HZr.out.set_ 0 _).set_ 1 _) rfl rfl rfl ⟨by rw [HX.out],ext_two' (HE2.out.trans' HE28.out) hlo2 _ _⟩
       | some j =>
        have HNN:=hide (HLN.out (by simp))
        unfold Qh4;have hj:¬ ((j:Int) < 0):=by omega
        go_wp2_with fail
        go_roundw
        case rel=>exact ⟨r + 1,by omega,by go_num,HE8.out,HNN.out⟩
        case measure=>simp [intOf]; omega
      ·obtain rfl:r=n:=by omega
       have HX:=hide (show R=(0,0) by rw [HB5.out HZL.out HZE2.out HZR.out HZK.out,Ql8 (s:=s) (q:=99) (fun j hj=>HA.out j (by have:=HN.out; omega))])
       have HE2r:=hide (HE7.out.trans' hE);clear hE t0 t1 t3 t4 t5 t6 t7 t8 t9 t10 t11 hVr;have hZr:=HZ2.out.ext HE2r.out;obtain ⟨z0,z1⟩:=X2 hZr;obtain ⟨f0,f1⟩:=Y2 hZr;have HZr:=hide hZr;clear hZr;go_wp2_with fail
       exact Qa (f:=(0,0)) (g:=g2) ((HZr.out.set_ 0 _).set_ 1 _) rfl rfl rfl ⟨by rw [HX.out],ext_two' (HE2.out.trans' HE2r.out) hlo2 _ _⟩
def TysL (w0:World) (l:List Ty) (xs:List Value):Prop:=xs.length=l.length * 9∧∀ i (hi:i < l.length),TyAt w0 w0.heap.size l[i] ((xs.drop (i * 9)).take 9)
theorem TysL.app {w0:World} {a b:List Ty} {xs ys:List Value} (ha:TysL w0 a xs) (hb:TysL w0 b ys):TysL w0 (a ++ b) (xs ++ ys):=by
 refine ⟨by rw [List.length_append,List.length_append,ha.1,hb.1]; omega,fun i hi=>?_⟩
 rw [List.length_append] at hi;rcases Nat.lt_or_ge i a.length with h | h
 ·rw [List.getElem_append_left h,Ql7 ha.1 h]; exact ha.2 i h
 ·rw [List.getElem_append_right h];have e:((xs ++ ys).drop (i * 9)).take 9=(ys.drop ((i - a.length) * 9)).take 9:=by
   have hge:xs.length≤i * 9:=by rw [ha.1]; omega
   rw [List.drop_append,List.drop_eq_nil_of_le hge,List.nil_append,ha.1,Nat.sub_mul]
  rw [e];exact hb.2 (i - a.length) (by omega)
theorem TysL.nil (w0:World):TysL w0 [] []:=⟨rfl,fun _i hi=>absurd hi (Nat.not_lt_zero _)⟩
theorem TysL.one {w0:World} {t:Ty} {vs:List Value} (h:TyAt w0 w0.heap.size t vs):TysL w0 [t] vs:=by
 have hl:vs.length=9:=by obtain ⟨a0,a1,a2,a3,a4,a5,a6,a7,a8,e⟩:=h.nine; rw [e]; rfl
 refine ⟨by rw [hl]; rfl,fun i hi=>?_⟩
 have:i=0:=by simpa using hi
 subst this;rw [Nat.zero_mul,List.drop_zero,← hl,List.take_length];exact h
theorem TysL.oneCell {w0:World} {l:List Ty} {xs:List Value} (h:TysL w0 l xs):∀ u ∈ xs,u.oneCell'=true:=by
 intro u hu;obtain ⟨j,hj,rfl⟩:=List.getElem_of_mem hu;have h9:j / 9 < l.length:=by have:=h.1; omega
 have ht:=h.2 (j / 9) h9;refine TyAt.one9 ht _ (List.mem_of_getElem? (i:=j % 9) ?_);rw [Qcy _ _ _ (Nat.mod_lt _ (by decide)),List.getElem?_eq_some_iff]
 exact ⟨by omega,by congr 1; omega⟩
theorem TysL.cell {w0 w:World} {B:Nat} {A:Option Addr} {l:List Ty} {xs:List Value} (h:TysL w0 l xs) (hr:Reads w B 9 A l.length xs) (hn:0 < l.length):∃ b o,A=some ⟨b,o,none⟩∧b < B∧∀ k (hk:k < l.length),∃ vt,w.rangeAt b (o + k * 9) vt∧TyAt w0 w0.heap.size l[k] vt:=by
 obtain ⟨b,o,e,hb,hc⟩:=hr.form hn (by omega)
 refine ⟨b,o,e,hb,fun k hk=>⟨_,fun j v hj=>?_,h.2 k hk⟩⟩
 have hj9:j < 9:=by
  have:=(List.getElem?_eq_some_iff.1 hj).1
  rw [List.length_take] at this;omega
 rw [Qcy _ _ _ hj9] at hj;have:=hc (k * 9 + j) v hj
 rw [← Nat.add_assoc] at this;exact this
theorem wpList_append_Tys (w:World) {ops:Array Oper} {rest:List Oper} {o:Oper} {a:Act} {Q:Exit→Act→World→Prop} (hgd:o.guard=none) (s x:Operand)
  (ho:o.op = .call { callee:=.builtin .append,args:=#[s,x],argTypes:=#[97,97] })
  (base:Nat) (v:Value) (n m:Nat) (xs:List Value) (hs:a.eval s=v) (B:Nat) (A:Option Addr) (c:Nat) (news:List Value) (hx:a.eval x = .slice A m c)
  (hown:w.ownsRow base 29 9 v n xs) (hr:Reads w B 9 A m news) (h1:∀ u ∈ news,u.oneCell'=true) (hn:n + m≤1000000) (hbase:base≤w.heap.size)
  (h:∀ A' c' w',w'.ownsRow base 29 9 (.slice A' (n + m) c') (n + m) (xs ++ news)→w.grownBy w' v.ownBlock→(Value.ownBlock (.slice A' (n + m) c')=v.ownBlock∨Value.ownBlock (.slice A' (n + m) c')=some w.heap.size)→wpList Tryz.prog ops Q rest (a.put o.dst (.slice A' (n + m) c')) w'):wpList Tryz.prog ops Q (o :: rest) a w:=by
 obtain ⟨i0,hi,hz,hs2,hb⟩:=Qn9;exact Qp w hgd s x 97 ho base 29 i0 _ 9 112 Tryz.underlying97 hi hz hs2 hb rfl (by decide) v n xs hs hown B A m c news hx hr h1 (by unfold maxLen; omega) (by omega) hbase h
def kidsL (p:Nat→PtH) (t:Nat→Ty) (k:Nat):List Ty:=Qap (fun i=>if (p i).bare=true then [] else Qt (t i)) k
theorem Qpm (p:Nat→PtH) (t:Nat→Ty) (k:Nat):kidsL p t (k + 1)=kidsL p t k ++ if (p k).bare=true then [] else Qt (t k):=rfl
theorem Qgp (p:Nat→PtH) (t:Nat→Ty) (k:Nat):(kidsL p t k).length=sumTo (fun i=>if (p i).bare=true then 0 else nodC (t i)) k:=by
 unfold kidsL;rw [Qaw];refine Qau fun i _=>?_
 by_cases hb:(p i).bare=true
 ·rw [if_pos hb,if_pos hb]; rfl
 ·rw [if_neg hb,if_neg hb]; exact flat_length _
def FlatPost (w0:World) (t:Ty) (w:World) (e:Ending) (w':World):Prop:=∃ A c xs,e = .returned (.slice A (nodC t) c)∧Reads w' w'.heap.size 9 A (nodC t) xs∧TysL w0 (Qt t) xs∧Ext w w'∧∀ a,A=some a→w.heap.size≤a.block
theorem FlatPost.short {w0:World} {t:Ty} {w:World} {e:Ending} {w':World} (h:FlatPost w0 t w e w'):∃ A c xs,e = .returned (.slice A (nodC t) c)∧Reads w' w'.heap.size 9 A (nodC t) xs∧TysL w0 (Qt t) xs∧Ext w w':=by
 obtain ⟨A,c,xs,h1,h2,h3,h4,_⟩:=h;exact ⟨A,c,xs,h1,h2,h3,h4⟩
theorem Qfp {h:TyH} {np:Nat} {p:Nat→PtH} {t:Nat→Ty} (hk:h.kind≠9) (hl:nodC (.mk h np p t)≤2000) {k:Nat} (hkn:k < np) (hb:(p k).bare=false):(Ty.mk h np p t :: kidsL p t k).length + nodC (t k)≤2000:=by
 rw [Qbn hk] at hl;have h1:=Qa5 (f:=fun i=>if (p i).bare=true then 0 else nodC (t i)) hkn
 rw [if_neg (show ¬ (p k).bare=true by rw [hb]; decide)] at h1
 rw [List.length_cons,Qgp];omega
theorem Qnp {h:TyH} {np:Nat} {p:Nat→PtH} {t:Nat→Ty} (hk:h.kind≠9) (hl:nodC (.mk h np p t)≤2000) {k:Nat} (hkn:k≤np):(Ty.mk h np p t :: kidsL p t k).length≤2000:=by
 rw [Qbn hk] at hl;have h1:=Qfb (f:=fun i=>if (p i).bare=true then 0 else nodC (t i)) hkn
 rw [List.length_cons,Qgp];omega
set_option maxRecDepth 100000 in
theorem Qgq (w0:World) (t:Ty):Qr t→nodC t≤2000→∀ (w:World) (vs:List Value),Ext w0 w→TyAt w0 w0.heap.size t vs→Calls Tryz.prog 39 #[.agg vs.toArray] w (FlatPost w0 t w):=by
 induction t with
 | nil=>intro h; exact h.elim
 | mk h np p t ih =>
  intro hSz hl w vs hE0 hT;have hT':=hT;obtain ⟨An,cn,Ap,cp,rfl,_,hPt⟩:=hT.open_;obtain ⟨_,_,hnp,hSp⟩:=hSz;unfold tyV at hT' ⊢;have hp0:=nZ np;show Calls Tryz.prog 39 #[.agg #[.int .i64 h.kind,.int .i64 h.at_,.int .i64 h.lo,.int .i64 h.hi,.int .i64 h.most,.slice An h.names.length cn,.slice Ap np cp,.string h.name.1,.int .i64 h.name.2]] w _
  obtain ⟨w1,g1,hw1,hg1,Hw1,Hg1,hV,hVE⟩:=T0 w 29 #[.int .i64 h.kind,.int .i64 h.at_,.int .i64 h.lo,.int .i64 h.hi,.int .i64 h.most,.slice An h.names.length cn,.slice Ap np cp,.string h.name.1,.int .i64 h.name.2];obtain ⟨HE1,HV⟩:=Z2 hVE hV;obtain ⟨t0,t1,t2,t3,t4,t5,t6,t7,t8⟩:=X9 hV;by_cases h9:h.kind=9
  ·have k9:(h.kind == 9)=true:=by simpa using h9
   obtain ⟨HN,HF⟩:=Z2 (Qfc (n:=np) (p:=p) (t:=t) h9) (Qd0 (n:=np) (p:=p) (t:=t) h9);clear hw1 hg1 hV hVE h9 hPt hSp hl ih hT hT';go_enter Tryz.func39,Tryz.ntmps39
   go_upto_region 1 with fail
   rw [← Hw1.out,← Hg1.out];go_wp2_with fail
   go_ret
   exact ⟨none,0,[],by rw [HN.out]; rfl,by rw [HN.out]; exact ⟨rfl,fun hh=>absurd hh (Nat.lt_irrefl _)⟩,by rw [HF.out]; exact TysL.nil w0,HE1.out,fun a ha=>by cases ha⟩
  ·have k9:(h.kind == 9)=false:=by simpa using h9
   obtain ⟨HIH,HPT,HT0,HBD,HBD0⟩:=Z5 (fun k (hk:k < np) (hb:(p k).bare=false) w1 vs hE hT=>ih k (hSp k hk).2.2.2 (by have:=Qfp h9 hl hk hb; omega) w1 vs hE hT) hPt (TysL.one hT') (fun k (hk:k < np) hb=>Qfp h9 hl hk hb) (fun k (hk:k≤np)=>Qnp h9 hl hk)
   have HFL:=hide (show Qt (.mk h np p t) = .mk h np p t :: kidsL p t np from Qd1 h9)
   obtain ⟨HNC,HE0⟩:=Z2 (flat_length (.mk h np p t)) hE0;obtain ⟨TT,hTT⟩:=V1 (Ty.mk h np p t);rw [← hTT] at HT0 HBD HBD0 HFL HNC ⊢;have hON:=TyAt.one9 hT';have HON:=hide hON;obtain ⟨w2,hw2,g2,hg2⟩:=V2 (w1.alloc (.cells #[.int .i64 h.kind,.int .i64 h.at_,.int .i64 h.lo,.int .i64 h.hi,.int .i64 h.most,.slice An h.names.length cn,.slice Ap np cp,.string h.name.1,.int .i64 h.name.2] 29)) (w1.heap.size);have hO2:w2.ownsRow w1.heap.size 29 9 (.slice (some ⟨g2,0,none⟩) 1 1) 1 [.int .i64 h.kind,.int .i64 h.at_,.int .i64 h.lo,.int .i64 h.hi,.int .i64 h.most,.slice An h.names.length cn,.slice Ap np cp,.string h.name.1,.int .i64 h.name.2]:=by rw [hw2,hg2]; exact World.ownsRow_lit w1 #[.int .i64 h.kind,.int .i64 h.at_,.int .i64 h.lo,.int .i64 h.hi,.int .i64 h.most,.slice An h.names.length cn,.slice Ap np cp,.string h.name.1,.int .i64 h.name.2] 1 nL (by decide) rfl
   have hE2:Ext w1 w2:=by rw [hw2]; exact (Ext.rfl' w1).alloc nL _
   obtain ⟨HO2,HE2,Hw2,Hg2⟩:=Z4 hO2 hE2 hw2 hg2;clear hw1 hg1 hV hVE h9 hPt hSp hl ih hT hT' hTT hON hw2 hg2 hO2 hE2 hE0;go_enter Tryz.func39,Tryz.ntmps39
   go_upto_region 1 with fail
   rw [← Hw1.out,← Hg1.out];go_upto_region 4 with fail
   rw [← Hw2.out,← Hg2.out];clear t0 t1 t2 t3 t4 t5 t6 t7 t8;go_wp2_with fail
   go_loopw [4,3] (fun i v wr=>∃ (k:Nat) (Ao:Option Addr) (co m:Nat) (xs:List Value),k≤np∧i = .int .i64 (k:Int)∧v = .slice Ao m co∧Ext w1 wr∧wr.ownsRow w1.heap.size 29 9 (.slice Ao m co) m xs∧Hid (m=(TT :: kidsL p t k).length∧TysL w0 (TT :: kidsL p t k) xs)) (fun i _ _=>np - (intOf i).toNat)
   case atStart=>exact ⟨0,some ⟨g2,0,none⟩,1,1,_,Nat.zero_le _,rfl,rfl,HE2.out,HO2.out,⟨rfl,HT0.out⟩⟩
   case round =>
    obtain ⟨k,Ao,co,m,xs,hk,rfl,rfl,hE,hO,HX⟩:=hrel;have t6:=(HV.out.ext hE).cell 6;simp only [gA,gH,gS] at t6;by_cases hlt:k < np
    ·obtain ⟨b,o,rfl,hb,hc⟩:=HPT.out (by omega)
     obtain ⟨vsP,h1,hpa⟩:=hc k hlt;have hEw:=HE0.out.trans' (HE1.out.trans' hE);obtain ⟨Al,cl,Ac,cc,vt,rfl,_,_,q4⟩:=hpa;obtain ⟨z0,z1,z2,z3,z4,z5,z6,z7,z8,rfl⟩:∃ z0 z1 z2 z3 z4 z5 z6 z7 z8:Value,vt = [z0,z1,z2,z3,z4,z5,z6,z7,z8]:=by obtain ⟨y0,y1,y2,y3,y4,y5,y6,y7,y8,e⟩:=q4.nine; exact ⟨y0,y1,y2,y3,y4,y5,y6,y7,y8,e⟩
     have hr1:∀ j v,(ptV (p k) Al cl Ac cc ++ [z0,z1,z2,z3,z4,z5,z6,z7,z8])[j]? = some v→wr.cell? ⟨b,o + k * 18 + j,none⟩=some v:=fun j v hv=>(hEw.cell (p:=⟨b,o + k * 18 + j,none⟩) hb).trans (h1 j v hv)
     have c2':=hr1 2 (.bool (p k).bare) rfl;have HRG:=hide (show wr.rangeAt b (o + k * 18 + 9) [z0,z1,z2,z3,z4,z5,z6,z7,z8] from Qbp (xs:=ptV (p k) Al cl Ac cc) hr1)
     have HNX:=hide (show m=(TT :: kidsL p t k).length∧TysL w0 (TT :: kidsL p t k) xs from HX.out)
     have hih:=fun hb=>HIH.out k hlt hb wr _ hEw q4
     have hkb:=fun hb=>HBD.out k hlt hb
     have hks:=Qpm p t k;obtain ⟨br,hbr⟩:=V1 ((p k).bare);rw [← hbr] at c2' hih hkb hks;obtain ⟨HI,HKB,HKS⟩:=Z3 hih hkb hks;have i0:=nZ k;have i1:(k:Int) < (np:Int):=by omega
     obtain ⟨HE,HO⟩:=Z2 hE hO;clear hc h1 q4 hr1 hih hkb hks hbr hEw hE hO hb HX;cases br with
     | true =>
      have HN2:=hide (show m=(TT :: kidsL p t (k + 1)).length∧TysL w0 (TT :: kidsL p t (k + 1)) xs by rw [HKS.out,if_pos rfl,List.append_nil]; exact HNX.out)
      go_wp2_with fail
      go_roundw
      case rel=>exact ⟨k + 1,Ao,co,m,xs,by omega,by go_num,rfl,HE.out,HO.out,HN2.out⟩
      case measure=>simp [intOf]; omega
     | false =>
      have HFK:=hide (HI.out rfl);have hks:=HKS.out;rw [if_neg (by decide)] at hks
      have HKS2:=hide hks;have hkb:=HKB.out rfl;rw [← HNX.out.1] at hkb;clear hks;obtain ⟨NC,hNC⟩:=V1 (nodC (t k));have HFK2:=HFK.out.mono (fun _ _ h=>h.short)
      rw [← hNC] at hkb HFK2;have HFK3:=hide (show Calls Tryz.prog 39 #[.agg #[z0,z1,z2,z3,z4,z5,z6,z7,z8]] wr (fun e w'=>∃ A c xs,e = .returned (.slice A NC c)∧Reads w' w'.heap.size 9 A NC xs∧TysL w0 (Qt (t k)) xs∧Ext wr w') from HFK2)
      have HNC2:=hide (show NC=(Qt (t k)).length by rw [hNC,flat_length])
      clear hNC HFK2 HFK HI HKB;go_upto_region 8 with fail
      refine wp_region_lit ?_;clear c2';refine wpList_plain rfl fun K0 hK0=>?_
      go_simp;refine hK0 _ _ ?_;refine wpList_plain rfl fun K1 hK1=>?_
      go_simp;refine hK1 _ _ ?_;refine wpList_plain rfl fun K2 hK2=>?_
      go_simp;refine hK2 _ _ ?_;refine wpList_plain rfl fun K3 hK3=>?_
      go_simp;refine hK3 _ _ ?_;refine wpList_plain rfl fun K4 hK4=>?_
      go_simp;refine hK4 _ _ ?_;refine wpList_plain rfl fun K5 hK5=>?_
      go_simp;refine hK5 _ _ ?_;refine wpList_load_mid rfl 29 _ rfl b (o + k * 18 + 9) rfl _ _ HRG.out Tryz.underlying29 rfl Qbg ?_;refine wpList_plain rfl fun K7 hK7=>?_
      go_simp;refine HFK3.out.mono ?_;rintro e w6 ⟨A6,c6,ys,rfl,hr6,hL6,hE6⟩;refine hK7 _ _ ?_;refine wpList_append_Tys w6 rfl _ _ rfl w1.heap.size _ m NC xs rfl _ A6 c6 ys rfl (own_ext HO.out hE6) hr6 hL6.oneCell (by omega) (by have:=HE.out.size; have:=hE6.size; omega) ?_
      intro A7 c7 w7 hown7 hgrow7 _;have hE7:Ext w1 w7:=grown_ext' (w:=w1) (wr:=wr) (base:=w1.heap.size) HE.out hE6 hgrow7 HO.out nL;have HN2:=hide (show m + NC=(TT :: kidsL p t (k + 1)).length∧TysL w0 (TT :: kidsL p t (k + 1)) (xs ++ ys) by
       rw [HKS2.out,← List.cons_append];exact ⟨by rw [List.length_append,← HNX.out.1,HNC2.out],HNX.out.2.app hL6⟩)
      obtain ⟨HE7,HO7⟩:=Z2 hE7 hown7;clear hr6 hL6 hE6 hE7 hown7 hgrow7 t6;go_wp2_with fail
      go_roundw
      case rel=>exact ⟨k + 1,A7,c7,m + NC,xs ++ ys,by omega,by go_num,rfl,HE7.out,HO7.out,HN2.out⟩
      case measure=>simp [intOf]; omega
    ·obtain rfl:k=np:=by omega
     have HN2:=hide (show nodC TT=m by rw [← HNC.out,HFL.out]; exact HX.out.1.symm)
     obtain ⟨HEr,HO⟩:=Z2 (HE1.out.trans' hE) hO;clear hE hO;go_wp2_with fail
     go_ret
     exact ⟨Ao,co,xs,by rw [HN2.out]; rfl,by rw [HN2.out]; exact Reads.of_own HO.out,by rw [HFL.out]; exact HX.out.2,HEr.out,fun a ha=>Nat.le_trans HE1.out.size (own_base HO.out a ha)⟩
end Go.Proofs.YtanpljalbijfkaaGreat
