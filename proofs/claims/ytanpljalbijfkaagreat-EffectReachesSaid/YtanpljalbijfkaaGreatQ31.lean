/- . -/
import Derived.Test.YtanpljalbijfkaaGreatQ30
namespace Go.Proofs.YtanpljalbijfkaaGreat
open Go.RowKit
set_option maxHeartbeats 16000000
theorem Qvd {s:Sch} (hg:s.Good) {i:Nat} (hi:i < s.n):∃ j,s.endK 99 i=some j∧j < s.n∧s.start i=s.first j:=by
 obtain ⟨j,hj⟩:=hg.ends i hi;have h2:s.endK 99 i=some j:=by rw [← hj]; exact Sch.endK_enough (closed s) hi (by have:=hg.fine.few; omega)
 refine ⟨j,h2,(Sch.endK_lt (closed s) hi hj).1,?_⟩;unfold Sch.start;rw [hj]
theorem Qgr {s:Sch} (hf:s.Fine) {i:Nat} (hi:i≤s.n):nodC (s.all i)≤512:=by
 have h1:=Qa5 (f:=fun i=>Qz (s.all i)) (show i < s.n + 1 by omega)
 have h2:=hf.many;have h3:=Qcu (s.all i);omega
set_option maxRecDepth 100000 in
theorem Qi6 (s:Sch) (vs:List Value) (x:ByteArray) (w:World) (hS:SchAt w s vs) (hz:SchSz s) (hg:s.Good) (hx:0≤findL s.names x) (hn1:0 < s.n):Calls Tryz.prog 41 #[.agg vs.toArray,.string x] w (fun e w'=>e = .returned (.int .i64 (s.start (s.find x):Nat))∧Ext w w'):=by
 have h100:s.n≤100:=by have:=hg.fine.few; omega
 obtain ⟨j,hj1,hj2,hj3⟩:=Qvd hg (Qb6 hn1 x);have HFD:=hide (fun w1 (hE:Ext w w1)=>(show Calls Tryz.prog 80 #[.agg vs.toArray,.string x] w1 (fun e w'=>e = .returned (.int .i64 (s.find x:Nat))∧Ext w1 w') by
  have:=dFind_any s vs x w1 (hS.ext hE) h100
  rw [Ql5 hx] at this;exact this))
 have HEN:=hide (fun w1 (hE:Ext w w1)=>(show Calls Tryz.prog 59 #[.agg vs.toArray,.int .i64 (s.find x:Nat),.int .i64 99] w1 (fun e w'=>e = .returned (.int .i64 (j:Nat))∧Ext w1 w') by
  have:=Ql6 s vs h100 hz (fun i hi=>by have:=hg.known i (by omega); rw [Sch.all_lt hi] at this; exact this) 99 (s.find x) w1 (hS.ext hE) (Qb6 hn1 x) (by omega)
  rw [hj1] at this;exact this))
 obtain ⟨HFL,HFI,HFE⟩:=Z3 (fun i (hi:i < s.n) w1 vt (hE:Ext w w1) (hT:TyAt w w.heap.size (s.ty i) vt)=>(show Calls Tryz.prog 39 #[.agg vt.toArray] w1 (FlatPost w (s.ty i) w1) from Qgq w (s.ty i) (hz.ty i hi) (by have:=Qgr hg.fine (i:=i) (by omega); rw [Sch.all_lt hi] at this; omega) w1 vt hE hT)) (fun k (hk:k < s.n)=>Qfg hg.fine (k:=k) hk) (fun k (hk:k≤s.n)=>Qlp hg.fine (k:=k) hk)
 rw [hj3];obtain ⟨A1,c1,A2,c2,A3,c3,vr,rfl,hA1,hA2,hA3,hR⟩:=hS;obtain ⟨y0,y1,y2,y3,y4,y5,y6,y7,y8,rfl⟩:∃ y0 y1 y2 y3 y4 y5 y6 y7 y8:Value,vr = [y0,y1,y2,y3,y4,y5,y6,y7,y8]:=by obtain ⟨y0,y1,y2,y3,y4,y5,y6,y7,y8,e⟩:=hR.nine; exact ⟨y0,y1,y2,y3,y4,y5,y6,y7,y8,e⟩
 obtain ⟨nw,hnw,no,hno,n,hn⟩:=V3 (s.ws.length) (s.os.length) (s.n);have HNM:=hide hA3;rw [← hn] at hj2 HNM HFL HFI HFE h100;rw [← hnw,← hno] at HFD HEN;rw [← hnw,← hno,← hn];rw [← hn] at HFD HEN;obtain ⟨fi,hfi⟩:=V1 (s.find x);rw [← hfi] at HFD HEN;have hj0:=nZ j;clear hnw hno hn hA1 hA2 hA3 hR hz hg hx hj1 hj3 hfi hn1;show Calls Tryz.prog 41 #[.agg #[.slice A1 nw c1,.slice A2 no c2,.slice A3 n c3,y0,y1,y2,y3,y4,y5,y6,y7,y8],.string x] w _
 obtain ⟨w1,g1,hw1,hg1,Hw1,Hg1,hV,hVE⟩:=T0 w 31 #[.slice A1 nw c1,.slice A2 no c2,.slice A3 n c3,y0,y1,y2,y3,y4,y5,y6,y7,y8];obtain ⟨HE1,HV⟩:=Z2 hVE hV;clear hw1 hg1 hV hVE;go_enter Tryz.func41,Tryz.ntmps41
 go_upto_region 1 with fail
 rw [← Hw1.out,← Hg1.out];refine Qbf (by kernel_rfl) (by kernel_rfl) w1 (Ext.rfl' _) ?_
 intro I _ f_ hf hc;have r0:∀ n_,(f_ n_).cell? ⟨g1,0,none⟩=some (.slice A1 nw c1):=fun n_=>(HV.out.ext (hf n_)).cell 0
 have r1:∀ n_,(f_ n_).cell? ⟨g1,1,none⟩=some (.slice A2 no c2):=fun n_=>(HV.out.ext (hf n_)).cell 1
 have r2:∀ n_,(f_ n_).cell? ⟨g1,2,none⟩=some (.slice A3 n c3):=fun n_=>(HV.out.ext (hf n_)).cell 2
 have r3:∀ n_,(f_ n_).cell? ⟨g1,3,none⟩=some (y0):=fun n_=>(HV.out.ext (hf n_)).cell 3
 have r4:∀ n_,(f_ n_).cell? ⟨g1,4,none⟩=some (y1):=fun n_=>(HV.out.ext (hf n_)).cell 4
 have r5:∀ n_,(f_ n_).cell? ⟨g1,5,none⟩=some (y2):=fun n_=>(HV.out.ext (hf n_)).cell 5
 have r6:∀ n_,(f_ n_).cell? ⟨g1,6,none⟩=some (y3):=fun n_=>(HV.out.ext (hf n_)).cell 6
 have r7:∀ n_,(f_ n_).cell? ⟨g1,7,none⟩=some (y4):=fun n_=>(HV.out.ext (hf n_)).cell 7
 have r8:∀ n_,(f_ n_).cell? ⟨g1,8,none⟩=some (y5):=fun n_=>(HV.out.ext (hf n_)).cell 8
 have r9:∀ n_,(f_ n_).cell? ⟨g1,9,none⟩=some (y6):=fun n_=>(HV.out.ext (hf n_)).cell 9
 have r10:∀ n_,(f_ n_).cell? ⟨g1,10,none⟩=some (y7):=fun n_=>(HV.out.ext (hf n_)).cell 10
 have r11:∀ n_,(f_ n_).cell? ⟨g1,11,none⟩=some (y8):=fun n_=>(HV.out.ext (hf n_)).cell 11
 obtain ⟨H1,H2,HG⟩:=Z3 (fun n=>Qcr hf hc (HFD.out (f_ n) (HE1.out.trans' (hf n)))) (fun n=>Qcr hf hc (HEN.out (f_ n) (HE1.out.trans' (hf n)))) hf
 clear hf hc;repeat (go_big_quiet_step ((first | (go_at_call 80; exact H1.out _) | (go_at_call 59; exact H2.out _))))
 refine wpQuiet_nil ?_;rintro _ ⟨nq,rfl⟩;obtain ⟨w2,hw2⟩:=V1 (f_ nq);have HE12:=hide (HG.out nq);rw [← hw2] at HE12 ⊢;clear r0 r1 r2 r3 r4 r5 r6 r7 r8 r9 r10 r11 hw2;go_wp2_with fail
 go_loopw [7,6] (fun i v wr=>∃ k:Nat,k≤j∧i = .int .i64 (k:Int)∧v = .int .i64 (s.first k:Nat)∧Ext w1 wr) (fun i _ _=>j - (intOf i).toNat)
 case atStart=>exact ⟨0,Nat.zero_le _,rfl,rfl,HE12.out⟩
 case round =>
  obtain ⟨k,hk,rfl,rfl,hE⟩:=hrel;have t2:=(HV.out.ext hE).cell 2;simp only [gA,gH,gS] at t2;by_cases hlt':k < j
  ·have hlt:k < n:=by omega
   have hEw:=HE1.out.trans' hE;obtain ⟨b,o,rfl,hb,hc⟩:=HNM.out (by omega)
   obtain ⟨vt,h1,h2⟩:=hc k hlt;obtain ⟨z0,z1,z2,z3,z4,z5,z6,z7,z8,rfl⟩:∃ z0 z1 z2 z3 z4 z5 z6 z7 z8:Value,vt = [z0,z1,z2,z3,z4,z5,z6,z7,z8]:=by obtain ⟨y0,y1,y2,y3,y4,y5,y6,y7,y8,e⟩:=h2.nine; exact ⟨y0,y1,y2,y3,y4,y5,y6,y7,y8,e⟩
   have HRG:=hide (show wr.rangeAt b (o + k * 11 + 2) [z0,z1,z2,z3,z4,z5,z6,z7,z8] from Qbp (xs:=[.string (s.nm k).1,.int .i64 (s.nm k).2]) fun j v hv=>(hEw.cell (p:=⟨b,o + k * 11 + j,none⟩) hb).trans (h1 j v hv))
   have hfl:=(HFL.out k hlt wr _ hEw h2).mono (fun _ _ h=>h.short)
   obtain ⟨q1,q2,q3⟩:=HFI.out k hlt;obtain ⟨NC,hNC⟩:=V1 (nodC (s.ty k));rw [← hNC] at hfl q1 q2;have HFK:=hide (show Calls Tryz.prog 39 #[.agg #[z0,z1,z2,z3,z4,z5,z6,z7,z8]] wr (fun e w'=>∃ A c xs,e = .returned (.slice A NC c)∧Reads w' w'.heap.size 9 A NC xs∧TysL w (Qt (s.ty k)) xs∧Ext wr w') from hfl)
   obtain ⟨fk,hfk⟩:=V1 (s.first k)
   rw [← hfk] at q1 q2 ⊢;have HQ:=hide q1;have i0:=nZ k;have i1:(k:Int) < (j:Int):=by omega
   have i4:(k:Int) < (n:Int):=by omega
   have HE:=hide hE;clear hc h1 h2 hEw hfl hNC hfk q1 q3 hE hb;go_upto_region 6 with fail
   refine wp_region_lit ?_;refine wpList_plain rfl fun K0 hK0=>?_
   go_simp;refine hK0 _ _ ?_;refine wpList_plain rfl fun K1 hK1=>?_
   go_simp;refine hK1 _ _ ?_;refine wpList_plain rfl fun K2 hK2=>?_
   go_simp;refine hK2 _ _ ?_;refine wpList_plain rfl fun K3 hK3=>?_
   go_simp;refine hK3 _ _ ?_;refine wpList_plain rfl fun K4 hK4=>?_
   go_simp;refine hK4 _ _ ?_;refine wpList_plain rfl fun K5 hK5=>?_
   go_simp;refine hK5 _ _ ?_;refine wpList_load_mid rfl 29 _ rfl b (o + k * 11 + 2) rfl _ _ HRG.out Tryz.underlying29 rfl Qbg ?_;refine wpList_plain rfl fun K7 hK7=>?_
   go_simp;refine HFK.out.mono ?_;rintro e w3 ⟨A6,c6,ys,rfl,_,_,hE3⟩;have HE3:=hide (HE.out.trans' hE3);clear hE3 t2;refine hK7 _ _ ?_;go_wp2_with fail
   go_roundw
   case rel=>exact ⟨k + 1,by omega,by go_num,by rw [HQ.out]; go_num,HE3.out⟩
   case measure=>simp [intOf]; omega
  ·obtain rfl:k=j:=by omega
   have HEr:=hide (HE1.out.trans' hE);clear hE;go_wp2_with fail
   go_ret
   exact ⟨rfl,HEr.out⟩
def Qem:Ty→Prop
 | .nil=>True
 | .mk _ n p t=>∀ i,i < n→(p i).label.length≤32∧(p i).cl.length≤32∧((p i).bare=false→Qem (t i))
theorem goTo_each {g:Nat→Int→Wr} : ∀ {n:Nat} {m:Int},(goTo g n m).1.1=0→∀ i,i < n→∃ M,(g i M).1.1=0:=by
 intro n;induction n with
 | zero=>intro m _ i hi; exact absurd hi (Nat.not_lt_zero _)
 | succ n ih =>
  intro m h i hi;have h0:=goTo_zero_of (Nat.le_succ n) h;rcases Nat.lt_or_ge i n with h1 | h1
  ·exact ih h0 i h1
  ·obtain rfl:i=n:=by omega
   rw [Qae h0] at h;exact ⟨_,h⟩
theorem Qgs {l:List Wd} (h:(Qo l).1=0):l.length≤32:=by
 unfold Qo at h;by_cases c:32 < l.length
 ·rw [if_pos c] at h; cases h
 ·omega
theorem Qhn {q:PtH} {nm:Wd} {b:Bool} (h:Q5 q (zPt nm b)=true):q.label.length≤32∧q.cl.length≤32:=by
 unfold Q5 zPt Qx at h;simp only [Bool.and_eq_true,decide_eq_true_eq] at h;obtain ⟨⟨⟨⟨⟨_,_⟩,h1⟩,_⟩,_⟩,h2⟩:=h;have e1:=congrArg List.length h1;have e2:=congrArg List.length h2;rw [nms_length,nms_length] at e1 e2;exact ⟨by rw [e1]; decide,by rw [e2]; decide⟩
theorem Qnq {q:PtH} (h:(Qaf q).1=0):q.label.length≤32∧q.cl.length≤32:=by
 unfold Qaf at h;by_cases c:q.wide < 0∨64 < q.wide
 ·rw [if_pos c] at h; cases h
 rw [if_neg c] at h;unfold Qp4 at h;by_cases c1:(Qo q.label).1=0
 ·rw [if_pos c1] at h;refine ⟨Qgs c1,?_⟩;unfold Qai at h;by_cases c2:q.ck=0
  ·rw [if_pos c2] at h;by_cases c3:q.cn=0∧q.cl.length=0
   ·omega
   ·rw [if_neg c3] at h; cases h
  rw [if_neg c2] at h;by_cases c3:q.ck < 0∨3 < q.ck
  ·rw [if_pos c3] at h; cases h
  rw [if_neg c3] at h;by_cases c4:(q.ck=1∧q.cn < 1)∨(q.ck=2∧(q.cn < 0∨4096 < q.cn))∨(q.ck=3∧q.cn≠0)
  ·rw [if_pos c4] at h; cases h
  rw [if_neg c4] at h;exact Qgs h
 ·rw [if_neg c1] at h; exact absurd h c1
theorem Qrr (t:Ty):∀ (d m:Int),(chk t d m).1.1=0→Qem t:=by
 induction t with
 | nil=>intro _ _ _; trivial
 | mk h n p t ih =>
  intro d m hz;rw [chk_mk] at hz;generalize IntKind.i64.wrap (m + 1)=m1 at hz
  unfold Qe7 at hz;by_cases c1:24 < d
  ·rw [if_pos c1] at hz; cases hz
  rw [if_neg c1] at hz;by_cases c2:512 < m1
  ·rw [if_pos c2] at hz; cases hz
  rw [if_neg c2] at hz;by_cases c3:h.kind < 1∨9 < h.kind
  ·rw [if_pos c3] at hz; cases hz
  rw [if_neg c3] at hz;by_cases c4:Qcd h n=true
  rotate_left
  ·rw [if_neg c4] at hz; cases hz
  rw [if_pos c4] at hz;have hown:=Qjx c4;by_cases hn:n=0
  ·subst hn;intro i hi;exact absurd hi (Nat.not_lt_zero _)
  have hk:5≤h.kind∧h.kind≤8:=by omega
  unfold Qcz at hz;rw [if_neg (by omega),if_neg (by omega),if_neg (by omega)] at hz
  by_cases k5:h.kind=5∨h.kind=6
  ·rw [if_pos k5] at hz;unfold Qf1 at hz;by_cases c5:n=1∧Q3 (p 0) (zPt wd0 false)=true
   rotate_left
   ·rw [if_neg c5] at hz; cases hz
   rw [if_pos c5] at hz;by_cases c6:h.most < 0∨1024 < h.most
   ·rw [if_pos c6] at hz; cases hz
   rw [if_neg c6] at hz;intro i hi;obtain rfl:i=0:=by omega
   have hq:=c5.2;unfold Q3 at hq;simp only [Bool.and_eq_true] at hq;have hs:=Qhn hq.2;exact ⟨hs.1,hs.2,fun _=>ih 0 _ _ hz⟩
  rw [if_neg k5] at hz;rw [if_pos (by omega)] at hz
  unfold Qcf at hz;by_cases c5:h.kind=8∧n=0
  ·rw [if_pos c5] at hz; cases hz
  rw [if_neg c5] at hz;by_cases c6:64 < n
  ·rw [if_pos c6] at hz; cases hz
  rw [if_neg c6] at hz;intro i hi;obtain ⟨M,hM⟩:=goTo_each hz i hi;unfold stepF at hM;by_cases e1:listE (Qd n p) i≠0
  ·rw [if_pos e1] at hM; exact absurd hM e1
  rw [if_neg e1] at hM;cases hb:(p i).bare with
  | true =>
   rw [hb,if_pos rfl] at hM;by_cases c7:h.kind=8∧Qbb (p i) (t i)=true
   ·have hq:=c7.2;unfold Qbb Q3 at hq;simp only [Bool.and_eq_true] at hq;have hs:=Qhn hq.1.2;exact ⟨hs.1,hs.2,fun h=>by cases h⟩
   ·rw [if_neg c7] at hM; cases hM
  | false =>
   rw [hb,if_neg (by decide)] at hM
   by_cases c7:(Qaf (p i)).1≠0
   ·rw [if_pos c7] at hM; exact absurd hM c7
   rw [if_neg c7] at hM;have hs:=Qnq (q:=p i) (Classical.not_not.1 c7);exact ⟨hs.1,hs.2,fun _=>ih i _ _ hM⟩
theorem Qpn (t:Ty):Qem t→∀ x ∈ Qt t,Qem x:=by
 induction t with
 | nil=>intro _ x hx; cases hx
 | mk h n p t ih =>
  intro hS x hx;by_cases hk:h.kind=9
  ·rw [Qd0 hk] at hx; cases hx
  ·rw [Qd1 hk] at hx;rcases List.mem_cons.1 hx with rfl | hx
   ·exact hS
   ·obtain ⟨i,hi,hx⟩:=Qgj hx;by_cases hb:(p i).bare=true
    ·rw [if_pos hb] at hx; cases hx
    ·rw [if_neg hb] at hx;exact ih i ((hS i hi).2.2 (by simpa using hb)) x hx
theorem Qnr {s:Sch} (h:s.rightF.1=0):∀ i,i≤s.n→Qem (s.all i):=by
 intro i hi;obtain ⟨M,hM⟩:=goTo_each (g:=s.rightG) (n:=s.n + 1) (m:=0) h i (by omega)
 unfold Sch.rightG at hM;by_cases c:(chk (s.all i) 1 0).1.1≠0
 ·rw [if_pos c] at hM; exact absurd hM c
 ·exact Qrr _ _ _ (Classical.not_not.1 c)
def Qen (d:NodeP) (w:World) (e:Ending) (w':World):Prop:=∃ An cn Ae ce,e = .returned (.agg (nodeV d An cn Ae ce).toArray)∧StrAt w' w'.heap.size An d.names∧EdgesAt w' w'.heap.size Ae d.edges∧Ext w w'∧(∀ a,An=some a→w.heap.size≤a.block∧a.block < w'.heap.size)∧∀ a,Ae=some a→w.heap.size≤a.block∧a.block < w'.heap.size
theorem Quy:(Tryz.prog.info? 94).map (·.size)=some 7:=by kernel_rfl
theorem Qt7:∃ i,Tryz.prog.info? 95=some i∧i.zero=some (.agg #[.string ⟨#[]⟩,.bool false,.int .i64 0,.int .i64 0,.int .i64 0,.int .i64 0,.int .i64 0,.int .i64 0,.int .i64 0,.int .i64 0])∧i.size=10∧i.bytes=88 :=
 Qal (a:=10) (b:=88) (v:=.agg #[.string ⟨#[]⟩,.bool false,.int .i64 0,.int .i64 0,.int .i64 0,.int .i64 0,.int .i64 0,.int .i64 0,.int .i64 0,.int .i64 0]) (s:=10) (by kernel_rfl)
theorem Qh5 (w:World) {ops:Array Oper} {rest:List Oper} {o:Oper} {a:Act} {Q:Exit→Act→World→Prop} (hgd:o.guard=none) (s x:Operand)
  (ho:o.op = .call { callee:=.builtin .append,args:=#[s,x],argTypes:=#[92,92] })
  (base:Nat) (v:Value) (n:Nat) (xs:List Value) (hs:a.eval s=v) (B:Nat) (A:Option Addr) (c:Nat) (news:List Value) (hx:a.eval x = .slice A 1 c)
  (hown:w.ownsRow base 95 10 v n xs) (hr:Reads w B 10 A 1 news) (h1:∀ u ∈ news,u.oneCell'=true) (hn:n≤1000000) (hbase:base≤w.heap.size)
  (h:∀ A' c' w',w'.ownsRow base 95 10 (.slice A' (n + 1) c') (n + 1) (xs ++ news)→w.grownBy w' v.ownBlock→(Value.ownBlock (.slice A' (n + 1) c')=v.ownBlock∨Value.ownBlock (.slice A' (n + 1) c')=some w.heap.size)→wpList Tryz.prog ops Q rest (a.put o.dst (.slice A' (n + 1) c')) w'):wpList Tryz.prog ops Q (o :: rest) a w:=by
 obtain ⟨i0,hi,hz,hs2,hb⟩:=Qt7;exact Qp w hgd s x 92 ho base 95 i0 _ 10 88 Tryz.underlying92 hi hz hs2 hb rfl (by decide) v n xs hs hown B A 1 c news hx hr h1 (by unfold maxLen; omega) (by omega) hbase h
theorem Ql9 (w:World) {o:Oper} {a:Act} {K:Act→World→Prop} {Q:Exit→Act→World→Prop} (s x:Operand)
  (ho:o.op = .call { callee:=.builtin .append,args:=#[s,x],argTypes:=#[63,63] })
  (base:Nat) (v:Value) (n:Nat) (l:List ByteArray) (hs:a.eval s=v) (g:Nat) (u:ByteArray) (c:Nat) (hx:a.eval x = .slice (some ⟨g,0,none⟩) 1 c)
  (hown:w.ownsRow base 9 1 v n (Qg l)) (hr:Reads w (g + 1) 1 (some ⟨g,0,none⟩) 1 [.string u]) (hn:n≤5864062014634) (hbase:base≤w.heap.size)
  (h:∀ A' c' w',w'.ownsRow base 9 1 (.slice A' (n + 1) c') (n + 1) (Qg (l ++ [u]))→w.grownBy w' v.ownBlock→(Value.ownBlock (.slice A' (n + 1) c')=v.ownBlock∨Value.ownBlock (.slice A' (n + 1) c')=some w.heap.size)→K (a.put o.dst (.slice A' (n + 1) c')) w'):o.wp Tryz.prog a w K Q:=by
 obtain ⟨i0,hi,hz,hs2,hb⟩:=Qdu;rw [Qbj] at h;refine Qar w s x 63 ho base 9 i0 _ 1 16 Tryz.underlying63 hi hz hs2 hb rfl (by decide) v n (Qg l) hs hown (g + 1) _ 1 c [.string u] hx hr (fun y hy=>by rw [List.mem_singleton.1 hy]; rfl) (by unfold maxLen; omega) (by omega) hbase ?_
 intro v' w' h2 h3 h4;have hv:∃ A' c',v' = .slice A' (n + 1) c':=by
  rcases h2.2 with ⟨e,h0⟩ | ⟨g,cap,cur,e,_⟩
  ·omega
  ·exact ⟨_,_,e⟩
 obtain ⟨A',c',hv⟩:=hv;rw [hv] at h2 h4 ⊢;exact h A' c' w' h2 h3 h4
theorem MatAt.ext' {w w':World} {A:Option Addr} {M:List (List Bool)} (h:MatAt w w.heap.size A M) (hE:Ext w w'):MatAt w' w'.heap.size A M:=MatAt.below h hE hE.size
set_option maxRecDepth 100000 in
theorem Qrs (s:Sch) (vsS:List Value) (w0:World) (hS:SchAt w0 s vsS) (hz:SchSz s) (hg:s.Good) (Aq:Option Addr) (cq:Nat) (hq:MatAt w0 w0.heap.size Aq (leads s.ws.length (prs s.ws s.os))) (h:TyH) (np:Nat) (p:Nat→PtH) (t:Nat→Ty) (hk9:h.kind≠9) (hF:Fit (.mk h np p t)) (hSz:Qr (.mk h np p t)) (hK:s.Known (.mk h np p t)) (hSh:Qem (.mk h np p t)) (me:Nat) (hme:me + nodC (.mk h np p t)≤512)
  (w:World) (vs:List Value) (hE0:Ext w0 w) (hT:TyAt w0 w0.heap.size (.mk h np p t) vs) :
  Calls Tryz.prog 40 #[.agg vsS.toArray,.slice Aq s.ws.length cq,.agg vs.toArray,.int .i64 (me:Int)] w (Qen (s.nodeP (.mk h np p t) me) w):=by
 obtain ⟨At,ct,Ap,cp,rfl,hN,hPt⟩:=hT.open_;obtain ⟨⟨hms,_⟩,_,hnp,hSp⟩:=hSz;obtain ⟨_,_,h64,_,_,hFp⟩:=hF;have hKp:=hK.2;have hSS:=hS;obtain ⟨A1,c1,A2,c2,A3,c3,vr,rfl,hA1,hA2,hA3,hR⟩:=hS;obtain ⟨y0,y1,y2,y3,y4,y5,y6,y7,y8,rfl⟩:∃ y0 y1 y2 y3 y4 y5 y6 y7 y8:Value,vr = [y0,y1,y2,y3,y4,y5,y6,y7,y8]:=by obtain ⟨y0,y1,y2,y3,y4,y5,y6,y7,y8,e⟩:=hR.nine; exact ⟨y0,y1,y2,y3,y4,y5,y6,y7,y8,e⟩
 obtain ⟨nw,hnw,no,hno,n,hn⟩:=V3 (s.ws.length) (s.os.length) (s.n);have hOF:=fun w1 (hE:Ext w w1) A c m us (hu:WdsAt w0 w0.heap.size A us) (hm:m=us.length) (hm':m≤32)=>Qqk A1 c1 s.ws.length s.ws s.os Aq cq (leads s.ws.length (prs s.ws s.os)) A c m us w1 ((hA1.ext hE0).ext hE) rfl (by have:=hg.lat.few; omega) (MatAt.ext' (MatAt.ext' hq hE0) hE) (Qdx _ _) (leads_length _ _).symm rfl hg.lat.lat ((hu.ext hE0).ext hE) hm (by omega)
 obtain ⟨HOF,HST,HFL,HSC,HNS,HKP,HFP,HNm⟩:=Z8 hOF (fun w1 (hE:Ext w w1) x (hx:0≤findL s.names x) (hn1:0 < s.n)=>Qi6 s _ x w1 ((hSS.ext hE0).ext hE) hz hg hx hn1) (fun k (hk:k < np) (hb:(p k).bare=false) w1 vt (hE:Ext w w1) (hT:TyAt w0 w0.heap.size (t k) vt)=>Qgq w0 (t k) (hSp k hk).2.2.2 (by have:=Qfp (p:=p) (t:=t) hk9 (by omega) hk hb; omega) w1 vt (hE0.trans' hE) hT) hSh hn hKp hFp (hN.ext hE0)
 obtain ⟨HPT,HE0⟩:=Z2 hPt hE0;rw [← hnw] at HOF;have HND:=hide (show s.nodeP (.mk h np p t) me=⟨h.kind,h.at_,h.lo,h.hi,h.most,nms h.names,Qa9 s me p t np⟩ from rfl)
 have HSUM:=hide (fun k (hk:k≤np)=>(show me + 1 + sumTo (fun j=>if (p j).bare=true then 0 else nodC (t j)) k≤512 by
  have:=Qfb (f:=fun j=>if (p j).bare=true then 0 else nodC (t j)) hk
  rw [Qbn hk9] at hme;omega))
 have HEDGE:=hide (fun k=>(show s.edgeP me p t k = { name:=(p k).name.1,bare:=(p k).bare,at_:=(p k).name.2,tgt:=s.toI me p t k,label:=ofI s.ws s.os (p k).label,wide:=if (p k).wide=0 then 3 else (p k).wide,coarse:=(p k).ck,n:=(p k).cn,seen:=ofI s.ws s.os (p k).cl,cat:=(p k).cat } from rfl))
 have hn1:∀ k,k < np→(p k).bare=false→(t k).kd=9→0 < s.n:=fun k hk hb h9=>by
  have hf:=Qfo (hKp k hk hb) h9;rcases Nat.eq_zero_or_pos s.n with e | e
  ·exfalso
   have hnm:s.names = []:=by unfold Sch.names; rw [e]; rfl
   rw [hnm] at hf;exact absurd hf (by unfold findL; simp)
  ·exact e
 have HN1:=hide hn1;rw [← hnw,← hno,← hn] at HST ⊢;obtain ⟨ND_,hND_⟩:=V1 (s.nodeP (.mk h np p t) me);rw [← hND_] at HND ⊢;unfold tyV;obtain ⟨m,hm_⟩:=V1 (h.names.length);rw [← hm_] at hms ⊢;have HM:=hide hm_;have hm0:=nZ m;have hp0:=nZ np;have hme5:me≤512:=by omega
 have hlen:w0.heap.size≤w.heap.size:=hE0.size;clear hnw hno hn hA1 hA2 hA3 hR hz hg hq hSS hOF hSh hK hKp hFp hN hPt hE0 hT hSp hme hND_ hm_ hn1 hk9;show Calls Tryz.prog 40 #[.agg #[.slice A1 nw c1,.slice A2 no c2,.slice A3 n c3,y0,y1,y2,y3,y4,y5,y6,y7,y8],.slice Aq nw cq,.agg #[.int .i64 h.kind,.int .i64 h.at_,.int .i64 h.lo,.int .i64 h.hi,.int .i64 h.most,.slice At m ct,.slice Ap np cp,.string h.name.1,.int .i64 h.name.2],.int .i64 (me:Int)] w _
 obtain ⟨w1,g4,hw1,hg4,Hw1,Hg4,hV,hVE⟩:=T0 w 31 #[.slice A1 nw c1,.slice A2 no c2,.slice A3 n c3,y0,y1,y2,y3,y4,y5,y6,y7,y8];obtain ⟨w2,g6,hw2,hg6,Hw2,Hg6,hT,hTE⟩:=T0 w1 29 #[.int .i64 h.kind,.int .i64 h.at_,.int .i64 h.lo,.int .i64 h.hi,.int .i64 h.most,.slice At m ct,.slice Ap np cp,.string h.name.1,.int .i64 h.name.2];obtain ⟨w3,g8,hw3,hg8,Hw3,Hg8,hZ,hZE⟩:=T0 w2 94 #[.int .i64 0,.int .i64 0,.int .i64 0,.int .i64 0,.int .i64 0,.slice none 0 0,.slice none 0 0];obtain ⟨w4,g9,hw4,hg9,Hw4,Hg9,hD,hDE⟩:=T0 w3 94 #[.int .i64 h.kind,.int .i64 h.at_,.int .i64 h.lo,.int .i64 h.hi,.int .i64 h.most,.slice none 0 0,.slice none 0 0];have Hg6':=hide (show g6=g4 + 1 by rw [hg6,hw1,World.size_alloc,← hg4])
 have Hg8':=hide (show g8=g6 + 1 by rw [hg8,hw2,World.size_alloc,← hg6])
 obtain ⟨HE3,HE34,HV3,HT3,HZ3,HD4⟩:=Z6 ((hVE.trans' hTE).trans' hZE) hDE ((hV.ext hTE).ext hZE) (hT.ext hZE) hZ hD;have hlo8:w.heap.size≤g8:=by have:=hVE.size; have:=hTE.size; omega
 have hlo9:w3.heap.size≤g9:=by omega
 have hw49:w4.heap.size=g9 + 1:=by rw [hw4,World.size_alloc,hg9]
 obtain ⟨t0,t1,t2,t3,t4⟩:=X5 HT3.out;clear hw1 hg4 hw2 hg6 hw3 hg8 hw4 hg9 hV hVE hT hTE hZ hZE hD hDE;go_enter Tryz.func40,Tryz.ntmps40
 go_upto_region 1 with fail
 rw [← Hw1.out,← Hg4.out,← Hw2.out,← Hg6'.out,← Hw3.out,← Hg8'.out];go_upto_region 2 with fail
 rw [← Hw4.out,← Hg9.out];clear t0 t1 t2 t3 t4;go_wp2_with fail
 go_loopw [10] (fun i wr=>∃ (k:Nat) (Ao:Option Addr) (co:Nat),k≤m∧i = .int .i64 (k:Int)∧Ext w3 wr∧Blk wr g9 94 #[.int .i64 h.kind,.int .i64 h.at_,.int .i64 h.lo,.int .i64 h.hi,.int .i64 h.most,.slice Ao k co,.slice none 0 0]∧wr.ownsRow (g9 + 1) 9 1 (.slice Ao k co) k (Qg ((nms h.names).take k))) (fun i _=>m - (intOf i).toNat)
 case atStart=>exact ⟨0,none,0,Nat.zero_le _,rfl,HE34.out,HD4.out,World.ownsRow_nil _ _ _ _⟩
 case round =>
  obtain ⟨k,Ao,co,hk,rfl,hE,hB2,hO⟩:=hrel;have t5:=(HT3.out.ext hE).cell 5;simp only [gA,gH,gS] at t5;by_cases hlt:k < m
  ·obtain ⟨b,o,rfl,hb,hc⟩:=HNm.out.cell (by have:=HM.out; omega)
   obtain ⟨q1',_⟩:=hc k (by have:=HM.out; omega)
   have hEw:=HE3.out.trans' hE;have q1:=(hEw.cell (p:=⟨b,o + k * 2,none⟩) hb).trans q1';have hmo:=Qht h.names k (by have:=HM.out; omega)
   obtain ⟨x,hx⟩:=V1 (wNm h.names k);rw [← hx] at q1 hmo;have HMO:=hide hmo;obtain ⟨-,-,-,-,-,d5⟩:=X6 hB2;have i0:=nZ k;have i1:(k:Int) < (m:Int):=by omega
   have hbw:b < wr.heap.size:=Nat.lt_of_lt_of_le hb hEw.size;have hbw3:b < w3.heap.size:=Nat.lt_of_lt_of_le hb HE3.out.size;have hg9w:g9 < wr.heap.size:=hB2.lt;have hg6w3:g6 < w3.heap.size:=HT3.out.lt;have hg6w:g6 < wr.heap.size:=(HT3.out.ext hE).lt;have hOin:=own_in hO;obtain ⟨HOI,HB2,HO,HEr⟩:=Z4 hOin hB2 hO hE;clear hc q1' hmo hx hEw hE hB2 hO hOin;go_upto_region 5 with fail
   rename_i Kz hKz
   refine Qaq [0,1,2,3,4,5,6,7] [8,9] [] [] [10,11] 10 (by kernel_rfl) (by kernel_rfl) (fun w'=>(w'.cell? ⟨g9,5,none⟩=some (.slice Ao k co)∧w'.cell? ⟨g6,5,none⟩=some (.slice (some ⟨b,o,none⟩) m ct))∧w'.cell? ⟨b,o + k * 2,none⟩=some (.string x)) ⟨⟨d5,t5⟩,q1⟩ ?_
   intro I _ f hf;have r1:=fun n=>(hf n).1.1
   have r2:=fun n=>(hf n).1.2
   have r3:=fun n=>(hf n).2
   clear hf;simp only [opsAt,List.map_cons,List.map_nil,gA,gH,gS,Option.getD_some];repeat (go_big_quiet_step ((fail)))
   refine wpQuiet_nil ?_;clear r1 r2 r3;refine seqK_plain rfl ?_;intro K1 hK1;go_simp;refine hK1 _ _ ⟨⟨(World.cell?_alloc_lt _ _ ⟨g9,5,none⟩ (by show g9 < wr.heap.size; exact hg9w)).trans d5,(World.cell?_alloc_lt _ _ ⟨g6,5,none⟩ (by show g6 < wr.heap.size; exact hg6w)).trans t5⟩,(World.cell?_alloc_lt _ _ ⟨b,o + k * 2,none⟩ (by show b < wr.heap.size; exact hbw)).trans q1⟩ ?_
   refine seqK_plain rfl ?_;intro K2 hK2;obtain ⟨wX,hwX⟩:=V1 ((wr.alloc (.cells #[.string x] 9)).drew);have hEX:Ext wr wX:=by rw [hwX]; exact Ext.drew' ((Ext.rfl' wr).alloc nL _)
   have hrd:Reads wX (wr.heap.size + 1) 1 (some ⟨wr.heap.size,0,none⟩) 1 [.string x]:=by rw [hwX]; exact Qa6 wr 9 [.string x] 1 rfl _ rfl
   rw [← hwX];refine Ql9 wX (.tmp 34) (.tmp 41) rfl (g9 + 1) (.slice Ao k co) k ((nms h.names).take k) rfl wr.heap.size x 1 rfl (own_ext HO.out hEX) hrd (by omega) (by have:=hEX.size; omega) ?_
   intro A6 c6 w6 hown6 hgrow6 _;have hX6:∀ i,i < g9 + 1→w6.heap[i]? = wr.heap[i]?:=fun i hi=>(hgrow6.block i (by have:=hEX.size; omega) (fun e=>by obtain ⟨a,ha,e2⟩:=own_block_of e.symm; have:=HOI.out a ha; omega)).trans (hEX.block i (by omega))
   have hE6:Ext w3 w6:=grown_ext' (w:=w3) (wr:=wr) (base:=g9 + 1) HEr.out hEX hgrow6 HO.out (by omega)
   have hD6:Blk w6 g9 94 #[.int .i64 h.kind,.int .i64 h.at_,.int .i64 h.lo,.int .i64 h.hi,.int .i64 h.most,.slice Ao k co,.slice none 0 0]:=(hX6 g9 (Nat.lt_succ_self g9)).trans HB2.out;rw [← HMO.out] at hown6;obtain ⟨HE6,HO6,HD6⟩:=Z3 hE6 hown6 hD6;obtain ⟨-,-,-,-,-,e5⟩:=X6 hD6;have ef5:=hD6.free 5;refine hK2 _ _ ⟨⟨e5,(World.cell?_of_block (a:=⟨g6,5,none⟩) (hX6 g6 (by omega))).trans t5⟩,(World.cell?_of_block (a:=⟨b,o + k * 2,none⟩) (hX6 b (by omega))).trans q1⟩ ?_
   refine seqK_done ?_;refine wpQuiet_nil ?_;refine seqK_done ?_;clear hwX hEX hrd hown6 hgrow6 hX6 hE6 hD6 d5 t5 q1;go_wp2_with fail
   refine hKz _ _ ?_;go_wp2_with fail
   go_roundw
   case rel=>exact ⟨k + 1,A6,c6,by omega,by go_num,HE6.out.setCell (p:=⟨g9,5,none⟩) hlo9 _,HD6.out.set_ 5 _,own_far HO6.out (fun e=>by have:=own_block HO6.out g9 e; omega) _⟩
   case measure=>simp [intOf]; omega
  ·obtain rfl:k=m:=by omega
   have htk:(nms h.names).take k=nms h.names:=List.take_of_length_le (by rw [nms_length,← HM.out]; exact Nat.le_refl _)
   rw [htk] at hO;obtain ⟨w9,rfl⟩:=V1 (wr);have HE9:=hide hE;have HSN:=hide (show StrAt w9 w9.heap.size Ao (nms h.names) by unfold StrAt; rw [nms_length,← HM.out]; exact Reads.of_own hO)
   obtain ⟨HSB,HB9⟩:=Z2 (own_in hO) hB2;have hg9l:g9 < w9.heap.size:=hB2.lt;clear htk hE hB2 hO;go_wp2_with fail
   clear t5;go_loopw [12,11] (fun i nx wx=>∃ (q:Nat) (Ae:Option Addr) (ce:Nat),q≤np∧i = .int .i64 (q:Int)∧nx = .int .i64 ((me + 1 + sumTo (fun j=>if (p j).bare=true then 0 else nodC (t j)) q:Nat):Int)∧Mv (fun i=>i=g9) w9 wx∧Blk wx g9 94 #[.int .i64 h.kind,.int .i64 h.at_,.int .i64 h.lo,.int .i64 h.hi,.int .i64 h.most,.slice Ao k co,.slice Ae q ce]∧wx.ownsRow w9.heap.size 95 10 (.slice Ae q ce) q (edgeCells (Qa9 s me p t q))) (fun i _ _=>np - (intOf i).toNat)
   case atStart=>exact ⟨0,none,0,Nat.zero_le _,rfl,by show Value.int .i64 _=Value.int .i64 _; congr 1,Mv.rfl' _ _,HB9.out,World.ownsRow_nil _ _ _ _⟩
   case round =>
    obtain ⟨q,Ae,ce,hq,rfl,rfl,hm,hB,hO⟩:=hrel;have hE3r:=hm.below HE9.out (fun i e=>by rw [e]; exact hlo9)
    have t6:=(HT3.out.ext hE3r).cell 6;simp only [gA,gH,gS] at t6;by_cases hlt2:q < np
    ·obtain ⟨b,o,rfl,hb,hc⟩:=HPT.out (by omega)
     obtain ⟨vsP,h1,hpa⟩:=hc q hlt2;have hEwr:=HE3.out.trans' hE3r;have hE0r:=HE0.out.trans' hEwr;obtain ⟨Al,cl,Ac,cc,vt,rfl,q2,q3,q4⟩:=hpa;have hsh:=HSC.out q hlt2;obtain ⟨HO1,HO2⟩:=Z2 (fun w1 (hE1:Ext w w1)=>HOF.out w1 hE1 Al cl (p q).label.length (p q).label q2 rfl hsh.1) (fun w1 (hE1:Ext w w1)=>HOF.out w1 hE1 Ac cc (p q).cl.length (p q).cl q3 rfl hsh.2.1)
     have hfl:=fun hb w1 (hE1:Ext w w1)=>HFL.out q hlt2 hb w1 vt hE1 q4
     have hkp:=HKP.out q hlt2;have hn1:=HN1.out q hlt2;obtain ⟨h',n',p',k',An',cn',Ap',cp',hty,rfl⟩:=q4.open2;have HRG:=hide (show wr.rangeAt b (o + q * 18) (ptV (p q) Al cl Ac cc ++ tyV h' An' cn' Ap' n' cp') from fun j v hv=>(hE0r.cell (p:=⟨b,o + q * 18 + j,none⟩) hb).trans (h1 j v hv))
     unfold ptV tyV at HRG;simp only [List.cons_append,List.nil_append] at HRG;have htoI:s.toI me p t q=if (p q).bare=true then -1 else if h'.kind=9 then (s.start (s.find h'.name.1):Int) else ((me + 1 + sumTo (fun j=>if (p j).bare=true then 0 else nodC (t j)) q:Nat):Int):=by
      unfold Sch.toI;rw [hty];rfl
     have hsum:=(show sumTo (fun j=>if (p j).bare=true then 0 else nodC (t j)) (q + 1)=sumTo (fun j=>if (p j).bare=true then 0 else nodC (t j)) q + (if (p q).bare=true then 0 else nodC (t q)) from rfl)
     have hnc9:h'.kind=9→nodC (t q)=0:=fun h9=>by rw [hty]; exact Qfc h9
     have hkfind:(p q).bare=false→h'.kind=9→0≤findL s.names h'.name.1∧0 < s.n:=fun hb' h9=>by
      have hkd:(t q).kd=9:=by rw [hty]; exact h9
      have:=Qfo (hkp hb') hkd
      rw [hty] at this;exact ⟨this,hn1 hb' hkd⟩
     have hed:=HEDGE.out q;have hes:=Qe3 s me p t q;have hs1:=HSUM.out q (by omega)
     have hs2:=HSUM.out (q + 1) (by omega)
     rw [hsum] at hs2;obtain ⟨v1,hv1,v2,hv2⟩:=V2 (ofI s.ws s.os (p q).label) (ofI s.ws s.os (p q).cl);rw [← hv1] at HO1 hed;rw [← hv2] at HO2 hed;obtain ⟨NX,hNX⟩:=V1 (me + 1 + sumTo (fun j=>if (p j).bare=true then 0 else nodC (t j)) q)
     have hsum2:me + 1 + sumTo (fun j=>if (p j).bare=true then 0 else nodC (t j)) (q + 1)=NX + (if (p q).bare=true then 0 else nodC (t q)):=by rw [hsum,hNX]; omega
     rw [← hNX] at hs1 htoI ⊢;rw [show me + 1 + (sumTo (fun j=>if (p j).bare=true then 0 else nodC (t j)) q + (if (p q).bare=true then 0 else nodC (t q)))=NX + (if (p q).bare=true then 0 else nodC (t q)) by omega] at hs2
     obtain ⟨NC,hNC⟩:=V1 (nodC (t q));rw [← hNC] at hs2 hsum2 hnc9;have HF1:=hide (fun hb w1 (hE1:Ext w w1)=>(show Calls Tryz.prog 39 #[.agg #[.int .i64 h'.kind,.int .i64 h'.at_,.int .i64 h'.lo,.int .i64 h'.hi,.int .i64 h'.most,.slice An' h'.names.length cn',.slice Ap' n' cp',.string h'.name.1,.int .i64 h'.name.2]] w1 (fun e w'=>∃ A c,e = .returned (.slice A NC c)∧Ext w1 w') from (hfl hb w1 hE1).mono (by rintro e w' ⟨A,c,xs,rfl,_,_,hE,_⟩; exact ⟨A,c,by rw [hNC],hE⟩)))
     obtain ⟨EP,hEP⟩:=V1 (s.edgeP me p t q);rw [← hEP] at hed hes;obtain ⟨HSM,HED,HES,HKF,HTI,HC9⟩:=Z6 hsum2 hed hes hkfind htoI hnc9;obtain ⟨TG,hTG⟩:=V1 (s.toI me p t q);rw [← hTG] at HED HTI;obtain ⟨nm,hnm_⟩:=V1 ((p q).name.1);rw [← hnm_] at HRG HED;obtain ⟨na,hna_⟩:=V1 ((p q).name.2);rw [← hna_] at HRG HED;obtain ⟨br,hbr_⟩:=V1 ((p q).bare);rw [← hbr_] at HRG HED HSM HKF HTI hs2 HF1;obtain ⟨ll,hll_⟩:=V1 ((p q).label.length);rw [← hll_] at HRG HO1;obtain ⟨wi,hwi_⟩:=V1 ((p q).wide);rw [← hwi_] at HRG HED;obtain ⟨ck,hck_⟩:=V1 ((p q).ck);rw [← hck_] at HRG HED;obtain ⟨cn2,hcn2_⟩:=V1 ((p q).cn);rw [← hcn2_] at HRG HED;obtain ⟨ca,hca_⟩:=V1 ((p q).cat);rw [← hca_] at HRG HED;obtain ⟨lc,hlc_⟩:=V1 ((p q).cl.length);rw [← hlc_] at HRG HO2;have i0:=nZ q;have i1:(q:Int) < (np:Int):=by omega
     obtain ⟨HEw,HOr,HBr,HMr⟩:=Z4 hEwr hO hB hm;clear hc h1 q2 q3 q4 hsh hfl hkp hn1 hty htoI hsum hnc9 hkfind hed hes hv1 hv2 hNX hsum2 hNC hEP hTG hb hEwr hE0r hE3r hm hB hO hnm_ hna_ hbr_ hll_ hwi_ hck_ hcn2_ hca_ hlc_;obtain ⟨w10,g13,hw10,hg13,Hw10,Hg13,hU,hUE⟩:=T0 wr 131 #[.string nm,.int .i64 na,.bool br,.slice Al ll cl,.int .i64 wi,.int .i64 ck,.int .i64 cn2,.int .i64 ca,.slice Ac lc cc,.int .i64 h'.kind,.int .i64 h'.at_,.int .i64 h'.lo,.int .i64 h'.hi,.int .i64 h'.most,.slice An' h'.names.length cn',.slice Ap' n' cp',.string h'.name.1,.int .i64 h'.name.2];obtain ⟨HE10,HU,HOr10,HBr10⟩:=Z4 (HEw.out.trans' hUE) hU (own_ext HOr.out hUE) (HBr.out.ext hUE);obtain ⟨u0,u1,u2,u3,u4,u5,u6,u7,u8,u9,u10,u11,u12,u13,u14,u15,u16,u17⟩:=X18 hU;have hsr10:wr.heap.size≤w10.heap.size:=hUE.size;clear hw10 hg13 hU;go_upto_region 10 with fail
     refine wp_region_lit ?_;refine wpList_plain rfl fun K0 hK0=>?_
     go_simp;refine hK0 _ _ ?_;refine wpList_plain rfl fun K1 hK1=>?_
     go_simp;refine hK1 _ _ ?_;refine wpList_plain rfl fun K2 hK2=>?_
     go_simp;refine hK2 _ _ ?_;refine wpList_plain rfl fun K3 hK3=>?_
     go_simp;refine hK3 _ _ ?_;refine wpList_load_mid rfl 131 _ rfl b (o + q * 18) rfl _ _ HRG.out Tryz.underlying131 rfl Qfn ?_;refine wpList_plain rfl fun K0 hK0=>?_
     go_simp;refine hK0 _ _ ?_;refine Qc rfl 131 _ _ rfl _ #[.string nm,.int .i64 na,.bool br,.slice Al ll cl,.int .i64 wi,.int .i64 ck,.int .i64 cn2,.int .i64 ca,.slice Ac lc cc,.int .i64 h'.kind,.int .i64 h'.at_,.int .i64 h'.lo,.int .i64 h'.hi,.int .i64 h'.most,.slice An' h'.names.length cn',.slice Ap' n' cp',.string h'.name.1,.int .i64 h'.name.2] rfl rfl Qfn rfl (by simp [Value.oneCell']) ?_
     go_upto_region 11 with fail
     rw [← Hw10.out,← Hg13.out];obtain ⟨w11,g14,hw11,hg14,Hw11,Hg14,hF,hFE⟩:=T0 w10 95 #[.string nm,.bool br,.int .i64 na,.int .i64 (NX:Int),.int .i64 0,.int .i64 wi,.int .i64 ck,.int .i64 cn2,.int .i64 0,.int .i64 ca];have hE1011:=hFE;have HF11:=hide hF;have hlo14:w10.heap.size≤g14:=by omega
     obtain ⟨HX11,HUE⟩:=Z2 hFE hUE;clear hw11 hg14 hF hFE hUE hE1011;go_upto_region 12 with fail
     rw [← Hw11.out,← Hg14.out];clear t6 u0 u1 u2 u4 u5 u6 u7;obtain ⟨wd,hwd⟩:∃ wd:Int,wd=if wi=0 then 3 else wi:=⟨_,rfl⟩;have HWD:=hide hwd;clear hwd;obtain ⟨-,-,-,-,-,e5⟩:=X6 HF11.out;have ef5:=HF11.out.free 5;go_upto_if 81 with fail
     go_cut [] (fun wy=>Blk wy g14 95 #[.string nm,.bool br,.int .i64 na,.int .i64 (NX:Int),.int .i64 0,.int .i64 wd,.int .i64 ck,.int .i64 cn2,.int .i64 0,.int .i64 ca]∧Ext w10 wy)
     case first =>
      by_cases hwi:wi=0
      ·have hb:(wi == 0)=true:=by rw [hwi]; rfl
       have hwd:=HWD.out;rw [if_pos hwi] at hwd;have HWD3:=hide hwd;clear hwd hwi;go_wp2_with fail
       go_meet
       exact ⟨by rw [HWD3.out]; exact HF11.out.set_ 5 _,HX11.out.setCell (p:=⟨g14,5,none⟩) hlo14 _⟩
      ·have hb:(wi == 0)=false:=by simpa using hwi
       have hwd:=HWD.out;rw [if_neg hwi] at hwd;have HWD3:=hide hwd;clear hwd hwi;go_wp2_with fail
       go_meet
       exact ⟨by rw [HWD3.out]; exact HF11.out,HX11.out⟩
     case rest =>
      rename World=>w12
      obtain ⟨hF12,hX12⟩:=hcut;obtain ⟨HF12,HX12,HE12⟩:=Z3 hF12 hX12 (HE10.out.trans' hX12);clear hF12 hX12 e5 ef5;have hV12:=HV3.out.ext (show Ext w3 w12 from (HMr.out.below HE9.out (fun i e=>by rw [e]; exact hlo9)).trans' (HUE.out.trans' HX12.out))
      have hU12:=HU.out.ext HX12.out;have HV12:=hide hV12;have s0:=X1 hV12;obtain ⟨-,-,-,u3⟩:=X4 hU12;clear hV12 hU12 u8 u9 u10 u11 u12 u13 u14 u15 u16 u17;go_wp2_with fail
      refine (HO1.out w12 HE12.out).mono ?_;rintro e w13 ⟨rfl,hE13⟩;have hF13:=HF12.out.ext hE13;have hX13:=HX12.out.trans' hE13;obtain ⟨-,-,-,-,e4⟩:=X5 hF13;have ef4:=hF13.free 4;clear s0 u3;obtain ⟨w14,hw14⟩:=V1 (w13.setCell ⟨g14,4,none⟩ (.int .i64 v1));have HF14:=hide (show Blk w14 g14 95 #[.string nm,.bool br,.int .i64 na,.int .i64 (NX:Int),.int .i64 v1,.int .i64 wd,.int .i64 ck,.int .i64 cn2,.int .i64 0,.int .i64 ca] by rw [hw14]; exact hF13.set_ 4 _)
      have HX14:=hide (show Ext w10 w14 by rw [hw14]; exact hX13.setCell (p:=⟨g14,4,none⟩) hlo14 _)
      have HE14:=hide (HE10.out.trans' HX14.out);clear hF13 hX13 hE13;go_upto_region 15 with fail
      rw [← hw14];clear hw14 e4 ef4;have hV14:=HV3.out.ext (show Ext w3 w14 from (HMr.out.below HE9.out (fun i e=>by rw [e]; exact hlo9)).trans' (HUE.out.trans' HX14.out))
      have hU14:=HU.out.ext HX14.out;have s0:=X1 hV14;obtain ⟨-,-,-,-,-,-,-,-,u8⟩:=X9 hU14;clear hV14 hU14;go_wp2_with fail
      refine (HO2.out w14 HE14.out).mono ?_;rintro e w15 ⟨rfl,hE15⟩;have hF15:=HF14.out.ext hE15;have hX15:=HX14.out.trans' hE15;obtain ⟨-,-,-,-,-,-,-,-,e8⟩:=X9 hF15;have ef8:=hF15.free 8;clear s0 u8;obtain ⟨w16,hw16⟩:=V1 (w15.setCell ⟨g14,8,none⟩ (.int .i64 v2));have HF16:=hide (show Blk w16 g14 95 #[.string nm,.bool br,.int .i64 na,.int .i64 (NX:Int),.int .i64 v1,.int .i64 wd,.int .i64 ck,.int .i64 cn2,.int .i64 v2,.int .i64 ca] by rw [hw16]; exact hF15.set_ 8 _)
      have HX16:=hide (show Ext w10 w16 by rw [hw16]; exact hX15.setCell (p:=⟨g14,8,none⟩) hlo14 _)
      have HE16:=hide (HE10.out.trans' HX16.out);clear hF15 hX15 hE15;go_upto_region 16 with fail
      rw [← hw16];clear hw16 e8 ef8;have HV16:=hide (HV3.out.ext (show Ext w3 w16 from (HMr.out.below HE9.out (fun i e=>by rw [e]; exact hlo9)).trans' (HUE.out.trans' HX16.out)))
      have hU16:=HU.out.ext HX16.out;obtain ⟨-,-,u2⟩:=X3 hU16;have HU16:=hide hU16;obtain ⟨-,-,-,e3⟩:=X4 HF16.out;have ef3:=HF16.out.free 3;clear hU16;go_upto_if 105 with fail
      go_cut [11] (fun v wy=>∃ NX':Nat,v = .int .i64 (NX':Int)∧Blk wy g14 95 #[.string nm,.bool br,.int .i64 na,.int .i64 TG,.int .i64 v1,.int .i64 wd,.int .i64 ck,.int .i64 cn2,.int .i64 v2,.int .i64 ca]∧Ext w10 wy∧Hid (me + 1 + sumTo (fun j=>if (p j).bare=true then 0 else nodC (t j)) (q + 1)=NX'))
      case first =>
       cases br with
       | true =>
        have hti:=HTI.out;rw [if_pos rfl] at hti;have HT1:=hide hti;have hsm:=HSM.out;rw [if_pos rfl] at hsm;have HS1:=hide hsm;clear hti hsm u2;go_wp2_with fail
        go_meet
        exact ⟨NX,rfl,by rw [HT1.out]; exact HF16.out.set_ 3 _,HX16.out.setCell (p:=⟨g14,3,none⟩) hlo14 _,HS1.out⟩
       | false =>
        have hti:=HTI.out;rw [if_neg (by decide)] at hti
        have hsm:=HSM.out;rw [if_neg (by decide)] at hsm
        rw [if_neg (by decide)] at hs2
        have hkf:=HKF.out rfl;have hfl:=HF1.out rfl w16 HE16.out;have HFLK:=hide hfl;have hV16:=HV16.out;have hU16:=HU16.out;obtain ⟨s0,s1,s2,s3,s4,s5,s6,s7,s8,s9,s10,s11⟩:=X12 hV16;obtain ⟨-,-,-,-,-,-,-,-,-,u9,u10,u11,u12,u13,u14,u15,u16,u17⟩:=X18 hU16;clear hfl hV16 hU16 u2;by_cases hk9:h'.kind=9
        ·have k9:(h'.kind == 9)=true:=by simpa using hk9
         have hst:=HST.out w16 HE16.out h'.name.1 (hkf hk9).1 (by rw [HNS.out]; exact (hkf hk9).2)
         have HSTK:=hide hst;rw [if_pos hk9] at hti;have HT1:=hide hti;have HS1:=hide (show me + 1 + sumTo (fun j=>if (p j).bare=true then 0 else nodC (t j)) (q + 1)=NX by rw [hsm,HC9.out hk9]; rfl)
         obtain ⟨SI,hSI⟩:=V1 (s.start (s.find h'.name.1));rw [← hSI] at HSTK HT1;clear hst hti hsm hkf hSI hk9;go_wp2_with fail
         refine HSTK.out.mono ?_;rintro e w17 ⟨rfl,hE17⟩;have hF17:=HF16.out.ext hE17;have hX17:=HX16.out.trans' hE17;obtain ⟨-,-,-,e3⟩:=X4 hF17;have ef3:=hF17.free 3;obtain ⟨HF17,HX17⟩:=Z2 hF17 hX17;clear hF17 hX17 hE17 s0 s1 s2 s3 s4 s5 s6 s7 s8 s9 s10 s11 u9 u10 u11 u12 u13 u14 u15 u16 u17;go_wp2_with fail
         go_meet
         exact ⟨NX,rfl,by rw [HT1.out]; exact HF17.out.set_ 3 _,HX17.out.setCell (p:=⟨g14,3,none⟩) hlo14 _,HS1.out⟩
        ·have k9:(h'.kind == 9)=false:=by simpa using hk9
         rw [if_neg hk9] at hti;obtain ⟨HT1,HS1⟩:=Z2 hti hsm;clear hti hsm hkf hk9;go_wp2_with fail
         refine HFLK.out.mono ?_;rintro e w17 ⟨Af,cf,rfl,hE17⟩;obtain ⟨HF17,HX17⟩:=Z2 (HF16.out.ext hE17) (HX16.out.trans' hE17);clear hE17 s0 s1 s2 s3 s4 s5 s6 s7 s8 s9 s10 s11 u9 u10 u11 u12 u13 u14 u15 u16 u17;go_wp2_with fail
         go_meet
         exact ⟨NX + NC,by go_num,by rw [HT1.out]; exact HF17.out,HX17.out,HS1.out⟩
      case rest =>
       rename World=>w18
       obtain ⟨NX',rfl,hF18,hX18,HSX⟩:=hcut;clear u2 e3 ef3;have hB18:=HBr10.out.ext hX18;obtain ⟨-,-,-,-,-,-,d6⟩:=X7 hB18;have d6f:=hB18.free 6;obtain ⟨e0,e1,e2,e3,e4,e5,e6,e7,e8,e9⟩:=X10 hF18;obtain ⟨HB18,HO18,HX18⟩:=Z3 hB18 (own_ext HOr10.out hX18) hX18;have HEQ:=hide (show edgeV EP = [.string nm,.bool br,.int .i64 na,.int .i64 TG,.int .i64 v1,.int .i64 wd,.int .i64 ck,.int .i64 cn2,.int .i64 v2,.int .i64 ca] by rw [HED.out,HWD.out]; rfl)
       have hsz18:w9.heap.size≤w18.heap.size:=by have:=HMr.out.size; have:=hX18.size; omega
       clear hF18 hX18 hB18;go_wp2_with (at_builtin; refine Qh5 _ rfl _ _ rfl w9.heap.size _ q (edgeCells (Qa9 s me p t q)) rfl (w18.heap.size + 1) (some ⟨w18.heap.size,0,none⟩) 1 [.string nm,.bool br,.int .i64 na,.int .i64 TG,.int .i64 v1,.int .i64 wd,.int .i64 ck,.int .i64 cn2,.int .i64 v2,.int .i64 ca] rfl (HO18.out.alloc _) (Qa6 w18 95 [.string nm,.bool br,.int .i64 na,.int .i64 TG,.int .i64 v1,.int .i64 wd,.int .i64 ck,.int .i64 cn2,.int .i64 v2,.int .i64 ca] 10 rfl _ rfl) (by intro u hu; rw [← HEQ.out] at hu; exact Qj7 EP u hu) (by omega) (by simp only [World.size_alloc]; omega) ?_)
       intro A7 c7 w19 hown7 hgrow7 _;rw [← HEQ.out,← HES.out] at hown7;have hOin:=own_in HO18.out;have hm19:Mv (fun i=>∃ a,Ae=some a∧a.block=i) w18 w19:=(Mv.of_ext ((Ext.rfl' w18).alloc nL _)).trans (Mv.of_grown hgrow7 fun g hg'=>own_block_of hg')
       have hmr19:Mv (fun i=>i=g9) w9 w19:=((HMr.out.ext HUE.out).ext HX18.out).trans' hm19 (fun i hi _ ⟨a,ha,e⟩=>by have:=hOin a ha; omega)
       have hB19:=hm19.blk HB18.out (fun ⟨a,ha,e⟩=>by have:=hOin a ha; omega)
       obtain ⟨-,-,-,-,-,-,d6⟩:=X7 hB19;have d6f:=hB19.free 6;obtain ⟨HB19,HM19,HO19⟩:=Z3 hB19 hmr19 hown7;clear hown7 hgrow7 hOin hm19 hmr19 hB19 e0 e1 e2 e3 e4 e5 e6 e7 e8 e9;go_wp2_with fail
       go_roundw
       case rel=>exact ⟨q + 1,A7,c7,by omega,by go_num,by rw [HSX.out],HM19.out.set (.inr rfl) _,HB19.out.set_ 6 _,own_far HO19.out (fun e=>by have:=own_block HO19.out g9 e; omega) _⟩
       case measure=>simp [intOf]; omega
    ·obtain rfl:q=np:=by omega
     have hZr:=HZ3.out.ext hE3r;have hrg:=Qb8 hB;have hth:=Qbo hZr (o:=0) (m:=(#[.int .i64 h.kind,.int .i64 h.at_,.int .i64 h.lo,.int .i64 h.hi,.int .i64 h.most,.slice Ao k co,.slice Ae q ce]:Array Value).size) nL;have hbf:=Qdr [.int .i64 h.kind,.int .i64 h.at_,.int .i64 h.lo,.int .i64 h.hi,.int .i64 h.most,.slice Ao k co,.slice Ae q ce] [.int .i64 0,.int .i64 0,.int .i64 0,.int .i64 0,.int .i64 0,.slice none 0 0,.slice none 0 0] hZr rfl;obtain ⟨HBF,HRG5,HTH2,HMr,HOr,HEr⟩:=Z6 hbf hrg hth hm hO (HE3.out.trans' hE3r);have hg83:g8 < w3.heap.size:=HZ3.out.lt;have h39:w3.heap.size≤w9.heap.size:=HE9.out.size;clear hZr hrg hth hbf hm hO hB hE3r;go_upto_region 22 with fail
     clear t6;refine wp_region_lit ?_;refine wpList_load_mid rfl 94 _ rfl g9 0 rfl _ _ HRG5.out Tryz.underlying94 rfl Quy ?_;refine wpList_store_mid rfl 94 _ _ rfl g8 0 #[.int .i64 h.kind,.int .i64 h.at_,.int .i64 h.lo,.int .i64 h.hi,.int .i64 h.most,.slice Ao k co,.slice Ae q ce] rfl rfl HTH2.out (by kernel_rfl) (by simp [Value.oneCell']) ?_
     rename_i Kq hKq
     obtain ⟨wZ9,hw9⟩:=V1 (wr.setCells g8 0 [.int .i64 h.kind,.int .i64 h.at_,.int .i64 h.lo,.int .i64 h.hi,.int .i64 h.most,.slice Ao k co,.slice Ae q ce]);have hb9:=HBF.out;have hm9:=Mv.setCells (X:=fun i=>i=g8) (g:=g8) (Mv.rfl' _ wr) rfl [.int .i64 h.kind,.int .i64 h.at_,.int .i64 h.lo,.int .i64 h.hi,.int .i64 h.most,.slice Ao k co,.slice Ae q ce] 0
     rw [← hw9] at hb9 hm9;obtain ⟨HB9',HE9',HM9'⟩:=Z3 hb9 (hm9.below HEr.out (fun i e=>by rw [e]; exact hlo8)) hm9
     show wpList _ _ _ _ _ (wr.setCells g8 0 [.int .i64 h.kind,.int .i64 h.at_,.int .i64 h.lo,.int .i64 h.hi,.int .i64 h.most,.slice Ao k co,.slice Ae q ce])
     rw [← hw9];clear hw9 hb9 hm9;refine wpList_nil ?_;refine hKq _ _ ?_;go_wp2_with fail
     refine bodyPost_ret (results_cell_row rfl _ _ g8 94 _ (0,0) _ rfl HB9'.out Tryz.underlying94 rfl (by kernel_rfl)) rfl ?_
     refine ⟨Ao,co,Ae,ce,?_,?_,?_,HE9'.out,fun a ha=>by have:=HSB.out a ha; have:=HMr.out.size; have:=HM9'.out.size; omega,fun a ha=>by have:=own_in HOr.out a ha; have:=HM9'.out.size; omega⟩
     ·rw [HND.out];unfold nodeV;dsimp only
      rw [nms_length,← HM.out,Qc1]
     ·rw [HND.out];exact Reads.mv (Reads.mv HSN.out HMr.out (fun a ha e=>by have:=HSB.out a ha; omega)) HM9'.out (fun a ha e=>by have:=HSB.out a ha; omega)
     ·rw [HND.out];have hin:=own_in HOr.out;have hr:=Reads.of_own HOr.out;have he:EdgesAt wr wr.heap.size Ae (Qa9 s me p t q):=by unfold EdgesAt; rw [Qc1]; exact hr
      exact Reads.mv he HM9'.out (fun a ha e=>by have:=hin a ha; omega)
structure DNs (w:World) (base:Nat) (g3:Nat) (A:Option Addr) (c:Nat) (L:List NodeP) (U:Nat→Prop):Prop where
 row:∃ xs,w.ownsRow base 94 7 (.slice A L.length c) L.length xs∧∀ k (hk:k < L.length),ElAt w L[k] U ((xs.drop (k * 7)).take 7)
 free:∀ i,U i→base≤i∧i < w.heap.size∧i≠g3∧∀ a,A=some a→a.block≠i
theorem DNs.keep {w w':World} {base g3 c:Nat} {A:Option Addr} {L:List NodeP} {U Y:Nat→Prop} (h:DNs w base g3 A c L U) (hm:Mv Y w w') (hA:∀ a,A=some a→¬ Y a.block) (hU:∀ i,U i→¬ Y i):DNs w' base g3 A c L U:=by
 obtain ⟨⟨xs,h3,h4⟩,h5⟩:=h;refine ⟨⟨xs,hm.own h3 fun g hg=>?_,fun k hk=>(h4 k hk).mv hm fun i hi=>⟨hU i hi,hi⟩⟩,fun i hi=>⟨(h5 i hi).1,Nat.lt_of_lt_of_le (h5 i hi).2.1 hm.size,(h5 i hi).2.2⟩⟩
 obtain ⟨a,ha,e⟩:=own_block_of hg;rw [← e];exact hA a ha
theorem DNs.ext {w w':World} {base g3 c:Nat} {A:Option Addr} {L:List NodeP} {U:Nat→Prop} (h:DNs w base g3 A c L U) (hE:Ext w w'):DNs w' base g3 A c L U:=h.keep (Mv.of_ext (X:=fun _=>False) hE) (fun _ _ hh=>hh) (fun _ _ hh=>hh)
theorem DNs.nil (w:World) (base g3:Nat):DNs w base g3 none 0 [] (fun _=>False):=⟨⟨[],World.ownsRow_nil _ _ _ _,fun _k hk=>absurd hk (Nat.not_lt_zero _)⟩,fun _ hh=>hh.elim⟩
theorem DNs.push {w wc wX w':World} {base g3 c c':Nat} {A A' An Ae:Option Addr} {cn ce:Nat} {L:List NodeP} {U:Nat→Prop} {d:NodeP} {xs:List Value} (hO:w.ownsRow base 94 7 (.slice A L.length c) L.length xs) (hel:∀ k (hk:k < L.length),ElAt w L[k] U ((xs.drop (k * 7)).take 7)) (hfree:∀ i,U i→base≤i∧i < w.heap.size∧i≠g3∧∀ a,A=some a→a.block≠i)
  (hb:base≤w.heap.size) (hg3:g3 < w.heap.size) (hE:Ext w wc) (hs:StrAt wc wc.heap.size An d.names) (he:EdgesAt wc wc.heap.size Ae d.edges) (hn1:∀ a,An=some a→w.heap.size≤a.block∧a.block < wc.heap.size) (hn2:∀ a,Ae=some a→w.heap.size≤a.block∧a.block < wc.heap.size) (hX:Ext wc wX) (hlt:wc.heap.size < wX.heap.size)
  (hO':w'.ownsRow base 94 7 (.slice A' (L.length + 1) c') (L.length + 1) (xs ++ nodeV d An cn Ae ce)) (hg:wX.grownBy w' (Value.slice A L.length c).ownBlock)
  (hob:Value.ownBlock (.slice A' (L.length + 1) c')=(Value.slice A L.length c).ownBlock∨Value.ownBlock (.slice A' (L.length + 1) c')=some wX.heap.size) :
  DNs w' base g3 A' c' (L ++ [d]) (fun i=>U i∨(∃ a,An=some a∧a.block=i)∨∃ a,Ae=some a∧a.block=i):=by
 have hin:=own_in hO;have hs1:=hE.size;have hs2:=hX.size;have hm1:Mv (fun i=>∃ a,A=some a∧a.block=i) wc w':=(Mv.of_ext hX).trans (Mv.of_grown hg fun g hg'=>own_block_of hg')
 have hm:Mv (fun i=>∃ a,A=some a∧a.block=i) w w':=(Mv.of_ext hE).trans hm1
 have hrd:∀ {B:Option Addr} {size n:Nat} {ys:List Value},Reads wc wc.heap.size size B n ys→(∀ a,B=some a→w.heap.size≤a.block∧a.block < wc.heap.size)→Reads w' w'.heap.size size B n ys:=fun hr hf=>Reads.mv hr hm1 fun a ha ⟨a2,ha2,e⟩=>by have:=hin a2 ha2; have:=hf a ha; omega
 have hs':=hrd hs hn1;have he':=hrd he hn2;have hbl:=own_base hO';have hne:∀ i,(∃ a,An=some a∧a.block=i)∨(∃ a,Ae=some a∧a.block=i)→w.heap.size≤i∧i < wc.heap.size:=fun i hi=>by
  rcases hi with ⟨a,ha,e⟩ | ⟨a,ha,e⟩
  ·have:=hn1 a ha; omega
  ·have:=hn2 a ha; omega
 have hw':=hm1.size;refine ⟨⟨xs ++ nodeV d An cn Ae ce,by rw [List.length_append]; exact hO',fun k hk=>?_⟩,fun i hi=>?_⟩
 ·rw [List.length_append,List.length_singleton] at hk;rcases Nat.lt_or_ge k L.length with hk1 | hk1
  ·rw [List.getElem_append_left hk1,Qe1 hO.1 hk1];exact (hel k hk1).mv hm fun i hi=>⟨fun ⟨a,ha,e⟩=>(hfree i hi).2.2.2 a ha e,.inl hi⟩
  ·obtain rfl:k=L.length:=by omega
   rw [List.getElem_append_right nL,Qe2 hO.1 rfl];simp only [Nat.sub_self,gD];exact ⟨An,cn,Ae,ce,rfl,hs',he',fun a ha=>.inr (.inl ⟨a,ha,rfl⟩),fun a ha=>.inr (.inr ⟨a,ha,rfl⟩)⟩
 ·have hnew:∀ a,A'=some a→(∃ a2,A=some a2∧a2.block=a.block)∨a.block=wX.heap.size:=fun a ha=>by
   rcases hob with hob | hob
   ·rw [ha] at hob;obtain ⟨a2,ha2,e2⟩:=own_block_of (A:=A) (g:=a.block) (n:=L.length) (c:=c) hob.symm;exact .inl ⟨a2,ha2,e2⟩
   ·rw [ha] at hob;exact .inr (by simpa [Value.ownBlock] using hob)
  rcases hi with hi | hi
  ·obtain ⟨f1,f2,f3,f4⟩:=hfree i hi;refine ⟨f1,by have:=hm.size; omega,f3,fun a ha e=>?_⟩
   rcases hnew a ha with ⟨a2,ha2,e2⟩ | e2
   ·exact f4 a2 ha2 (by omega)
   ·omega
  ·obtain ⟨f1,f2⟩:=hne i hi;refine ⟨by omega,by omega,by omega,fun a ha e=>?_⟩
   rcases hnew a ha with ⟨a2,ha2,e2⟩ | e2
   ·have:=hin a2 ha2; omega
   ·omega
end Go.Proofs.YtanpljalbijfkaaGreat
