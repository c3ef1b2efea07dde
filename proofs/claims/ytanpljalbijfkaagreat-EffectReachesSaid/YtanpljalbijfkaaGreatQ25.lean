/- . -/
import Derived.Test.YtanpljalbijfkaaGreatQ24
namespace Go.Proofs.YtanpljalbijfkaaGreat
open Go.RowKit
set_option maxHeartbeats 16000000
theorem Qt3 (e:EdgeP) (w:World):(Instr.buildSlice 64 1 #[(0,.agg (edgeV e).toArray)]).run Tryz.prog w = .ok (.slice (some ⟨w.heap.size,0,none⟩) 1 1) (w.alloc (.cells (edgeV e).toArray 70)):=by
 unfold edgeV;kernel_rfl
theorem wpList_bsE {ops:Array Oper} {rest:List Oper} {o:Oper} {a:Act} {w:World} {Q:Exit→Act→World→Prop} (hgd:o.guard=none) (x:Operand) (ho:o.op = .buildSlice 64 1 #[(0,x)]) (e:EdgeP) (hx:a.eval x = .agg (edgeV e).toArray)
  (h:wpList Tryz.prog ops Q rest (a.put o.dst (.slice (some ⟨w.heap.size,0,none⟩) 1 1)) (w.alloc (.cells (edgeV e).toArray 70))):wpList Tryz.prog ops Q (o :: rest) a w :=
 wpList_plain hgd fun K hK=>by
  unfold Oper.wp execOp;simp only [ho,List.map_toArray,List.map_cons,List.map_nil,hx,Sem.run_bind,Qt3 e w,Result.andThen_ok];exact hK _ _ h
theorem Qa6 (w:World) (t:TypeId) (l:List Value) (n:Nat) (hl:l.length=n) (g:Nat) (hg:g=w.heap.size):Reads (w.alloc (.cells l.toArray t)) (g + 1) n (some ⟨g,0,none⟩) 1 l:=by
 subst hg;refine ⟨by rw [hl,Nat.one_mul],fun _=>⟨_,rfl,by simp,fun j u hu=>?_⟩⟩
 have e:(⟨w.heap.size,0,none⟩:Addr).add j=⟨w.heap.size,j,none⟩:=by unfold Addr.add; split <;> simp_all
 rw [e,World.cell?_alloc_new];simpa using hu
theorem Qj7 (e:EdgeP):∀ u ∈ edgeV e,u.oneCell'=true:=by
 intro u hu;simp [edgeV] at hu
 rcases hu with rfl | rfl | rfl | rfl | rfl | rfl | rfl | rfl | rfl | rfl <;> rfl
theorem Qiz (w:World) {ops:Array Oper} {rest:List Oper} {o:Oper} {a:Act} {Q:Exit→Act→World→Prop} (hgd:o.guard=none) (s x:Operand)
  (ho:o.op = .call { callee:=.builtin .append,args:=#[s,x],argTypes:=#[64,64] })
  (base:Nat) (v:Value) (n:Nat) (xs:List Value) (hs:a.eval s=v) (B:Nat) (A:Option Addr) (c:Nat) (news:List Value) (hx:a.eval x = .slice A 1 c)
  (hown:w.ownsRow base 70 10 v n xs) (hr:Reads w B 10 A 1 news) (h1:∀ u ∈ news,u.oneCell'=true) (hn:n≤1000000) (hbase:base≤w.heap.size)
  (h:∀ A' c' w',w'.ownsRow base 70 10 (.slice A' (n + 1) c') (n + 1) (xs ++ news)→w.grownBy w' v.ownBlock→(Value.ownBlock (.slice A' (n + 1) c')=v.ownBlock∨Value.ownBlock (.slice A' (n + 1) c')=some w.heap.size)→wpList Tryz.prog ops Q rest (a.put o.dst (.slice A' (n + 1) c')) w'):wpList Tryz.prog ops Q (o :: rest) a w:=by
 obtain ⟨i0,hi,hz,hs2,hb⟩:=Qj6;exact Qp w hgd s x 64 ho base 70 i0 _ 10 88 Tryz.underlying64 hi hz hs2 hb rfl (by decide) v n xs hs hown B A 1 c news hx hr h1 (by unfold maxLen; omega) (by omega) hbase h
theorem Qhx (w:World) {ops:Array Oper} {rest:List Oper} {o:Oper} {a:Act} {Q:Exit→Act→World→Prop} (hgd:o.guard=none) (s x:Operand)
  (ho:o.op = .call { callee:=.builtin .append,args:=#[s,x],argTypes:=#[63,63] })
  (base:Nat) (v:Value) (n:Nat) (l:List ByteArray) (hs:a.eval s=v) (g:Nat) (u:ByteArray) (c:Nat) (hx:a.eval x = .slice (some ⟨g,0,none⟩) 1 c)
  (hown:w.ownsRow base 9 1 v n (Qg l)) (hr:Reads w (g + 1) 1 (some ⟨g,0,none⟩) 1 [.string u]) (hn:n≤5864062014634) (hbase:base≤w.heap.size)
  (h:∀ A' c' w',w'.ownsRow base 9 1 (.slice A' (n + 1) c') (n + 1) (Qg (l ++ [u]))→w.grownBy w' v.ownBlock→(Value.ownBlock (.slice A' (n + 1) c')=v.ownBlock∨Value.ownBlock (.slice A' (n + 1) c')=some w.heap.size)→wpList Tryz.prog ops Q rest (a.put o.dst (.slice A' (n + 1) c')) w'):wpList Tryz.prog ops Q (o :: rest) a w:=by
 obtain ⟨i0,hi,hz,hs2,hb⟩:=Qdu;rw [Qbj] at h;exact Qp w hgd s x 63 ho base 9 i0 _ 1 16 Tryz.underlying63 hi hz hs2 hb rfl (by decide) v n (Qg l) hs hown (g + 1) _ 1 c [.string u] hx hr (fun y hy=>by rw [List.mem_singleton.1 hy]; rfl) (by unfold maxLen; omega) (by omega) hbase h
theorem Qji (w:World) {o:Oper} {a:Act} {K:Act→World→Prop} {Q:Exit→Act→World→Prop} (s x:Operand)
  (ho:o.op = .call { callee:=.builtin .append,args:=#[s,x],argTypes:=#[80,80] })
  (base:Nat) (v:Value) (n:Nat) (xs:List Value) (hs:a.eval s=v) (B:Nat) (A:Option Addr) (c:Nat) (news:List Value) (hx:a.eval x = .slice A 1 c)
  (hown:w.ownsRow base 66 7 v n xs) (hr:Reads w B 7 A 1 news) (h1:∀ u ∈ news,u.oneCell'=true) (hn:n≤1000000) (hbase:base≤w.heap.size)
  (h:∀ A' c' w',w'.ownsRow base 66 7 (.slice A' (n + 1) c') (n + 1) (xs ++ news)→w.grownBy w' v.ownBlock→(Value.ownBlock (.slice A' (n + 1) c')=v.ownBlock∨Value.ownBlock (.slice A' (n + 1) c')=some w.heap.size)→K (a.put o.dst (.slice A' (n + 1) c')) w'):o.wp Tryz.prog a w K Q:=by
 obtain ⟨i0,hi,hz,hs2,hb⟩:=Qq8;refine Qar w s x 80 ho base 66 i0 _ 7 88 Tryz.underlying80 hi hz hs2 hb rfl (by decide) v n xs hs hown B A 1 c news hx hr h1 (by unfold maxLen; omega) (by omega) hbase ?_
 intro v' w' h2 h3 h4;have hv:∃ A' c',v' = .slice A' (n + 1) c':=by
  rcases h2.2 with ⟨e,h0⟩ | ⟨g,cap,cur,e,_⟩
  ·omega
  ·exact ⟨_,_,e⟩
 obtain ⟨A',c',hv⟩:=hv;rw [hv] at h2 h4 ⊢;exact h A' c' w' h2 h3 h4
theorem own_in {w:World} {base size n c:Nat} {e:TypeId} {A:Option Addr} {xs:List Value} (h:w.ownsRow base e size (.slice A n c) n xs):∀ a,A=some a→base≤a.block∧a.block < w.heap.size:=by
 intro a ha;rcases h.2 with ⟨hv,_⟩ | ⟨g,cap,cur,hv,hb,hh,_⟩
 ·injection hv with h1; rw [ha] at h1; cases h1
 ·injection hv with h1; rw [ha] at h1; injection h1 with h1; rw [h1]
  refine ⟨hb,?_⟩;rcases Nat.lt_or_ge g w.heap.size with hlt | hge
  ·exact hlt
  ·rw [Array.getElem?_eq_none hge] at hh; cases hh
theorem NSt.push_node {w8 wX w4:World} {gp gl gt n cn c m co c4:Nat} {An A Ao A4:Option Addr} {L:List NodeP} {U:Nat→Prop} {base:Nat} {wK w:World} {h:TyH} {xs:List Value} (hS:NSt wK gp gl gt n cn An w A c L U) (hrow:w.ownsRow wK.heap.size 66 7 (.slice A L.length c) L.length xs) (hel:∀ k (hk:k < L.length),ElAt w L[k] U ((xs.drop (k * 7)).take 7)) (hgpK:gp < wK.heap.size)
  (hE:Ext w w8) (hOn:w8.ownsRow base 9 1 (.slice Ao m co) m (Qg (nms h.names))) (hbase:w.heap.size≤base) (hm:m=h.names.length) (hX:Ext w8 wX)
  (hO4:w4.ownsRow wK.heap.size 66 7 (.slice A4 (L.length + 1) c4) (L.length + 1) (xs ++ [.int .i64 h.kind,.int .i64 h.at_,.int .i64 h.lo,.int .i64 h.hi,.int .i64 h.most,.slice Ao m co,.slice none 0 0])) (hg:wX.grownBy w4 (Value.slice A L.length c).ownBlock)
  (hb:Value.ownBlock (.slice A4 (L.length + 1) c4)=(Value.slice A L.length c).ownBlock∨Value.ownBlock (.slice A4 (L.length + 1) c4)=some wX.heap.size) :
  NSt wK gp gl gt n cn An (w4.setCell ⟨gp,1,none⟩ (.slice A4 (L.length + 1) c4)) A4 c4 (L ++ [nd0 h]) (fun i=>U i∨∃ a,Ao=some a∧a.block=i)∧Mv (XN gp A) w (w4.setCell ⟨gp,1,none⟩ (.slice A4 (L.length + 1) c4))∧∀ a,A4=some a→A=some a∨w.heap.size≤a.block:=by
 have hin:=own_in hOn;have hAK:=hS.ownA;have hmX:Mv (fun i=>∃ a,A=some a∧a.block=i) w8 w4:=(Mv.of_ext hX).trans (Mv.of_grown hg fun g hg'=>own_block_of hg')
 refine NSt.push hS hel hrow.1 (hE.trans' hX) hO4 hg hb ⟨Ao,co,none,0,?_,?_,⟨rfl,fun hh=>absurd hh (Nat.lt_irrefl _)⟩,fun a ha=>⟨a,ha,rfl⟩,fun a ha=>by cases ha⟩ (fun i ⟨a,ha,e⟩=>?_) hgpK
 ·unfold nodeV nd0;rw [nms_length,hm];rfl
 ·have h1:Reads w8 w8.heap.size 1 Ao (nms h.names).length (Qg (nms h.names)):=by
   rw [nms_length,← hm];exact Reads.of_own hOn
  exact Reads.mv h1 hmX fun a ha ⟨a2,ha2,e⟩=>by have:=hAK a2 ha2; have:=hin a ha; omega
 ·have:=hin a ha
  have h8:=hmX.size;have hx:=hX.size;have hw:=hS.mv.size;refine ⟨by omega,by omega,by omega,by omega⟩
def NodLoop (s:Sch) (wK:World) (gp gl gt cn:Nat) (An:Option Addr) (w:World) (A:Option Addr) (U:Nat→Prop) (h:TyH) (p:Nat→PtH) (t:Nat→Ty) (L:List NodeP) (k:Nat) (Ae:Option Addr) (ce:Nat) (wr:World):Prop :=
 ∃ A2 c2 U2,NSt wK gp gl gt s.n cn An wr A2 c2 (L ++ nd0 h :: s.kidsTo p t (L.length + 1) k) U2∧Mv (XN gp A) w wr∧(∀ a,A2=some a→A=some a∨w.heap.size≤a.block)∧(∀ i,U2 i→U i∨w.heap.size≤i) ∧
  wr.ownsRow w.heap.size 70 10 (.slice Ae k ce) k (edgeCells (Qa9 s L.length p t k))∧∀ a,Ae=some a→¬ XN gp A2 a.block∧¬ U2 a.block
section
variable {s:Sch} {wK w wr w5 w6 wX w7:World} {gp gl gt cn k ce ce':Nat} {An A A2 Ae Ae':Option Addr} {U U2:Nat→Prop} {h:TyH} {p:Nat→PtH} {t:Nat→Ty} {L:List NodeP}
theorem NodLoop.start {c4:Nat} {A4:Option Addr} {V:Nat→Prop} (h1:NSt wK gp gl gt s.n cn An wr A4 c4 (L ++ [nd0 h]) V) (hm:Mv (XN gp A) w wr) (hA:∀ a,A4=some a→A=some a∨w.heap.size≤a.block) (hU:∀ i,V i→U i∨w.heap.size≤i):NodLoop s wK gp gl gt cn An w A U h p t L 0 none 0 wr :=
 ⟨A4,c4,V,h1,hm,hA,hU,World.ownsRow_nil _ _ _ _,fun _ ha=>by cases ha⟩
theorem NodLoop.step {c2:Nat} (hgpK:gp < wK.heap.size) (hKw:wK.heap.size≤w.heap.size) (_h1:NSt wK gp gl gt s.n cn An wr A2 c2 (L ++ nd0 h :: s.kidsTo p t (L.length + 1) k) U2) (hm:Mv (XN gp A) w wr) (hA:∀ a,A2=some a→A=some a∨w.heap.size≤a.block) (hU:∀ i,U2 i→U i∨w.heap.size≤i)
  (hO:wr.ownsRow w.heap.size 70 10 (.slice Ae k ce) k (edgeCells (Qa9 s L.length p t k))) (hAe:∀ a,Ae=some a→¬ XN gp A2 a.block∧¬ U2 a.block)
  (hE5:Ext wr w5) (hN:NStep wK gp gl gt s.n cn An w5 A2 U2 (L ++ nd0 h :: s.kidsTo p t (L.length + 1) (k + 1)) w6) (hX:Ext w6 wX)
  (hO7:w7.ownsRow w.heap.size 70 10 (.slice Ae' (k + 1) ce') (k + 1) (edgeCells (Qa9 s L.length p t (k + 1)))) (hg:wX.grownBy w7 (Value.slice Ae k ce).ownBlock) (hb:Value.ownBlock (.slice Ae' (k + 1) ce')=(Value.slice Ae k ce).ownBlock∨Value.ownBlock (.slice Ae' (k + 1) ce')=some wX.heap.size) :
  NodLoop s wK gp gl gt cn An w A U h p t L (k + 1) Ae' ce' w7:=by
 obtain ⟨A3,c3,U3,n1,n2,n3,n4⟩:=hN;have hAin:=own_in hO;have hwr5:=hE5.size;have h56:=n2.size;have h6X:=hX.size;have hmX:Mv (fun i=>∃ a,Ae=some a∧a.block=i) wX w7:=Mv.of_grown hg fun g hg'=>own_block_of hg'
 have hm7:Mv (fun i=>∃ a,Ae=some a∧a.block=i) w6 w7:=(Mv.of_ext hX).trans hmX
 have hAe3:∀ a,Ae=some a→¬ XN gp A3 a.block∧¬ U3 a.block:=by
  intro a ha;have hlt:=(hAin a ha).2;refine ⟨fun hx=>?_,fun hu=>?_⟩
  ·rcases hx with hx | ⟨a3,ha3,e⟩
   ·exact (hAe a ha).1 (.inl hx)
   ·rcases n3 a3 ha3 with q | q
    ·exact (hAe a ha).1 (.inr ⟨a3,q,e⟩)
    ·omega
  ·rcases n4 _ hu with q | q
   ·exact (hAe a ha).2 q
   ·omega
 have hk:=n1.keep hm7 (fun i ⟨a,ha,e⟩=>by have:=(hAin a ha).1; omega) (fun ⟨a,ha,e⟩=>by have:=(hAin a ha).1; omega) (fun a3 ha3 ⟨a,ha,e⟩=>(hAe3 a ha).1 (.inr ⟨a3,ha3,e.symm⟩)) (fun i hi ⟨a,ha,e⟩=>(hAe3 a ha).2 (by rw [e]; exact hi))
 refine ⟨A3,c3,U3,hk,?_,fun a3 ha3=>?_,fun i hi=>?_,hO7,fun a ha=>?_⟩
 ·have h06:Mv (XN gp A) w w6:=(hm.ext hE5).trans' n2 (XN.trans hA);exact h06.trans' hm7 fun i hi _ ⟨a,ha,e⟩=>by have:=(hAin a ha).1; omega
 ·rcases n3 a3 ha3 with q | q
  ·exact hA a3 q
  ·right; have:=hm.size; omega
 ·rcases n4 i hi with q | q
  ·exact hU i q
  ·right; have:=hm.size; omega
 ·rcases hb with hb | hb
  ·rw [ha] at hb;obtain ⟨a2,ha2,e2⟩:=own_block_of (A:=Ae) (g:=a.block) (n:=k) (c:=ce) hb.symm;rw [← e2];exact hAe3 a2 ha2
  ·rw [ha] at hb;have e:a.block=wX.heap.size:=by simpa [Value.ownBlock] using hb
   refine ⟨fun hx=>?_,fun hu=>?_⟩
   ·rcases hx with hx | ⟨a3,ha3,e3⟩
    ·have:=hm.size; omega
    ·have:=(n1.ownA a3 ha3).2; omega
   ·have:=(n1.free _ hu).1; omega
theorem NodLoop.done {n cap g:Nat} (hk:h.kind≠9) (h1:NSt wK gp gl gt s.n cn An wr (some ⟨g,0,none⟩) cap (L ++ nd0 h :: s.kidsTo p t (L.length + 1) n) U2) (hm:Mv (XN gp A) w wr) (hA:∀ a,some (⟨g,0,none⟩:Addr)=some a→A=some a∨w.heap.size≤a.block) (hU:∀ i,U2 i→U i∨w.heap.size≤i)
  (hO:wr.ownsRow w.heap.size 70 10 (.slice Ae n ce) n (edgeCells (Qa9 s L.length p t n))) (hAe:∀ a,Ae=some a→¬ XN gp (some ⟨g,0,none⟩) a.block∧¬ U2 a.block) :
  NStep wK gp gl gt s.n cn An w A U (L ++ s.nodesOf (.mk h n p t) L.length) (wr.setCell ⟨g,L.length * 7 + 6,none⟩ (.slice Ae n ce)):=by
 have hme:L.length < (L ++ nd0 h :: s.kidsTo p t (L.length + 1) n).length:=by rw [List.length_append,List.length_cons]; omega
 have hget:(L ++ nd0 h :: s.kidsTo p t (L.length + 1) n)[L.length]'hme=nd0 h:=by simp
 have hin:=own_in hO;have hed:EdgesAt wr wr.heap.size Ae (Qa9 s L.length p t n):=by
  unfold EdgesAt;rw [Qc1];exact Reads.of_own hO
 have h2:=h1.edges (es:=Qa9 s L.length p t n) (Ae:=Ae) (ce:=ce) hme (by rw [hget]; rfl) hed (fun a ha=>⟨(hin a ha).2,fun e=>(hAe a ha).1 (.inl e),fun e=>(hAe a ha).1 (.inr ⟨_,rfl,e.symm⟩)⟩)
 rw [hget,Quv,Qc1] at h2;rw [Qra s h n p t L hk];refine ⟨_,_,_,h2,?_,hA,fun i hi=>?_⟩
 ·refine hm.set ?_ _;rcases hA _ rfl with q | q
  ·exact .inr (.inr ⟨_,q,rfl⟩)
  ·exact .inl q
 ·rcases hi with hi | ⟨a,ha,e⟩
  ·exact hU i hi
  ·right; rw [← e]; exact (hin a ha).1
end
set_option maxRecDepth 100000 in
theorem Qs3 (s:Sch) (w0 wK:World) (gb gl gp gt n3 c3 cn:Nat) (A3 An:Option Addr) (xs:List Value) (mm:Int) (hC:NCtx s w0 wK gb gl gp gt n3 c3 cn A3 An xs mm) (h:TyH) (n:Nat) (p:Nat→PtH) (t:Nat→Ty) (hk:h.kind≠9) (h64:n≤64) (hS:Qr (.mk h n p t)) (ih:∀ i,i < n→(p i).bare=false→Qiy s w0 wK gb gl gp gt cn An (t i)):Qiy s w0 wK gb gl gp gt cn An (.mk h n p t):=by
 intro w A c L U vs hst hlen hT;obtain ⟨Ai,ci,Ap,cp,rfl,hN,hPt⟩:=hT.open_;have hI:s.nodeI (.mk h n p t) L.length=L.length:=if_neg hk;rw [hI];obtain ⟨⟨hms,_⟩,_,_,hSz⟩:=hS;have hE0:=hC.old hst.mv;have HB:=hide (hC.bld hst.mv);have HP:=hide hst.plan;obtain ⟨HED,HRM,HNm,HPT,HE0,HST,HKW⟩:=Z7 (fun k (hkn:k < n) w1 A2 c2 L2 U2 vs (hs2:NSt wK gp gl gt s.n cn An w1 A2 c2 L2 U2) (hl2:(p k).bare=false→L2.length + nodC (t k)≤2000) (hpa:PartAt w0 w0.heap.size (p k) (t k) vs)=>edge_any s w0 wK gb gl gp gt n3 c3 cn A3 An xs mm hC (p k) (t k) (hSz k hkn).2.1 (hSz k hkn).2.2.1 w1 A2 c2 L2 U2 vs hs2 hl2 hpa (ih k hkn)) (fun k (hkn:k < n) (hb:(p k).bare=false)=>kids_room (s:=s) hk hlen hkn hb) (hN.ext hE0) hPt hE0 hst (hst.mv.size)
 have HGPK:=hide hC.hgpK;obtain ⟨HK9,HOLD,HBLD⟩:=Z3 hk (fun w' (hm:Mv (fun i=>i=gp) wK w')=>hC.old hm) (fun w' (hm:Mv (fun i=>i=gp) wK w')=>hC.bld hm)
 have HGBK:=hide (show gb < wK.heap.size from hC.hB.lt)
 have hl2:L.length≤2000:=by omega
 unfold tyV;obtain ⟨m,hm_⟩:=V1 (h.names.length);rw [← hm_] at hms ⊢;have HM:=hide hm_;have hk':(h.kind == 9)=false:=by simpa using hk
 have hgpw:gp < w.heap.size:=Nat.lt_of_lt_of_le hC.hgpK hst.mv.size;have hgbw:gb < w.heap.size:=(hC.bld hst.mv).lt;have hm0:=nZ m;have hn0:=nZ n;obtain ⟨w1,g1,hw1,hg1,Hw1,Hg1,hT1,hT1E⟩:=T0 w 29 #[.int .i64 h.kind,.int .i64 h.at_,.int .i64 h.lo,.int .i64 h.hi,.int .i64 h.most,.slice Ai m ci,.slice Ap n cp,.string h.name.1,.int .i64 h.name.2];obtain ⟨t0,t1,t2,t3,t4⟩:=X5 hT1;obtain ⟨w2,g2,hw2,hg2,Hw2,Hg2,hD,hDE⟩:=T0 w1 66 #[.int .i64 h.kind,.int .i64 h.at_,.int .i64 h.lo,.int .i64 h.hi,.int .i64 h.most,.slice none 0 0,.slice none 0 0];have Hg2':=hide (show g2=g1 + 1 by rw [hg2,hw1,World.size_alloc,← hg1])
 obtain ⟨HE1,HE2,HE12⟩:=Z3 hT1E (hT1E.trans' hDE) hDE;have b13:=(HB.out.ext hT1E).c13;have p1:=(HP.out.ext hT1E).cell 1;simp only [gA,gH,gS] at p1;obtain ⟨HT1,HT2,HD⟩:=Z3 hT1 (hT1.ext hDE) hD;have hg12:w.heap.size≤g1:=by omega
 have hg12':w1.heap.size≤g2:=by omega
 have hg22:w2.heap.size=g2 + 1:=by rw [hw2,World.size_alloc,hg2]
 have HG22:=hide hg22;clear hw1 hg1 hw2 hg2 hT1 hT1E hD hDE hC hst hI hSz hE0 hN hPt hT ih hm_ hk;go_enter Tryz.func36,Tryz.ntmps36
 go_upto_region 1 with fail
 rw [← Hw1.out,← Hg1.out];go_upto_region 6 with fail
 rw [← Hw2.out,← Hg2.out];obtain ⟨-,-,-,-,-,t5⟩:=X6 HT2.out;clear t0 t1 t2 t3 t4 b13 p1;go_wp2_with fail
 clear t5;go_loopw [63] (fun i wr=>∃ (k:Nat) (Ao:Option Addr) (co:Nat),k≤m∧i = .int .i64 (k:Int)∧Ext w1 wr∧Blk wr g2 66 #[.int .i64 h.kind,.int .i64 h.at_,.int .i64 h.lo,.int .i64 h.hi,.int .i64 h.most,.slice Ao k co,.slice none 0 0]∧wr.ownsRow (g2 + 1) 9 1 (.slice Ao k co) k (Qg ((nms h.names).take k))) (fun i _=>m - (intOf i).toNat)
 case atStart=>exact ⟨0,none,0,Nat.zero_le _,rfl,HE12.out,HD.out,World.ownsRow_nil _ _ _ _⟩
 case round =>
  obtain ⟨k,Ao,co,hk,rfl,hE,hB2,hO⟩:=hrel;by_cases hlt:k < m
  ·obtain ⟨b,o,rfl,hb,hc⟩:=HNm.out.cell (by have:=HM.out; omega)
   obtain ⟨q1',q2'⟩:=hc k (by have:=HM.out; omega)
   have hEw:=HE1.out.trans' hE;have q1:=(hEw.cell (p:=⟨b,o + k * 2,none⟩) hb).trans q1';have q2:=(hEw.cell (p:=⟨b,o + k * 2 + 1,none⟩) hb).trans q2';have hmo:=Qht h.names k (by have:=HM.out; omega)
   obtain ⟨x,hx,y,hy⟩:=V2 (wNm h.names k) (wPl h.names k);rw [← hx] at q1 hmo;rw [← hy] at q2;have HMO:=hide hmo;obtain ⟨w5,g5,hw5,hg5,Hw5,Hg5,hV,hVE⟩:=T0 wr 27 #[.string x,.int .i64 y];obtain ⟨v0,v1⟩:=X2 hV;obtain ⟨HE5,HO5,HD5⟩:=Z3 (hE.trans' hVE) (own_ext hO hVE) (hB2.ext hVE);obtain ⟨-,-,-,-,-,d5⟩:=X6 HD5.out;have i0:=nZ k;have i1:(k:Int) < (m:Int):=by omega
   have hs5:g2 + 1≤w5.heap.size:=by have:=HD5.out.lt; omega
   clear hE hB2 hO hc q1' q2' hEw hmo hx hy hw5 hg5 hV hVE hb;go_upto_region 9 with fail
   rw [← Hw5.out,← Hg5.out];clear q1 q2 v1;go_wp2_with (at_builtin; refine Qhx _ rfl _ _ rfl (g2 + 1) _ k ((nms h.names).take k) rfl w5.heap.size x _ rfl (HO5.out.alloc _) (reads_at _ _ _ _ rfl) (by omega) (by simp only [World.size_alloc]; omega) ?_)
   intro A6 c6 w6 hown6 hgrow6 _;have hE6:Ext w1 w6:=grown_ext' (w:=w1) (wr:=w5) (base:=g2 + 1) HE5.out ((Ext.rfl' w5).alloc nL _) hgrow6 HO5.out (by omega)
   have hD6:=Qej (HD5.out.alloc (.cells #[.string x] 9)) hgrow6 HO5.out (.inl (Nat.lt_succ_self g2));rw [← HMO.out] at hown6;obtain ⟨HE6,HO6,HD6⟩:=Z3 hE6 hown6 hD6;obtain ⟨-,-,-,-,-,e5⟩:=X6 hD6;have ef5:=hD6.free 5;clear hown6 hgrow6 hE6 hD6 v0 d5;go_wp2_with fail
   go_roundw
   case rel=>exact ⟨k + 1,A6,c6,by omega,by go_num,HE6.out.setCell (p:=⟨g2,5,none⟩) hg12' _,HD6.out.set_ 5 _,own_far HO6.out (fun e=>by have:=own_block HO6.out g2 e; omega) _⟩
   case measure=>simp [intOf]; omega
  ·obtain rfl:k=m:=by omega
   have htk:(nms h.names).take k=nms h.names:=List.take_of_length_le (by rw [nms_length,← HM.out]; exact Nat.le_refl _)
   rw [htk] at hO;have hEw:=HE1.out.trans' hE;obtain ⟨xs',hrow,hel⟩:=HST.out.row;have hbase8:w.heap.size≤g2 + 1:=by have:=HE1.out.size; omega
   have s1:=(HB.out.ext hEw).c13;have s2:=(HP.out.ext hEw).cell 1;simp only [gA,gH,gS] at s2;obtain ⟨w8,rfl⟩:=V1 (wr);obtain ⟨HEW,HON⟩:=Z2 hEw hO;have HVB:=hide (show ∀ i,(∃ a,Ao=some a∧a.block=i)→w.heap.size≤i from fun i ⟨a,ha,e⟩=>by have:=(own_in hO a ha).1; omega)
   obtain ⟨HROW,HEL,HD8,HT8⟩:=Z4 hrow hel hB2 (HT1.out.ext hE);have hsz8:w.heap.size≤w8.heap.size:=hEw.size;have HS8:=hide hsz8;clear htk hEw hO hrow hel hE hB2;go_upto_region 11 with fail
   rename_i Kz hKz
   refine Qax 12 14 (by kernel_rfl) (by kernel_rfl) (fun w'=>w'.cell? ⟨gb,13,none⟩=some (.pointer (some ⟨gp,0,none⟩))∧w'.cell? ⟨gp,1,none⟩=some (.slice A L.length c)∧Blk w' g2 66 #[.int .i64 h.kind,.int .i64 h.at_,.int .i64 h.lo,.int .i64 h.hi,.int .i64 h.most,.slice Ao k co,.slice none 0 0]) ⟨s1,s2,HD8.out.drewN 1⟩ ?_
   intro I _ f hf;have q13:=fun n=>(hf n).1
   have q1:=fun n=>(hf n).2.1
   have r0:∀ n,(f n).cell? ⟨g2,0,none⟩=some (.int .i64 h.kind):=fun n=>(hf n).2.2.cell 0
   have r1:∀ n,(f n).cell? ⟨g2,1,none⟩=some (.int .i64 h.at_):=fun n=>(hf n).2.2.cell 1
   have r2:∀ n,(f n).cell? ⟨g2,2,none⟩=some (.int .i64 h.lo):=fun n=>(hf n).2.2.cell 2
   have r3:∀ n,(f n).cell? ⟨g2,3,none⟩=some (.int .i64 h.hi):=fun n=>(hf n).2.2.cell 3
   have r4:∀ n,(f n).cell? ⟨g2,4,none⟩=some (.int .i64 h.most):=fun n=>(hf n).2.2.cell 4
   have r5:∀ n,(f n).cell? ⟨g2,5,none⟩=some (.slice Ao k co):=fun n=>(hf n).2.2.cell 5
   have r6:∀ n,(f n).cell? ⟨g2,6,none⟩=some (.slice none 0 0):=fun n=>(hf n).2.2.cell 6
   clear hf;simp only [List.take_succ_cons,List.take_zero,List.drop_succ_cons,List.drop_zero];repeat (go_big_quiet_step ((fail)))
   refine wpQuiet_nil ?_;clear q13 q1 r0 r1 r2 r3 r4 r5 r6;refine seqF_plain (by decide) rfl ?_
   intro K1 hK1;go_simp;have ha13:=(World.cell?_alloc_lt (w8.drew) (.cells #[.int .i64 h.kind,.int .i64 h.at_,.int .i64 h.lo,.int .i64 h.hi,.int .i64 h.most,.slice Ao k co,.slice none 0 0] 66) ⟨gb,13,none⟩ (by show gb < w8.heap.size; omega)).trans s1
   have ha1:=(World.cell?_alloc_lt (w8.drew) (.cells #[.int .i64 h.kind,.int .i64 h.at_,.int .i64 h.lo,.int .i64 h.hi,.int .i64 h.most,.slice Ao k co,.slice none 0 0] 66) ⟨gp,1,none⟩ (by show gp < w8.heap.size; omega)).trans s2
   have haD:=(HD8.out.drewN 1).alloc (.cells #[.int .i64 h.kind,.int .i64 h.at_,.int .i64 h.lo,.int .i64 h.hi,.int .i64 h.most,.slice Ao k co,.slice none 0 0] 66);refine hK1 _ _ ⟨ha13,ha1,haD⟩ ?_;refine seqF_plain (by decide) rfl ?_
   intro K2 hK2;obtain ⟨wX,hwX⟩:=V1 ((w8.alloc (.cells #[.int .i64 h.kind,.int .i64 h.at_,.int .i64 h.lo,.int .i64 h.hi,.int .i64 h.most,.slice Ao k co,.slice none 0 0] 66)).drew);have hEX:Ext w8 wX:=by rw [hwX]; exact Ext.drew' ((Ext.rfl' w8).alloc nL _)
   have hrd:Reads wX (w8.heap.size + 1) 7 (some ⟨w8.heap.size,0,none⟩) 1 [.int .i64 h.kind,.int .i64 h.at_,.int .i64 h.lo,.int .i64 h.hi,.int .i64 h.most,.slice Ao k co,.slice none 0 0]:=by rw [hwX]; exact Qa6 w8 66 [.int .i64 h.kind,.int .i64 h.at_,.int .i64 h.lo,.int .i64 h.hi,.int .i64 h.most,.slice Ao k co,.slice none 0 0] 7 rfl _ rfl
   have hsX:wX.heap.size=w8.heap.size + 1:=by rw [hwX]; exact World.size_alloc _ _
   rw [← hwX];refine Qji wX (.tmp 85) (.tmp 87) rfl wK.heap.size (.slice A L.length c) L.length xs' rfl (w8.heap.size + 1) (some ⟨w8.heap.size,0,none⟩) 1 [.int .i64 h.kind,.int .i64 h.at_,.int .i64 h.lo,.int .i64 h.hi,.int .i64 h.most,.slice Ao k co,.slice none 0 0] rfl (own_ext (own_ext HROW.out HEW.out) hEX) hrd (by intro u hu; simp at hu; rcases hu with rfl | rfl | rfl | rfl | rfl | rfl | rfl <;> rfl) (by omega) (by have:=HKW.out; omega) ?_
   intro A4 c4 w4 hown4 hgrow4 hob4;have hpush:=NSt.push_node HST.out HROW.out HEL.out HGPK.out HEW.out HON.out hbase8 HM.out hEX hown4 hgrow4 hob4;have hA4:=HST.out.ownA;have hX4:∀ i,w.heap.size≤i∧i < w8.heap.size∨i=gb∨i=gp→w4.heap[i]? = w8.heap[i]?:=fun i hi=>by
    have hnA:some i≠(Value.slice A L.length c).ownBlock:=fun e=>by
     obtain ⟨a,ha,e2⟩:=own_block_of e.symm;have:=hA4 a ha
     rcases hi with hi | hi | hi
     ·omega
     ·have hgbK:=HGBK.out; omega
     ·have:=HGPK.out; omega
    have hlt:i < w8.heap.size:=by rcases hi with hi | hi | hi <;> omega
    exact (hgrow4.block i (by omega) hnA).trans (hEX.block i hlt)
   have k13:w4.cell? ⟨gb,13,none⟩=some (.pointer (some ⟨gp,0,none⟩)):=(World.cell?_of_block (hX4 gb (.inr (.inl rfl)))).trans s1;have k1:w4.cell? ⟨gp,1,none⟩=some (.slice A L.length c):=(World.cell?_of_block (hX4 gp (.inr (.inr rfl)))).trans s2;have kD:Blk w4 g2 66 #[.int .i64 h.kind,.int .i64 h.at_,.int .i64 h.lo,.int .i64 h.hi,.int .i64 h.most,.slice Ao k co,.slice none 0 0]:=(hX4 g2 (.inl ⟨by have:=HE1.out.size; omega,HD8.out.lt⟩)).trans HD8.out
   have kT:Blk w4 g1 29 #[.int .i64 h.kind,.int .i64 h.at_,.int .i64 h.lo,.int .i64 h.hi,.int .i64 h.most,.slice Ai k ci,.slice Ap n cp,.string h.name.1,.int .i64 h.name.2]:=(hX4 g1 (.inl ⟨hg12,HT8.out.lt⟩)).trans HT8.out;have kP:Blk w4 gp 83 #[.pointer (some ⟨gl,0,none⟩),.slice A L.length c,.int .i64 0,.pointer (some ⟨gt,0,none⟩),.slice An s.n cn]:=(hX4 gp (.inr (.inr rfl))).trans (HP.out.ext HEW.out);have kf1:=kP.free 1;have hgg:gp≠g1:=by omega
   obtain ⟨HPUSH,HT4⟩:=Z2 hpush kT;clear hpush hA4 hX4 hown4 hgrow4 hob4 hEX hrd hsX hwX kT ha13 ha1 haD HEL HROW HON HD8 HT8;refine hK2 _ _ ⟨k13,k1,kD⟩ ?_;refine seqF_there (by decide) ?_
   clear k13 kD s1 s2 kP;go_wp2_with fail
   refine hKz _ _ ?_;obtain ⟨w9,hw9⟩:=V1 (w4.setCell ⟨gp,1,none⟩ (.slice A4 (L.length + 1) c4));have hpush:=HPUSH.out;have hT9:Blk w9 g1 29 #[.int .i64 h.kind,.int .i64 h.at_,.int .i64 h.lo,.int .i64 h.hi,.int .i64 h.most,.slice Ai k ci,.slice Ap n cp,.string h.name.1,.int .i64 h.name.2]:=by rw [hw9]; exact HT4.out.far (fun e=>hgg e.symm) _
   rw [← hw9] at hpush;obtain ⟨-,-,-,-,-,-,t6⟩:=X7 hT9;have hin8:=hbase8;have HL0:=hide (NodLoop.start (s:=s) (p:=p) (t:=t) (U:=U) (L:=L) (h:=h) hpush.1 hpush.2.1 hpush.2.2 (fun i hi=>by
    rcases hi with hi | hi
    ·exact .inl hi
    ·exact .inr (HVB.out i hi)))
   clear hpush HPUSH hT9 k1 kf1;rw [← hw9];clear hw9;go_wp2_with fail
   clear t6;go_loopw [94,11] (fun i v wx=>∃ (q:Nat) (Ae:Option Addr) (ce:Nat),q≤n∧i = .int .i64 (q:Int)∧v = .slice Ae q ce∧Hid (NodLoop s wK gp gl gt cn An w A U h p t L q Ae ce wx)) (fun i _ _=>n - (intOf i).toNat)
   case atStart=>exact ⟨0,none,0,Nat.zero_le _,rfl,rfl,HL0.out⟩
   case round =>
    obtain ⟨q,Ae,ce,hq,rfl,rfl,HL⟩:=hrel;obtain ⟨A2,c2,U2,n1,n2,n3,n4,n5,n6⟩:=HL.out;by_cases hlt2:q < n
    ·obtain ⟨b,o,rfl,hb,hc⟩:=HPT.out (by omega)
     obtain ⟨vs,h1,h2⟩:=hc q hlt2;have hEr:=HOLD.out wr n1.mv;have HR1:=hide (show wr.rangeAt b (o + q * 18) vs from fun j v hv=>(hEr.cell (p:=⟨b,o + q * 18 + j,none⟩) hb).trans (h1 j v hv))
     have HVL:=hide h2.len;have HVO:=hide h2.one;obtain ⟨w5,hw5,g5,hg5⟩:=V2 (wr.alloc (.cells vs.toArray 131)) (wr.heap.size);have hV:Blk w5 g5 131 vs.toArray:=by rw [hw5,hg5]; exact Blk.new _ _ _
     have hVE:Ext wr w5:=by rw [hw5]; exact (Ext.rfl' wr).alloc nL _
     have hed:=HED.out q hlt2 w5 A2 c2 _ U2 vs (n1.ext hVE) (fun hb=>HRM.out q hlt2 hb) h2
     rw [Qrb,Qhw,Sch.edgeX_eq] at hed;have HEDG:=hide hed;have hes:=Qe3 s L.length p t q;obtain ⟨EP,hEP⟩:=V1 (s.edgeP L.length p t q);rw [← hEP] at HEDG hes;obtain ⟨HES,HSTP,HN5,HVE,HV,HW5,HG5⟩:=Z7 hes (fun (w6 wX w7:World) (Ae':Option Addr) (ce':Nat) hN hX hO7 hg hb=>NodLoop.step (w6:=w6) (wX:=wX) (w7:=w7) (Ae':=Ae') (ce':=ce') HGPK.out HKW.out n1 n2 n3 n4 n5 n6 hVE hN hX hO7 hg hb) n5 hVE hV hw5 hg5
     have HWS:=hide n2.size;have i0:=nZ q;have i1:(q:Int) < (n:Int):=by omega
     have HXNA:=hide (fun (w6:World) (L':List NodeP) (hN:NStep wK gp gl gt s.n cn An w5 A2 U2 L' w6)=>(show w6.ownsRow w.heap.size 70 10 (.slice Ae q ce) q (edgeCells (Qa9 s L.length p t q)) from by
      obtain ⟨_,_,_,_,k2,_,_⟩:=hN;refine k2.own (own_ext n5 hVE) fun g hg=>?_
      obtain ⟨a,ha,e⟩:=own_block_of hg;rw [← e]; exact (n6 a ha).1))
     clear hc h1 h2 hEr hw5 hg5 hV hVE hed hes hEP n1 n2 n3 n4 n5 n6 hb HL;go_upto_region 15 with fail
     refine wp_region_lit ?_;refine wpList_plain rfl fun K3 hK3=>?_
     go_simp;refine hK3 _ _ ?_;refine wpList_load_mid rfl 131 _ rfl b (o + q * 18) rfl vs _ HR1.out Tryz.underlying131 rfl (infoPart' HVL.out) ?_;refine wpList_plain rfl fun K4 hK4=>?_
     go_simp;refine hK4 _ _ ?_;refine Qc rfl 131 _ _ rfl _ vs.toArray rfl rfl (Qan HVL.out) (by show _=vs.length; rw [HVL.out]; rfl) HVO.out ?_
     go_upto_region 16 with fail
     rw [← HW5.out,← HG5.out];refine wp_region_lit ?_;refine wpList_plain rfl fun K5 hK5=>?_
     go_simp;refine hK5 _ _ ?_;refine wpList_plain rfl fun K6 hK6=>?_
     go_simp;refine hK6 _ _ ?_;refine wpList_load_mid rfl 131 _ rfl g5 0 rfl vs _ (Qv HV.out) Tryz.underlying131 rfl (infoPart' HVL.out) ?_;refine wpList_plain rfl fun K7 hK7=>?_
     go_simp;refine HEDG.out.mono ?_;rintro e w6 ⟨rfl,hN6⟩;refine hK7 _ _ ?_;refine wpList_bsE rfl _ rfl EP rfl ?_;obtain ⟨wX,hwX⟩:=V1 (w6.alloc (.cells (edgeV EP).toArray 70));have hEX:Ext w6 wX:=by rw [hwX]; exact (Ext.rfl' w6).alloc nL _
     have hrd:Reads wX (w6.heap.size + 1) 10 (some ⟨w6.heap.size,0,none⟩) 1 (edgeV EP):=by rw [hwX]; exact Qa6 w6 70 (edgeV EP) 10 rfl _ rfl
     have hO6:=HXNA.out w6 _ hN6;have hs6:w.heap.size≤w6.heap.size:=Nat.le_trans (Nat.le_trans HWS.out HVE.out.size) (by obtain ⟨_,_,_,_,k2,_⟩:=hN6; exact k2.size)
     rw [← hwX];refine Qiz wX rfl _ _ rfl w.heap.size _ q (edgeCells (Qa9 s L.length p t q)) rfl (w6.heap.size + 1) (some ⟨w6.heap.size,0,none⟩) 1 (edgeV EP) rfl (own_ext hO6 hEX) hrd (Qj7 EP) (by omega) (by have:=hEX.size; omega) ?_
     intro A7 c7 w7 hown7 hgrow7 hob7;rw [← HES.out] at hown7;have HNEW:=hide (HSTP.out w6 wX w7 A7 c7 hN6 hEX hown7 hgrow7 hob7);clear hN6 hwX hEX hrd hO6 hs6 hown7 hgrow7 hob7;go_wp2_with fail
     go_roundw
     case rel=>exact ⟨q + 1,A7,c7,by omega,by go_num,rfl,HNEW.out⟩
     case measure=>simp [intOf]; omega
    ·obtain rfl:q=n:=by omega
     obtain ⟨xsr,hro,_⟩:=n1.row;have hlk:(L ++ nd0 h :: s.kidsTo p t (L.length + 1) q).length=L.length + 1 + (s.kidsTo p t (L.length + 1) q).length:=Qhw s h p t L q;obtain ⟨g,cap,hv,_,hgl⟩:=hro.form (by rw [hlk]; omega)
     injection hv with hv1 hv2 hv3
     subst hv1;subst hv3;have hx1:=hro.1;have hd:=hro.cellAt (L.length * 7 + 6) (by rw [hlk]; omega)
     have hdf:=hro.frozenAt (L.length * 7 + 6);rw [List.getElem?_eq_getElem (show L.length * 7 + 6 < xsr.length by rw [hx1,hlk]; omega)] at hd
     obtain ⟨u,hu⟩:=V1 (xsr[L.length * 7 + 6]'(by rw [hx1,hlk]; omega))
     rw [← hu] at hd;have b13:=(HBLD.out wr n1.mv).c13;obtain ⟨-,p1⟩:=X2 n1.plan;have HDONE:=hide (NodLoop.done HK9.out n1 n2 n3 n4 n5 n6);obtain ⟨N,hN⟩:=V1 ((L ++ nd0 h :: s.kidsTo p t (L.length + 1) q).length);rw [← hN] at p1 hlk;have j0:(0:Int)≤(L.length:Int):=by omega
     have j1:(L.length:Int) < (N:Int):=by omega
     clear n1 n2 n3 n4 n5 n6 HL hro hv2 hx1 hu hN hlk hgl;go_wp2_with fail
     go_ret
     exact ⟨rfl,HDONE.out⟩
theorem Qgg {f:Nat→Flt} {n:Nat} (h:((Qf (fun i=>Sch.optF (f i)) n).getD (0,0)).1=0):∀ i,i < n→(f i).1=0:=by
 cases hq:Qf (fun i=>Sch.optF (f i)) n with
 | none =>
  intro i hi;have:=firstOf_miss.1 hq i hi
  unfold Sch.optF at this;split at this
  ·assumption
  ·cases this
 | some x =>
  rw [hq] at h;obtain ⟨i,_,hx⟩:=List.exists_of_findSome?_eq_some hq;unfold Sch.optF at hx;split at hx
  ·cases hx
  ·injection hx with hx
   subst hx;exact absurd h (by assumption)
theorem Qj8 (s:Sch) (t:Ty) (h:(s.knownF t).1=0):s.knownF t=(0,0):=by
 cases t with
 | nil=>rfl
 | mk h' n p t =>
  rw [Sch.knownF_mk] at h ⊢;split at h
  ·cases h
  ·rename_i c
   rw [if_neg c];exact Qie (fun i x hx=>by unfold Sch.optF at hx; split at hx; cases hx; injection hx with hx; rw [← hx]; assumption) h
theorem Qnd {s:Sch} {p:Nat→PtH} {t:Nat→Ty} {i:Nat} (h:(s.partK p t i).1=0) (hb:(p i).bare=false):(s.knownF (t i)).1=0:=by
 unfold Sch.partK at h;split at h
 ·contradiction
 ·rw [if_neg (by rw [hb]; decide)] at h
  exact h
theorem Qs4 (s:Sch) (t:Ty):(s.knownF t).1=0→s.Known t:=by
 induction t with
 | nil=>intro _; trivial
 | mk h n p t ih =>
  intro hz;rw [Sch.knownF_mk] at hz;by_cases c:h.kind=9∧findL s.names h.name.1 < 0
  ·rw [if_pos c] at hz; cases hz
  ·rw [if_neg c] at hz;exact ⟨fun h9=>by have:=fun hh=>c ⟨h9,hh⟩; omega,fun i hi hb=>ih i (Qnd (Qgg (f:=s.partK p t) hz i hi) hb)⟩
theorem Qlw (f:Nat→Option Flt) (n:Nat):Qf f (n + 1)=match Qf f n with | some x=>some x | none=>f n:=by
 unfold Qf;rw [List.range_succ,List.findSome?_append];cases List.findSome? f (List.range n) with
 | some x=>rfl
 | none=>cases hn:f n <;> simp [hn]
theorem Qpb {f:Nat→Flt} (hz:∀ i,(f i).1=0→f i=(0,0)) (m:Int):∀ n,goTo (fun i m=>(f i,m)) n m=((Qf (fun i=>Sch.optF (f i)) n).getD (0,0),m):=by
 intro n;induction n with
 | zero=>rfl
 | succ n ih =>
  show (if (goTo (fun i m=>(f i,m)) n m).1.1≠0 then goTo (fun i m=>(f i,m)) n m else (f n,(goTo (fun i m=>(f i,m)) n m).2))=_
  rw [ih,Qlw];cases hq:Qf (fun i=>Sch.optF (f i)) n with
  | some x =>
   obtain ⟨i,_,hx⟩:=List.exists_of_findSome?_eq_some hq;have:x.1≠0:=by unfold Sch.optF at hx; split at hx; cases hx; injection hx with hx; rw [← hx]; assumption
   rw [if_pos (by simpa using this)]
  | none =>
   rw [if_neg (by simp)]
   show (f n,m)=((Sch.optF (f n)).getD (0,0),m)
   by_cases h0:(f n).1=0
   ·rw [show Sch.optF (f n)=none from if_pos h0,hz n h0]; rfl
   ·rw [show Sch.optF (f n)=some (f n) from if_neg h0]; rfl
theorem goTo_knowns (s:Sch) (m:Int):goTo (fun k m=>(s.knownF (s.all k),m)) (s.n + 1) m=(s.knownsF,m):=Qpb (f:=fun k=>s.knownF (s.all k)) (fun _i=>Qj8 s _) m (s.n + 1)
theorem Qgh {s:Sch} (h:s.knownsF.1=0):∀ i,i≤s.n→s.Known (s.all i):=fun i hi=>Qs4 s _ (Qgg (f:=fun k=>s.knownF (s.all k)) h i (by omega))
theorem Qlx {s:Sch} (h:(s.loopsF s.n).1=0):∀ i,i < s.n→∃ j,s.endK s.n i=some j:=by
 intro i hi;cases hj:s.endK s.n i with
 | some j=>exact ⟨j,rfl⟩
 | none =>
  exfalso
  unfold Sch.loopsF at h;cases hq:Qf (s.loopAt s.n) s.n with
  | none =>
   have:=firstOf_miss.1 hq i hi
   unfold Sch.loopAt at this;rw [hj,if_pos rfl] at this;cases this
  | some x =>
   rw [hq] at h;obtain ⟨k,_,hx⟩:=List.exists_of_findSome?_eq_some hq;unfold Sch.loopAt at hx;split at hx
   ·injection hx with hx; rw [← hx] at h; cases h
   ·cases hx
structure Sch.Good (s:Sch):Prop where
 lat:LatOk s
 lvl:GoodL s.ws s.os
 fine:s.Fine
 known:∀ i,i≤s.n→s.Known (s.all i)
 ends : ∀ i, i < s.n → ∃ j, s.endK s.n i = some j
theorem Qhy {s:Sch} {k:Nat} (h:(s.badK k).1=0):(wrongL s.ws s.os).1=0∧s.calledF.1=0∧s.rightF.1=0∧s.knownsF.1=0∧(s.loopsF k).1=0:=by
 unfold Sch.badK at h;by_cases c1:(wrongL s.ws s.os).1≠0
 ·rw [if_pos c1] at h; exact absurd h c1
 rw [if_neg c1] at h;by_cases c2:s.calledF.1≠0
 ·rw [if_pos c2] at h; exact absurd h c2
 rw [if_neg c2] at h;by_cases c3:s.rightF.1≠0
 ·rw [if_pos c3] at h; exact absurd h c3
 rw [if_neg c3] at h;by_cases c4:s.knownsF.1≠0
 ·rw [if_pos c4] at h; exact absurd h c4
 rw [if_neg c4] at h;exact ⟨by omega,by omega,by omega,by omega,h⟩
theorem Qhz {s:Sch} (hS:SchSz s) (h:(s.badK s.n).1=0):s.Good:=by
 obtain ⟨h1,h2,h3,h4,h5⟩:=Qhy h;exact ⟨Qln h1,Qgy h1,Sch.fine_of (fun i hi=>hS.all i hi) h2 h3,Qgh h4,Qlx h5⟩
theorem Qs5 (s:Sch) (w0 wK:World) (gb gl gp gt n3 c3 cn:Nat) (A3 An:Option Addr) (xs:List Value) (mm:Int) (hC:NCtx s w0 wK gb gl gp gt n3 c3 cn A3 An xs mm) (t:Ty):Fit t→Qr t→s.Known t→Qiy s w0 wK gb gl gp gt cn An t:=by
 induction t with
 | nil=>intro h; exact h.elim
 | mk h n p t ih =>
  intro hF hS hK;have hF':=hF;obtain ⟨_,_,h64,_,_,hFp⟩:=hF';by_cases hk:h.kind=9
  ·refine Qs2 s w0 wK gb gl gp gt n3 c3 cn A3 An xs mm hC h n p t hk (hK.1 hk) ?_;have hf:=hK.1 hk;rcases Nat.eq_zero_or_pos s.n with h0 | h0
   ·exfalso
    have hnm:s.names = []:=by unfold Sch.names; rw [h0]; rfl
    rw [hnm] at hf;exact absurd hf (by unfold findL; simp)
   ·exact h0
  ·exact Qs3 s w0 wK gb gl gp gt n3 c3 cn A3 An xs mm hC h n p t hk h64 hS fun i hi hb=>ih i ((hFp i hi).2 hb) (hS.2.2.2 i hi).2.2.2 (hK.2 i hi hb)
def PlanAt (w:World) (gp:Nat) (s:Sch):Prop :=
 ∃ gl gt A c An cn xs,Blk w gp 83 #[.pointer (some ⟨gl,0,none⟩),.slice A s.nodes.length c,.int .i64 (s.rootI:Nat),.pointer (some ⟨gt,0,none⟩),.slice An s.n cn]∧LatAt w gl s.ws s.os∧Reads w w.heap.size 7 A s.nodes.length xs∧∀ k (hk:k < s.nodes.length),ElAt w s.nodes[k] (fun i=>i < w.heap.size) ((xs.drop (k * 7)).take 7)
theorem PlanAt.ext {w w':World} {gp:Nat} {s:Sch} (h:PlanAt w gp s) (hE:Ext w w'):PlanAt w' gp s:=by
 obtain ⟨gl,gt,A,c,An,cn,xs,h1,h2,h3,h4⟩:=h;exact ⟨gl,gt,A,c,An,cn,xs,h1.ext hE,h2.ext hE,(Reads.keep h3 fun _ hp=>hE.cell hp).more hE.size,fun k hk=>(h4 k hk).mv (Mv.of_ext (X:=fun _=>False) hE) fun i hi=>⟨fun hh=>hh,Nat.lt_of_lt_of_le hi hE.size⟩⟩
theorem NSt.plan_at {s:Sch} {wK w w0:World} {gp gl gt cn c:Nat} {An A:Option Addr} {U:Nat→Prop} (h:NSt wK gp gl gt s.n cn An w A c s.nodes U) (hgpK:gp < wK.heap.size) (hE:Ext w0 w) (hgp:w0.heap.size≤gp) (hL:LatAt w0 gl s.ws s.os):PlanAt (w.setCell ⟨gp,2,none⟩ (.int .i64 (s.rootI:Nat))) gp s:=by
 obtain ⟨xs,hrow,hel⟩:=h.row;have hAK:=h.ownA;have hset:Mv (fun i=>i=gp) w (w.setCell ⟨gp,2,none⟩ (.int .i64 (s.rootI:Nat))):=(Mv.rfl' (fun i=>i=gp) w).set (.inr rfl) _
 have hw:=h.mv.size;refine ⟨gl,gt,A,c,An,cn,xs,h.plan.set_ 2 _,?_,?_,fun k hk=>?_⟩
 ·exact hL.ext (hE.setCell (p:=⟨gp,2,none⟩) hgp _)
 ·exact Reads.mv (Reads.of_own hrow) hset fun a ha e=>by have:=hAK a ha; omega
 ·exact (hel k hk).mv hset fun i hi=>⟨fun e=>(h.free i hi).2 (.inl e),by rw [size_setCell']; exact (h.free i hi).1⟩
def Qdo (s:Sch) (w:World) (e:Ending) (w':World):Prop :=
 ((s.badK s.n).1≠0∧e = .returned (.tuple #[.pointer none,fltV (s.badK s.n)])∧Ext w w') ∨
 ((s.badK s.n).1=0∧∃ gp,e = .returned (.tuple #[.pointer (some ⟨gp,0,none⟩),fltV (0,0)])∧PlanAt w' gp s∧Ext w w')
section
variable {s:Sch} {k:Nat}
theorem Qly (h:(wrongL s.ws s.os).1≠0):s.badK k=wrongL s.ws s.os:=if_pos h
theorem Qhl (h1:wrongL s.ws s.os=(0,0)) (h:s.calledF.1≠0):s.badK k=s.calledF:=by
 unfold Sch.badK; rw [if_neg (by rw [h1]; simp),if_pos h]
theorem Qi0 (h1:wrongL s.ws s.os=(0,0)) (h2:s.calledF.1=0) (h:s.rightF.1≠0):s.badK k=s.rightF:=by
 unfold Sch.badK; rw [if_neg (by rw [h1]; simp),if_neg (by rw [h2]; simp),if_pos h]
theorem Qi1 (h1:wrongL s.ws s.os=(0,0)) (h2:s.calledF.1=0) (h3:s.rightF.1=0) (h:s.knownsF.1≠0):s.badK k=s.knownsF:=by
 unfold Sch.badK; rw [if_neg (by rw [h1]; simp),if_neg (by rw [h2]; simp),if_neg (by rw [h3]; simp),if_pos h]
theorem Qdp (h1:wrongL s.ws s.os=(0,0)) (h2:s.calledF.1=0) (h3:s.rightF.1=0) (h4:s.knownsF.1=0):s.badK k=s.loopsF k:=by
 unfold Sch.badK; rw [if_neg (by rw [h1]; simp),if_neg (by rw [h2]; simp),if_neg (by rw [h3]; simp),if_neg (by rw [h4]; simp)]
end
theorem Qfh {s:Sch} (hf:s.Fine) {k:Nat} (hk:k≤s.n):(s.nodesTo k).length + nodC (s.all k)≤512:=by
 have h1:=Qa5 (f:=fun i=>Qz (s.all i)) (show k < s.n + 1 by omega)
 have h2:=hf.many;have h3:sumTo (fun i=>nodC (s.all i)) k≤sumTo (fun i=>Qz (s.all i)) k:=Qdz fun i _=>Qcu _
 have h4:=Qcu (s.all k);rw [Sch.nodesTo_length];omega
theorem Qrc {s:Sch} (h:s.calledF.1=0):s.n≤64:=by
 unfold Sch.calledF at h;rcases Nat.lt_or_ge 64 s.n with h1 | h1
 ·rw [if_pos h1] at h; cases h
 ·exact h1
theorem Qe4 (w:World) (g i j:Nat) (u v:Value):Mv (fun k=>k=g) w ((w.setCell ⟨g,i,none⟩ u).setCell ⟨g,j,none⟩ v):=((Mv.rfl' (fun k=>k=g) w).set (.inr rfl) u).set (.inr rfl) v
theorem Qb9 {w:World} {g:Nat} {t:TypeId} {a b u v:Value} (h:Blk w g t #[a,b]):Blk ((w.setCell ⟨g,0,none⟩ u).setCell ⟨g,1,none⟩ v) g t #[u,v]:=(h.set_ 0 u).set_ 1 v
theorem NSt.none {wK:World} {gp gl gt n cn:Nat} {An:Option Addr} (h:Blk wK gp 83 #[.pointer (some ⟨gl,0,none⟩),.slice none 0 0,.int .i64 0,.pointer (some ⟨gt,0,none⟩),.slice An n cn]):NSt wK gp gl gt n cn An wK none 0 [] (fun _=>False) :=
 ⟨Mv.rfl' _ _,h,⟨[],World.ownsRow_nil _ _ _ _,fun _k hk=>absurd hk (Nat.not_lt_zero _)⟩,fun _ hh=>hh.elim⟩
theorem NSt.next {wK w w':World} {gp gl gt n cn c:Nat} {An A:Option Addr} {L L':List NodeP} {U:Nat→Prop} (_:NSt wK gp gl gt n cn An w A c L U) (hN:NStep wK gp gl gt n cn An w A U L' w'):∃ A' c' U',NSt wK gp gl gt n cn An w' A' c' L' U':=by
 obtain ⟨A',c',U',h1,_⟩:=hN; exact ⟨A',c',U',h1⟩
set_option maxRecDepth 100000 in
theorem Qi2 (s:Sch) (vs:List Value) (w:World) (hS:SchAt w s vs) (hz:SchSz s):Calls Tryz.prog 10 #[.agg vs.toArray] w (Qdo s w):=by
 obtain ⟨A1,c1,A2,c2,A3,c3,vr,rfl,hA1,hA2,hA3,hR⟩:=hS;obtain ⟨y0,y1,y2,y3,y4,y5,y6,y7,y8,rfl⟩:∃ y0 y1 y2 y3 y4 y5 y6 y7 y8:Value,vr = [y0,y1,y2,y3,y4,y5,y6,y7,y8]:=by obtain ⟨y0,y1,y2,y3,y4,y5,y6,y7,y8,e⟩:=hR.nine; exact ⟨y0,y1,y2,y3,y4,y5,y6,y7,y8,e⟩
 obtain ⟨HLB,HNM,HRT,HSZ⟩:=Z4 (fun w1 (hE:Ext w w1)=>Qqh A1 c1 s.ws.length s.ws A2 c2 s.os.length s.os w1 (hA1.ext hE) hz.ws.2 rfl (hA2.ext hE) rfl) hA3 hR hz
 obtain ⟨nw,hnw,no,hno,n,hn⟩:=V3 (s.ws.length) (s.os.length) (s.n);rw [← hnw,← hno] at HLB;rw [← hn] at HNM;rw [← hnw,← hno,← hn];have HN:=hide hn;have hnb:n≤5864062014634:=by rw [hn]; exact hz.n
 clear hnw hno hn hA1 hA2 hA3 hR hz;show Calls Tryz.prog 10 #[.agg #[.slice A1 nw c1,.slice A2 no c2,.slice A3 n c3,y0,y1,y2,y3,y4,y5,y6,y7,y8]] w _
 obtain ⟨w1,g1,hw1,hg1,Hw1,Hg1,hS,hSE⟩:=T0 w 31 #[.slice A1 nw c1,.slice A2 no c2,.slice A3 n c3,y0,y1,y2,y3,y4,y5,y6,y7,y8];obtain ⟨w2,g3,hw2,hg3,Hw2,Hg3,hZ,hZE⟩:=T0 w1 34 #[.int .i64 0,.int .i64 0];have Hg3':=hide (show g3=g1 + 1 by rw [hg3,hw1,World.size_alloc,← hg1])
 have HE2:=hide (hSE.trans' hZE);have hlo3:w.heap.size≤g3:=by have:=hSE.size; omega
 obtain ⟨HS2,HZ2⟩:=Z2 (hS.ext hZE) hZ;obtain ⟨t0,t1⟩:=X2 HS2.out;clear hw1 hg1 hw2 hg3 hS hSE hZ hZE;go_enter Tryz.func10,Tryz.ntmps10
 go_upto_region 1 with fail
 rw [← Hw1.out,← Hg1.out,← Hw2.out,← Hg3'.out];go_wp2_with fail
 refine (HLB.out w2 HE2.out).mono ?_;clear t0 t1;rintro e w3 (⟨hne,rfl,hE3⟩ | ⟨hq,gl,rfl,hL3,hE3⟩)
 ·have HBK:=hide (Qly (s:=s) (k:=s.n) hne);obtain ⟨E,hE,A,hA⟩:=V2 ((wrongL s.ws s.os).1) ((wrongL s.ws s.os).2);have HF:=hide (show fltV (wrongL s.ws s.os) = .agg #[.int .i64 E,.int .i64 A] by rw [hE,hA]; rfl)
  have HF2:=hide (show wrongL s.ws s.os=(E,A) by rw [hE,hA])
  rw [HF.out];rw [← hE] at hne;have hxb:(E != 0)=true:=by rw [bne_iff_ne]; exact hne
  obtain ⟨w4,g5,hw4,hg5,Hw4,Hg5,hF,hFE⟩:=T0 w3 34 #[.int .i64 E,.int .i64 A];obtain ⟨HE4,HZ4,HNE⟩:=Z3 ((HE2.out.trans' hE3).trans' hFE) ((HZ2.out.ext hE3).ext hFE) hne;obtain ⟨u0,u1⟩:=X2 hF;obtain ⟨z0,z1⟩:=X2 HZ4.out;obtain ⟨f0,f1⟩:=Y2 HZ4.out;clear hw4 hg5 hF hFE hE3 hE hA hne;go_upto_region 2 with fail
  rw [← Hw4.out,← Hg5.out];go_wp2_with fail
  go_region
  go_wp2_with fail
  refine Ql (f:=(E,A)) (g:=g3) (v:=.pointer none) ((HZ4.out.set_ 0 _).set_ 1 _) rfl rfl rfl rfl (.inl ⟨by rw [HBK.out,HF2.out]; exact HNE.out,by rw [HBK.out,HF2.out],?_⟩)
  first
   | exact (HE4.out.setCell (p:=⟨g3,0,none⟩) hlo3 _).setCell (p:=⟨g3,1,none⟩) hlo3 _
   | exact Ext.drew' ((HE4.out.setCell (p:=⟨g3,0,none⟩) hlo3 _).setCell (p:=⟨g3,1,none⟩) hlo3 _)
   | exact ((Ext.drew' HE4.out).setCell (p:=⟨g3,0,none⟩) hlo3 _).setCell (p:=⟨g3,1,none⟩) hlo3 _
 ·obtain ⟨HQ,HL3,HE3,HS3,HZ3,HOK⟩:=Z6 hq hL3 (HE2.out.trans' hE3) (HS2.out.ext hE3) (HZ2.out.ext hE3) (Qln (s:=s) (by rw [hq]))
  rw [show fltV (0,0) = .agg #[.int .i64 0,.int .i64 0] from rfl]
  obtain ⟨w4,g5,hw4,hg5,Hw4,Hg5,hF,hFE⟩:=T0 w3 34 #[.int .i64 0,.int .i64 0];obtain ⟨w5,gp,hw5,hgp,Hw5,Hgp,hP,hPE⟩:=T0 w4 83 #[.pointer (some ⟨gl,0,none⟩),.slice none 0 0,.int .i64 0,.pointer none,.slice none 0 0];obtain ⟨w6,gb,hw6,hgb,Hw6,Hgb,hB,hBE⟩:=T0 w5 85 #[.slice A1 nw c1,.slice A2 no c2,.slice A3 n c3,y0,y1,y2,y3,y4,y5,y6,y7,y8,.pointer (some ⟨gl,0,none⟩),.pointer (some ⟨gp,0,none⟩),.int .i64 0];have hE36:Ext w3 w6:=(hFE.trans' hPE).trans' hBE;have hgp3:w3.heap.size≤gp:=by have:=hFE.size; omega
  have hgb3:w3.heap.size≤gb:=by have:=hFE.size; have:=hPE.size; omega
  have hg53:w3.heap.size≤g5:=by omega
  have hsz4:w4.heap.size=w3.heap.size + 1:=by rw [hw4,World.size_alloc]
  have hsz5:w5.heap.size=w4.heap.size + 1:=by rw [hw5,World.size_alloc]
  have hgbp:gb≠gp:=by omega
  have hgp5:gp≠g5:=by omega
  have hgb5:gb≠g5:=by omega
  have hBA:BldAt w6 gb A3 n c3 [y0,y1,y2,y3,y4,y5,y6,y7,y8] gl gp 0:=⟨.slice A1 nw c1,.slice A2 no c2,rfl,hB⟩;obtain ⟨HP6,HF6,HBA,HE36⟩:=Z4 (hP.ext hBE) ((hF.ext hPE).ext hBE) hBA hE36;have hS4:=HS3.out.ext hFE;have Hgb':=hide (show gb=gp + 1 by omega)
  obtain ⟨t0,t1,t2,t3,t4,t5,t6,t7,t8,t9,t10,t11⟩:=X12 hS4;obtain ⟨u0,u1⟩:=X2 hF;have hs6:w6.heap.size=gb + 1:=by rw [hw6,World.size_alloc,← hgb]
  clear hw4 hg5 hF hFE hw5 hgp hP hPE hw6 hgb hB hBE hE36 hBA hS4 hq hL3 hE3 hsz4 hsz5;go_upto_region 2 with fail
  rw [← Hw4.out,← Hg5.out];go_upto_region 5 with fail
  rw [← Hgp.out,← Hw5.out,← Hgb'.out,← Hw6.out];clear t0 t1 t2 t3 t4 t5 t6 t7 t8 t9 t10 t11 u0 u1;have hszn:∀ i,i < n→(s.nm i).1.size≤maxLen:=fun i hi=>HSZ.out.nm i (by have:=HN.out; omega)
  have HCALL:=hide (Qnc gb gl gp n c3 A3 [y0,y1,y2,y3,y4,y5,y6,y7,y8] 0 0 (.slice none 0 0) (.pointer none) (.slice none 0 0) s w6 HBA.out HN.out hszn HP6.out (HNM.out.ext (HE3.out.trans' HE36.out)));clear hszn;go_wp2_with fail
  refine HCALL.out.mono ?_;rintro e w7 ⟨rfl,hm7,hg7⟩;obtain ⟨HBA7,HE37,HF7,HG7⟩:=Z4 (HBA.out.mv hm7 (fun e=>hgbp e)) (hm7.below HE36.out (fun i e=>by rw [e]; exact hgp3)) (hm7.blk HF6.out (fun e=>hgp5 e.symm)) hg7
  clear hm7 hg7 HCALL;obtain ⟨Ew8,hEw8,Bw8,hBw8⟩:=V2 ((s.calledF).1) ((s.calledF).2);have HVw8:=hide (show fltV (s.calledF) = .agg #[.int .i64 Ew8,.int .i64 Bw8] by rw [hEw8,hBw8]; rfl)
  have HQw8:=hide (show s.calledF=(Ew8,Bw8) by rw [hEw8,hBw8])
  rw [HVw8.out];obtain ⟨u0,u1⟩:=X2 HF7.out;obtain ⟨v0,v1⟩:=Y2 HF7.out;obtain ⟨w8,hw8⟩:=V1 ((w7.setCell ⟨g5,0,none⟩ (.int .i64 Ew8)).setCell ⟨g5,1,none⟩ (.int .i64 Bw8));have HMw8:=hide (show Mv (fun i=>i=g5) w7 w8 by rw [hw8]; exact Qe4 _ _ _ _ _ _)
  have HFw8:=hide (show Blk w8 g5 34 #[.int .i64 Ew8,.int .i64 Bw8] by rw [hw8]; exact Qb9 HF7.out)
  have HE3w8:=hide (HMw8.out.below HE37.out (fun i e=>by rw [e]; exact hg53))
  clear hEw8 hBw8;go_upto_region 6 with fail
  rw [← hw8];clear hw8 u0 u1 v0 v1;obtain ⟨u0,u1⟩:=X2 HFw8.out;by_cases h0:Ew8=0
  rotate_left
  ·have hxb:(Ew8 != 0)=true:=by rw [bne_iff_ne]; exact h0
   have HNE:=hide h0;have HBK:=hide (show s.badK s.n=s.calledF from Qhl HQ.out (by rw [HQw8.out]; exact HNE.out))
   have HZb:=hide (HZ3.out.ext HE3w8.out);obtain ⟨z0,z1⟩:=X2 HZb.out;obtain ⟨f0,f1⟩:=Y2 HZb.out;have HEX:=hide (HE3.out.trans' HE3w8.out);clear h0;go_wp2_with fail
   go_region
   go_wp2_with fail
   refine Ql (f:=(Ew8,Bw8)) (g:=g3) (v:=.pointer none) ((HZb.out.set_ 0 _).set_ 1 _) rfl rfl rfl rfl (.inl ⟨by rw [HBK.out,HQw8.out]; exact HNE.out,by rw [HBK.out,HQw8.out],?_⟩)
   first
    | exact (HEX.out.setCell (p:=⟨g3,0,none⟩) hlo3 _).setCell (p:=⟨g3,1,none⟩) hlo3 _
    | exact Ext.drew' ((HEX.out.setCell (p:=⟨g3,0,none⟩) hlo3 _).setCell (p:=⟨g3,1,none⟩) hlo3 _)
    | exact ((Ext.drew' HEX.out).setCell (p:=⟨g3,0,none⟩) hlo3 _).setCell (p:=⟨g3,1,none⟩) hlo3 _
  have hxb:(Ew8 != 0)=false:=by simpa using h0
  have HZw8:=hide (show (s.calledF).1=0 by rw [HQw8.out]; exact h0)
  clear h0;obtain ⟨gt,hP7,hT7⟩:=HG7.out HZw8.out;obtain ⟨HP7,HT7⟩:=Z2 hP7 hT7;have hg5l:g5 < w6.heap.size:=HF6.out.lt;have hgbl:gb < w6.heap.size:=HBA.out.lt;have hgpl:gp < w6.heap.size:=HP6.out.lt;have h64:n≤64:=by rw [HN.out]; exact Qrc HZw8.out
  obtain ⟨HN3,HR3⟩:=Z2 (HNM.out.ext HE3.out) (HRT.out.ext HE3.out);clear hP7 hT7 HG7;obtain ⟨HBA8,HP8,HT8⟩:=Z3 (HBA7.out.mv HMw8.out hgb5) (HMw8.out.blk HP7.out hgp5) (HT7.out.mv HMw8.out (fun i hi e=>by omega))
  have hea:Calls Tryz.prog 31 #[.pointer (some ⟨gb,0,none⟩),.func (.func 32) #[.pointer (some ⟨gb,0,none⟩)] #[]] w8 (fun e w'=>e = .returned (fltV s.rightF)∧(∃ m,BldAt w' gb A3 n c3 [y0,y1,y2,y3,y4,y5,y6,y7,y8] gl gp m)∧Mv (fun i=>i=gb) w8 w') :=
   (Qo8 s.rightG gb gl gp n c3 A3 [y0,y1,y2,y3,y4,y5,y6,y7,y8] 0 s w3 w8 HBA8.out HN.out h64 HE3w8.out hgb3 HN3.out HR3.out (fun k hk m w1 vs hb hm ht=>by
    rw [Qs0];exact Qq4 gb gl gp n c3 A3 _ m (s.all k) w1 vs hb ht (HSZ.out.all k (by have:=HN.out; omega)))).mono (by
    rintro e w' ⟨rfl,h1,h2⟩;exact ⟨by rw [HN.out]; rfl,⟨_,h1⟩,h2⟩)
  have HEA:=hide hea;clear hea;go_upto_region 8 with fail
  go_wp2_with fail
  refine HEA.out.mono ?_;rintro e w9 ⟨rfl,⟨m9,hb9⟩,hm9⟩;obtain ⟨HBA9,HM9,HP9,HT9,HE39,HF9⟩:=Z6 hb9 hm9 (hm9.blk HP8.out (fun e=>hgbp e.symm)) (HT8.out.mv hm9 (fun i hi e=>by omega)) (hm9.below HE3w8.out (fun i e=>by rw [e]; exact hgb3)) (hm9.blk HFw8.out (fun e=>hgb5 e.symm))
  clear hb9 hm9 HEA;obtain ⟨Ew10,hEw10,Bw10,hBw10⟩:=V2 ((s.rightF).1) ((s.rightF).2);have HVw10:=hide (show fltV (s.rightF) = .agg #[.int .i64 Ew10,.int .i64 Bw10] by rw [hEw10,hBw10]; rfl)
  have HQw10:=hide (show s.rightF=(Ew10,Bw10) by rw [hEw10,hBw10])
  rw [HVw10.out];obtain ⟨u0,u1⟩:=X2 HF9.out;obtain ⟨v0,v1⟩:=Y2 HF9.out;obtain ⟨w10,hw10⟩:=V1 ((w9.setCell ⟨g5,0,none⟩ (.int .i64 Ew10)).setCell ⟨g5,1,none⟩ (.int .i64 Bw10));have HMw10:=hide (show Mv (fun i=>i=g5) w9 w10 by rw [hw10]; exact Qe4 _ _ _ _ _ _)
  have HFw10:=hide (show Blk w10 g5 34 #[.int .i64 Ew10,.int .i64 Bw10] by rw [hw10]; exact Qb9 HF9.out)
  have HE3w10:=hide (HMw10.out.below HE39.out (fun i e=>by rw [e]; exact hg53))
  clear hEw10 hBw10;go_upto_region 9 with fail
  rw [← hw10];clear hw10 u0 u1 v0 v1;obtain ⟨u0,u1⟩:=X2 HFw10.out;by_cases h0:Ew10=0
  rotate_left
  ·have hxb:(Ew10 != 0)=true:=by rw [bne_iff_ne]; exact h0
   have HNE:=hide h0;have HBK:=hide (show s.badK s.n=s.rightF from Qi0 HQ.out HZw8.out (by rw [HQw10.out]; exact HNE.out))
   have HZb:=hide (HZ3.out.ext HE3w10.out);obtain ⟨z0,z1⟩:=X2 HZb.out;obtain ⟨f0,f1⟩:=Y2 HZb.out;have HEX:=hide (HE3.out.trans' HE3w10.out);clear h0;go_wp2_with fail
   go_region
   go_wp2_with fail
   refine Ql (f:=(Ew10,Bw10)) (g:=g3) (v:=.pointer none) ((HZb.out.set_ 0 _).set_ 1 _) rfl rfl rfl rfl (.inl ⟨by rw [HBK.out,HQw10.out]; exact HNE.out,by rw [HBK.out,HQw10.out],?_⟩)
   first
    | exact (HEX.out.setCell (p:=⟨g3,0,none⟩) hlo3 _).setCell (p:=⟨g3,1,none⟩) hlo3 _
    | exact Ext.drew' ((HEX.out.setCell (p:=⟨g3,0,none⟩) hlo3 _).setCell (p:=⟨g3,1,none⟩) hlo3 _)
    | exact ((Ext.drew' HEX.out).setCell (p:=⟨g3,0,none⟩) hlo3 _).setCell (p:=⟨g3,1,none⟩) hlo3 _
  have hxb:(Ew10 != 0)=false:=by simpa using h0
  have HZw10:=hide (show (s.rightF).1=0 by rw [HQw10.out]; exact h0)
  clear h0;obtain ⟨HBA10,HP10,HT10,HFI⟩:=Z4 (HBA9.out.mv HMw10.out hgb5) (HMw10.out.blk HP9.out hgp5) (HT9.out.mv HMw10.out (fun i hi e=>by omega)) (Sch.fine_of (s:=s) (fun i hi=>HSZ.out.all i hi) HZw8.out HZw10.out)
  have hek:Calls Tryz.prog 31 #[.pointer (some ⟨gb,0,none⟩),.func (.func 33) #[.pointer (some ⟨gb,0,none⟩)] #[]] w10 (fun e w'=>e = .returned (fltV s.knownsF)∧(∃ m,BldAt w' gb A3 n c3 [y0,y1,y2,y3,y4,y5,y6,y7,y8] gl gp m)∧Mv (fun i=>i=gb) w10 w') :=
   (Qo9 (fun k m=>(s.knownF (s.all k),m)) gb gl gp n c3 A3 [y0,y1,y2,y3,y4,y5,y6,y7,y8] m9 s w3 w10 HBA10.out HN.out h64 HE3w10.out hgb3 HN3.out HR3.out (fun k hk m w1 vs hb hm ht=>by
    have hE1:=hm.below HE3w10.out (fun i e=>by rw [e]; exact hgb3)
    refine (Qq7 gb gl gp gt n c3 A3 _ m 0 (.slice none 0 0) (.slice none 0 0) s w1 hb (hm.blk HP10.out (fun e=>hgbp e.symm)) (HT10.out.mv hm (fun i hi e=>by omega)).tab (HL3.out.ext hE1) HOK.out HFI.out.few (s.all k) (HFI.out.fit k (by have:=HN.out; omega)) (HSZ.out.all k (by have:=HN.out; omega)) w1 vs (Ext.rfl' _) ht).mono ?_
    rintro e w' ⟨rfl,h2⟩;exact ⟨rfl,hb.ext h2,Mv.of_ext h2⟩)).mono (by
    rintro e w' ⟨rfl,h1,h2⟩;exact ⟨by rw [HN.out,goTo_knowns],⟨_,h1⟩,h2⟩)
  have HEK:=hide hek;clear hek;go_upto_region 11 with fail
  go_wp2_with fail
  refine HEK.out.mono ?_;rintro e w11 ⟨rfl,⟨m11,hb11⟩,hm11⟩;obtain ⟨HBA11,HM11,HP11,HT11,HE311,HF11⟩:=Z6 hb11 hm11 (hm11.blk HP10.out (fun e=>hgbp e.symm)) (HT10.out.mv hm11 (fun i hi e=>by omega)) (hm11.below HE3w10.out (fun i e=>by rw [e]; exact hgb3)) (hm11.blk HFw10.out (fun e=>hgb5 e.symm))
  clear hb11 hm11 HEK;obtain ⟨Ew12,hEw12,Bw12,hBw12⟩:=V2 ((s.knownsF).1) ((s.knownsF).2);have HVw12:=hide (show fltV (s.knownsF) = .agg #[.int .i64 Ew12,.int .i64 Bw12] by rw [hEw12,hBw12]; rfl)
  have HQw12:=hide (show s.knownsF=(Ew12,Bw12) by rw [hEw12,hBw12])
  rw [HVw12.out];obtain ⟨u0,u1⟩:=X2 HF11.out;obtain ⟨v0,v1⟩:=Y2 HF11.out;obtain ⟨w12,hw12⟩:=V1 ((w11.setCell ⟨g5,0,none⟩ (.int .i64 Ew12)).setCell ⟨g5,1,none⟩ (.int .i64 Bw12));have HMw12:=hide (show Mv (fun i=>i=g5) w11 w12 by rw [hw12]; exact Qe4 _ _ _ _ _ _)
  have HFw12:=hide (show Blk w12 g5 34 #[.int .i64 Ew12,.int .i64 Bw12] by rw [hw12]; exact Qb9 HF11.out)
  have HE3w12:=hide (HMw12.out.below HE311.out (fun i e=>by rw [e]; exact hg53))
  clear hEw12 hBw12;go_upto_region 12 with fail
  rw [← hw12];clear hw12 u0 u1 v0 v1;obtain ⟨u0,u1⟩:=X2 HFw12.out;by_cases h0:Ew12=0
  rotate_left
  ·have hxb:(Ew12 != 0)=true:=by rw [bne_iff_ne]; exact h0
   have HNE:=hide h0;have HBK:=hide (show s.badK s.n=s.knownsF from Qi1 HQ.out HZw8.out HZw10.out (by rw [HQw12.out]; exact HNE.out))
   have HZb:=hide (HZ3.out.ext HE3w12.out);obtain ⟨z0,z1⟩:=X2 HZb.out;obtain ⟨f0,f1⟩:=Y2 HZb.out;have HEX:=hide (HE3.out.trans' HE3w12.out);clear h0;go_wp2_with fail
   go_region
   go_wp2_with fail
   refine Ql (f:=(Ew12,Bw12)) (g:=g3) (v:=.pointer none) ((HZb.out.set_ 0 _).set_ 1 _) rfl rfl rfl rfl (.inl ⟨by rw [HBK.out,HQw12.out]; exact HNE.out,by rw [HBK.out,HQw12.out],?_⟩)
   first
    | exact (HEX.out.setCell (p:=⟨g3,0,none⟩) hlo3 _).setCell (p:=⟨g3,1,none⟩) hlo3 _
    | exact Ext.drew' ((HEX.out.setCell (p:=⟨g3,0,none⟩) hlo3 _).setCell (p:=⟨g3,1,none⟩) hlo3 _)
    | exact ((Ext.drew' HEX.out).setCell (p:=⟨g3,0,none⟩) hlo3 _).setCell (p:=⟨g3,1,none⟩) hlo3 _
  have hxb:(Ew12 != 0)=false:=by simpa using h0
  have HZw12:=hide (show (s.knownsF).1=0 by rw [HQw12.out]; exact h0)
  clear h0;obtain ⟨HBA12,HP12,HT12⟩:=Z3 (HBA11.out.mv HMw12.out hgb5) (HMw12.out.blk HP11.out hgp5) (HT11.out.mv HMw12.out (fun i hi e=>by omega))
  have HLO:=hide (Qq0 gb gl gp gt n c3 A3 [y0,y1,y2,y3,y4,y5,y6,y7,y8] m11 0 (.slice none 0 0) (.slice none 0 0) s w12 HBA12.out HN.out (by omega) HP12.out HT12.out.tab (HN3.out.ext HE3w12.out))
  go_upto_region 14 with fail
  go_wp2_with fail
  refine HLO.out.mono ?_;rintro e w13 ⟨rfl,hE13⟩;obtain ⟨HBA13,HP13,HT13,HE313,HF13⟩:=Z5 (HBA12.out.ext hE13) (HP12.out.ext hE13) (HT12.out.mv (Mv.of_ext (X:=fun _=>False) hE13) (fun _ _ hh=>hh)) (HE3w12.out.trans' hE13) (HFw12.out.ext hE13)
  clear hE13 HLO;obtain ⟨Ew14,hEw14,Bw14,hBw14⟩:=V2 ((s.loopsF s.n).1) ((s.loopsF s.n).2);have HVw14:=hide (show fltV (s.loopsF s.n) = .agg #[.int .i64 Ew14,.int .i64 Bw14] by rw [hEw14,hBw14]; rfl)
  have HQw14:=hide (show s.loopsF s.n=(Ew14,Bw14) by rw [hEw14,hBw14])
  rw [HVw14.out];obtain ⟨u0,u1⟩:=X2 HF13.out;obtain ⟨v0,v1⟩:=Y2 HF13.out;obtain ⟨w14,hw14⟩:=V1 ((w13.setCell ⟨g5,0,none⟩ (.int .i64 Ew14)).setCell ⟨g5,1,none⟩ (.int .i64 Bw14));have HMw14:=hide (show Mv (fun i=>i=g5) w13 w14 by rw [hw14]; exact Qe4 _ _ _ _ _ _)
  have HFw14:=hide (show Blk w14 g5 34 #[.int .i64 Ew14,.int .i64 Bw14] by rw [hw14]; exact Qb9 HF13.out)
  have HE3w14:=hide (HMw14.out.below HE313.out (fun i e=>by rw [e]; exact hg53))
  clear hEw14 hBw14;go_upto_region 15 with fail
  rw [← hw14];clear hw14 u0 u1 v0 v1;obtain ⟨u0,u1⟩:=X2 HFw14.out;by_cases h0:Ew14=0
  rotate_left
  ·have hxb:(Ew14 != 0)=true:=by rw [bne_iff_ne]; exact h0
   have HNE:=hide h0;have HBK:=hide (show s.badK s.n=s.loopsF s.n from Qdp HQ.out HZw8.out HZw10.out HZw12.out)
   have HZb:=hide (HZ3.out.ext HE3w14.out);obtain ⟨z0,z1⟩:=X2 HZb.out;obtain ⟨f0,f1⟩:=Y2 HZb.out;have HEX:=hide (HE3.out.trans' HE3w14.out);clear h0;go_wp2_with fail
   go_region
   go_wp2_with fail
   refine Ql (f:=(Ew14,Bw14)) (g:=g3) (v:=.pointer none) ((HZb.out.set_ 0 _).set_ 1 _) rfl rfl rfl rfl (.inl ⟨by rw [HBK.out,HQw14.out]; exact HNE.out,by rw [HBK.out,HQw14.out],?_⟩)
   first
    | exact (HEX.out.setCell (p:=⟨g3,0,none⟩) hlo3 _).setCell (p:=⟨g3,1,none⟩) hlo3 _
    | exact Ext.drew' ((HEX.out.setCell (p:=⟨g3,0,none⟩) hlo3 _).setCell (p:=⟨g3,1,none⟩) hlo3 _)
    | exact ((Ext.drew' HEX.out).setCell (p:=⟨g3,0,none⟩) hlo3 _).setCell (p:=⟨g3,1,none⟩) hlo3 _
  have hxb:(Ew14 != 0)=false:=by simpa using h0
  have HZw14:=hide (show (s.loopsF s.n).1=0 by rw [HQw14.out]; exact h0)
  clear h0;obtain ⟨HBA14,HP14,HT14⟩:=Z3 (HBA13.out.mv HMw14.out hgb5) (HMw14.out.blk HP13.out hgp5) (HT13.out.mv HMw14.out (fun i hi e=>by omega))
  go_upto_region 17 with fail
  have HPL:=hide (Qo6 gb gl gp gt n c3 A3 [y0,y1,y2,y3,y4,y5,y6,y7,y8] m11 0 (.slice none 0 0) s w3 w14 HBA14.out HN.out HFI.out HP14.out (HT14.out.more (fun i hi=>by omega)) HE3w14.out hgp3 HN3.out (fun i hi=>HSZ.out.ty i (by have:=HN.out; omega)) (fun i hi=>by rw [HN.out]; exact Qlx HZw14.out i (by have:=HN.out; omega)))
  go_wp2_with fail
  refine HPL.out.mono ?_;rintro e w15 ⟨rfl,hm15,An,cn,hP15,hNa15,hAn15⟩;have hE315:=hm15.below HE3w14.out (fun i e=>by rw [e]; exact hgp3)
  have hBA15:=HBA14.out.mv hm15 hgbp;have hT15:=HT14.out.mv hm15 (fun i hi e=>by omega)
  rw [HN.out] at hP15 hNa15;have hC:NCtx s w3 w15 gb gl gp gt n c3 cn A3 An [y0,y1,y2,y3,y4,y5,y6,y7,y8] m11:=⟨hBA15,hgbp,hE315,hgp3,hP15.lt,HL3.out,HOK.out,hT15.more (fun i hi=>by omega),hNa15,fun a ha e=>by have:=hAn15 a ha; have:=HP14.out.lt; omega,HFI.out.few⟩
  obtain ⟨HND,HN0,HC⟩:=Z3 (fun k (hk:k≤n)=>Qs5 s w3 w15 gb gl gp gt n c3 cn A3 An [y0,y1,y2,y3,y4,y5,y6,y7,y8] m11 hC (s.all k) (HFI.out.fit k (by have:=HN.out; omega)) (HSZ.out.all k (by have:=HN.out; omega)) (Qgh HZw12.out k (by have:=HN.out; omega))) (NSt.none hP15) hC
  have HPK:=hide hP15.lt;obtain ⟨HE315,HRM⟩:=Z2 hE315 (fun k (hk:k≤n)=>Qfh HFI.out (k:=k) (by have:=HN.out; omega))
  have hn0:=nZ n;have r2:=(HS3.out.ext hE315).cell 2;simp only [gA,gH,gS] at r2;clear hm15 hP15 hNa15 hAn15 hE315 hBA15 hT15 hC HPL u0 u1;go_wp2_with fail
  clear r2;go_loopw [61] (fun i wr=>∃ k:Nat,k≤n∧i = .int .i64 (k:Int)∧Hid (∃ A c U,NSt w15 gp gl gt s.n cn An wr A c (s.nodesTo k) U)) (fun i _=>n - (intOf i).toNat)
  case atStart=>exact ⟨0,Nat.zero_le _,rfl,⟨none,0,_,HN0.out⟩⟩
  case round =>
   obtain ⟨k,hk,rfl,HS⟩:=hrel;obtain ⟨A,c,U,hst⟩:=HS.out;by_cases hlt:k < n
   ·obtain ⟨b,o,rfl,hb,hc⟩:=HN3.out (by omega)
    obtain ⟨vt,h1,h2⟩:=hc k hlt;obtain ⟨z0,z1,z2,z3,z4,z5,z6,z7,z8,rfl⟩:∃ z0 z1 z2 z3 z4 z5 z6 z7 z8:Value,vt = [z0,z1,z2,z3,z4,z5,z6,z7,z8]:=by obtain ⟨y0,y1,y2,y3,y4,y5,y6,y7,y8,e⟩:=h2.nine; exact ⟨y0,y1,y2,y3,y4,y5,y6,y7,y8,e⟩
    have hEr:=HC.out.old hst.mv;have HRG:=hide (show wr.rangeAt b (o + k * 11) [.string (s.nm k).1,.int .i64 (s.nm k).2,z0,z1,z2,z3,z4,z5,z6,z7,z8] from fun j v hv=>(hEr.cell (p:=⟨b,o + k * 11 + j,none⟩) hb).trans (h1 j v hv))
    obtain ⟨x,hx,y,hy⟩:=V2 ((s.nm k).1) ((s.nm k).2);rw [← hx,← hy] at HRG;have HZO:=hide (show (#[.string x,.int .i64 y,z0,z1,z2,z3,z4,z5,z6,z7,z8]:Array Value).all (·.oneCell')=true by obtain ⟨h',n',A',c',A2',c2',e⟩:=h2.form; unfold tyV at e; injection e with e0 e; injection e with e1 e; injection e with e2 e; injection e with e3 e; injection e with e4 e; injection e with e5 e; injection e with e6 e; injection e with e7 e; injection e with e8 e; subst e0; subst e1; subst e2; subst e3; subst e4; subst e5; subst e6; subst e7; subst e8; simp [Value.oneCell'])
    obtain ⟨w16,g8,hw16,hg8,Hw16,Hg8,hV,hVE⟩:=T0 wr 90 #[.string x,.int .i64 y,z0,z1,z2,z3,z4,z5,z6,z7,z8];obtain ⟨-,-,v2,v3,v4,v5,v6,v7,v8,v9,v10⟩:=X11 hV;have hnode:=HND.out k hk w16 A c (s.nodesTo k) U [z0,z1,z2,z3,z4,z5,z6,z7,z8] (hst.ext hVE) (by have:=HRM.out k hk; omega) (by rw [Sch.all_lt (by have:=HN.out; omega)]; exact h2)
    rw [← Sch.nodesTo_succ] at hnode;obtain ⟨HNO,HST⟩:=Z2 hnode (hst.ext hVE);have i0:=nZ k;have i1:(k:Int) < (n:Int):=by omega
    clear hc h1 h2 hEr hx hy hw16 hg8 hV hVE hnode hst HS hb;go_upto_region 20 with fail
    refine wp_region_lit ?_;refine wpList_plain rfl fun K0 hK0=>?_
    go_simp;refine hK0 _ _ ?_;refine wpList_load_mid rfl 90 _ rfl b (o + k * 11) rfl _ _ HRG.out Tryz.underlying90 rfl Qa2 ?_;refine wpList_plain rfl fun K0 hK0=>?_
    go_simp;refine hK0 _ _ ?_;refine Qc rfl 90 _ _ rfl _ #[.string x,.int .i64 y,z0,z1,z2,z3,z4,z5,z6,z7,z8] rfl rfl Qa2 rfl HZO.out ?_;go_upto_region 21 with fail
    rw [← Hw16.out,← Hg8.out];go_wp2_with fail
    refine HNO.out.mono ?_;rintro e w17 ⟨rfl,hN17⟩;have HNX:=hide (NSt.next HST.out hN17);clear hN17 v2 v3 v4 v5 v6 v7 v8 v9 v10;go_wp2_with fail
    go_roundw
    case rel=>exact ⟨k + 1,by omega,by go_num,HNX.out⟩
    case measure=>simp [intOf]; omega
   ·obtain rfl:k=n:=by omega
    have hroot:s.all k=s.root:=by rw [HN.out]; exact Sch.all_end s
    have hR4:=HR3.out;have hnode:=fun w1 (hE:Ext wr w1)=>HND.out k nL w1 A c (s.nodesTo k) U [y0,y1,y2,y3,y4,y5,y6,y7,y8] (hst.ext hE) (by have:=HRM.out k nL; omega) (by rw [hroot]; exact hR4)
    rw [← Sch.nodesTo_succ,hroot] at hnode;have hI:s.nodeI s.root (s.nodesTo k).length=s.rootI:=by rw [HN.out]; rfl
    have hNd:s.nodesTo (k + 1)=s.nodes:=by rw [HN.out]; rfl
    rw [hI,hNd] at hnode;have HNO:=hide hnode;have hEw:=HC.out.old hst.mv;obtain ⟨HEW,HST⟩:=Z2 hEw hst;obtain ⟨RI,hRI⟩:=V1 (s.rootI);rw [← hRI] at HNO;have HRI:=hide hRI;have s13:=(HC.out.bld hst.mv).c13;have HSW:=hide (HS3.out.ext hEw);clear hroot hR4 hnode hI hNd hst HS hEw hRI;go_upto_region 23 with fail
    rename_i Kz hKz
    refine Qax 7 8 (by kernel_rfl) (by kernel_rfl) (fun w'=>w'.cell? ⟨gb,13,none⟩=some (.pointer (some ⟨gp,0,none⟩))∧Blk w' g1 31 #[.slice A1 nw c1,.slice A2 no c2,.slice A3 k c3,y0,y1,y2,y3,y4,y5,y6,y7,y8]) ⟨s13,HSW.out.drewN 1⟩ ?_
    intro I _ f hf;have q13:=fun n=>(hf n).1
    have q0:∀ n,(f n).cell? ⟨g1,3,none⟩=some y0:=fun n=>(hf n).2.cell 3
    have q1:∀ n,(f n).cell? ⟨g1,4,none⟩=some y1:=fun n=>(hf n).2.cell 4
    have q2:∀ n,(f n).cell? ⟨g1,5,none⟩=some y2:=fun n=>(hf n).2.cell 5
    have q3:∀ n,(f n).cell? ⟨g1,6,none⟩=some y3:=fun n=>(hf n).2.cell 6
    have q4:∀ n,(f n).cell? ⟨g1,7,none⟩=some y4:=fun n=>(hf n).2.cell 7
    have q5:∀ n,(f n).cell? ⟨g1,8,none⟩=some y5:=fun n=>(hf n).2.cell 8
    have q6:∀ n,(f n).cell? ⟨g1,9,none⟩=some y6:=fun n=>(hf n).2.cell 9
    have q7:∀ n,(f n).cell? ⟨g1,10,none⟩=some y7:=fun n=>(hf n).2.cell 10
    have q8:∀ n,(f n).cell? ⟨g1,11,none⟩=some y8:=fun n=>(hf n).2.cell 11
    clear hf;simp only [List.take_succ_cons,List.take_zero,List.drop_succ_cons,List.drop_zero];repeat (go_big_quiet_step ((fail)))
    refine wpQuiet_nil ?_;clear q13 q0 q1 q2 q3 q4 q5 q6 q7 q8;refine seqF_plain (by decide) rfl ?_
    intro K1 hK1;go_simp;refine (HNO.out _ (Ext.drew' (Ext.rfl' wr))).mono ?_;rintro e w19 ⟨rfl,hN19⟩;obtain ⟨A9,c9,U9,hs9⟩:=NSt.next (HST.out.ext (Ext.drew' (Ext.rfl' wr))) hN19;have hE19:=HC.out.old hs9.mv;have k13:=(HC.out.bld hs9.mv).c13;have hS9:=HS3.out.ext hE19;obtain ⟨-,-,p2⟩:=X3 hs9.plan;have pf2:=hs9.plan.free 2;obtain ⟨HS9,HE19⟩:=Z2 hs9 hE19;refine hK1 _ _ ⟨k13,hS9⟩ ?_;refine seqF_there (by decide) ?_
    clear hN19 hs9 hE19 hS9 s13 k13;go_wp2_with fail
    refine hKz _ _ ?_;obtain ⟨w20,hw20⟩:=V1 (w19.setCell ⟨gp,2,none⟩ (.int .i64 (RI:Int)));have hPA:PlanAt w20 gp s:=by
     rw [hw20,HRI.out];exact HS9.out.plan_at HPK.out HE19.out hgp3 HL3.out
    have hE20:Ext w3 w20:=by rw [hw20]; exact HE19.out.setCell (p:=⟨gp,2,none⟩) hgp3 _
    have k13:w20.cell? ⟨gb,13,none⟩=some (.pointer (some ⟨gp,0,none⟩)):=by
     rw [hw20];exact (World.cell?_setCell_other _ _ _ _ (by intro e; injection e with e1; exact hgbp e1.symm)).trans (HC.out.bld HS9.out.mv).c13
    rw [← hw20];have hZ20:=HZ3.out.ext hE20;obtain ⟨z0,z1⟩:=X2 hZ20;obtain ⟨f0,f1⟩:=Y2 hZ20;obtain ⟨HZ20,HPA,HE20⟩:=Z3 hZ20 hPA (HE3.out.trans' hE20);have HBK:=hide (show (s.badK s.n).1=0 by rw [Qdp HQ.out HZw8.out HZw10.out HZw12.out]; exact HZw14.out)
    clear hw20 hPA hE20 hZ20 p2 pf2;go_wp2_with fail
    have e0:=Qa8 w20 HZ20.out (i:=0) (v:=.int .i64 0) rfl;have e1:=Qa8 w20 HZ20.out (i:=1) (v:=.int .i64 0) rfl;rw [e0,e1];exact Ql (f:=(0,0)) (g:=g3) (v:=.pointer (some ⟨gp,0,none⟩)) HZ20.out rfl rfl rfl rfl (.inr ⟨HBK.out,gp,rfl,HPA.out,HE20.out⟩)
end Go.Proofs.YtanpljalbijfkaaGreat
