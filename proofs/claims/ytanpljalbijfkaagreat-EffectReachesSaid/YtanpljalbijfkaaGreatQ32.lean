/- . -/
import Derived.Test.YtanpljalbijfkaaGreatQ28
import Derived.Test.YtanpljalbijfkaaGreatQ29
import Derived.Test.YtanpljalbijfkaaGreatQ30
import Derived.Test.YtanpljalbijfkaaGreatQ31
namespace Go.Proofs.YtanpljalbijfkaaGreat
open Go.RowKit
set_option maxHeartbeats 16000000
def Qt8 (w:World) (g:Nat) (v:Value) (r:List Bool):Prop:=BoolsAt w w.heap.size v r∧∀ A n c,v = .slice A n c→∀ a,A=some a→a.block≠g
def MatNe (w:World) (g:Nat) (A:Option Addr) (M:List (List Bool)):Prop :=
 ∃ vs:List Value,vs.length=M.length∧Reads w w.heap.size 1 A M.length vs∧(∀ a,A=some a→a.block≠g)∧∀ (k:Nat) (v:Value) (r:List Bool),vs[k]? = some v→M[k]? = some r→Qt8 w g v r
theorem MatNe.at_ {w:World} {g:Nat} {A:Option Addr} {M:List (List Bool)} (h:MatNe w g A M):MatAt w w.heap.size A M:=by
 obtain ⟨vs,h1,h2,_,h4⟩:=h;exact ⟨vs,h1,h2,fun k v r hv hr=>(h4 k v r hv hr).1⟩
theorem MatNe.mv {w w':World} {g:Nat} {A:Option Addr} {M:List (List Bool)} (h:MatNe w g A M) (hm:Mv (fun i=>i=g) w w'):MatNe w' g A M:=by
 obtain ⟨vs,h1,h2,h3,h4⟩:=h;refine ⟨vs,h1,Reads.mv h2 hm fun a ha e=>h3 a ha e,h3,fun k v r hv hr=>?_⟩
 obtain ⟨⟨Ar,cr,e,hr'⟩,hne⟩:=h4 k v r hv hr;exact ⟨⟨Ar,cr,e,Reads.mv hr' hm fun a ha e'=>hne _ _ _ e a ha e'⟩,hne⟩
theorem MatNe.ext {w w':World} {g:Nat} {A:Option Addr} {M:List (List Bool)} (h:MatNe w g A M) (hE:Ext w w'):MatNe w' g A M:=h.mv (Mv.of_ext hE)
theorem MatNe.of_new {w:World} {g:Nat} {A:Option Addr} {M:List (List Bool)} (h:MatAt w w.heap.size A M) (hsq:∀ r ∈ M,r.length=M.length) (h0:0 < M.length) (hg:w.heap.size≤g):MatNe w g A M:=by
 obtain ⟨vs,h1,h2,h4⟩:=h;refine ⟨vs,h1,h2,fun a ha e=>?_,fun k v r hv hr=>⟨h4 k v r hv hr,fun Ar n c e a ha e'=>?_⟩⟩
 ·obtain ⟨ad,e2,hb,_⟩:=h2.2 h0;rw [ha] at e2; injection e2 with e2;rw [e2] at e; omega
 ·obtain ⟨Ar2,cr,e3,hr'⟩:=h4 k v r hv hr;rw [e] at e3;injection e3 with e4 _ _
  have hl:r.length=M.length:=hsq r (List.mem_of_getElem? hr);obtain ⟨ad,e5,hb,_⟩:=hr'.2 (by omega)
  rw [← e4,ha] at e5; injection e5 with e5;rw [e5] at e'; omega
theorem MatNe.of_zero {w:World} {g:Nat} {t:TypeId} {A:Option Addr} {M:List (List Bool)} (h:MatAt w w.heap.size A M) (hsq:∀ r ∈ M,r.length=M.length) (h0:0 < M.length) (hB:Blk w g t #[.slice none 0 0,.slice none 0 0,.slice none 0 0,.int .i64 0]):MatNe w g A M:=by
 have hcell:∀ j v,w.cell? ⟨g,j,none⟩=some v→v = .slice none 0 0∨v = .int .i64 0:=fun j v hv=>by
  rw [hB.cell j] at hv;match j,hv with
  | 0,hv=>injection hv with hv; exact .inl hv.symm
  | 1,hv=>injection hv with hv; exact .inl hv.symm
  | 2,hv=>injection hv with hv; exact .inl hv.symm
  | 3,hv=>injection hv with hv; exact .inr hv.symm
  | j + 4,hv=>cases hv
 obtain ⟨vs,h1,h2,h4⟩:=h;refine ⟨vs,h1,h2,fun a ha e=>?_,fun k v r hv hr=>⟨h4 k v r hv hr,fun Ar n c e a ha e'=>?_⟩⟩
 ·obtain ⟨b,o,e2,hb,hc⟩:=h2.form h0 (by decide)
  rw [ha] at e2; injection e2 with e2;rw [e2] at e;have e':b=g:=e;subst e';obtain ⟨v0,hv0⟩:∃ v0,vs[0]? = some v0:=⟨_,List.getElem?_eq_getElem (by omega)⟩
  obtain ⟨r0,hr0⟩:∃ r0,M[0]? = some r0:=⟨_,List.getElem?_eq_getElem h0⟩;obtain ⟨Ar,cr,e3,_⟩:=h4 0 v0 r0 hv0 hr0;have hl:r0.length=M.length:=hsq r0 (List.mem_of_getElem? hr0);rcases hcell _ _ (hc 0 v0 hv0) with q | q
  ·rw [q] at e3; injection e3 with _ e4 _; omega
  ·rw [q] at e3; cases e3
 ·obtain ⟨Ar2,cr,e3,hr'⟩:=h4 k v r hv hr;rw [e] at e3;injection e3 with e4 _ _
  have hl:r.length=M.length:=hsq r (List.mem_of_getElem? hr);obtain ⟨b,o,e5,hb,hc⟩:=hr'.form (by omega) (by decide)
  rw [← e4,ha] at e5; injection e5 with e5;rw [e5] at e';have e6:b=g:=e';subst e6;have hr0:0 < r.length:=by omega
  rcases hcell _ _ (hc 0 (.bool r[0]) (by rw [List.getElem?_map,List.getElem?_eq_getElem hr0]; rfl)) with q | q <;> cases q
structure Lst (w:World) (g3:Nat) (A Af:Option Addr) (m:Nat) (ys:List Value):Prop where
 reads:Reads w w.heap.size 9 Af m ys
 apart:∀ a,Af=some a→a.block < w.heap.size∧a.block≠g3∧∀ a2,A=some a2→a2.block≠a.block
theorem Lst.keep {w w':World} {g3:Nat} {A Af:Option Addr} {m:Nat} {ys:List Value} {Y:Nat→Prop} (h:Lst w g3 A Af m ys) (hm:Mv Y w w') (hY:∀ a,Af=some a→¬ Y a.block):Lst w' g3 A Af m ys :=
 ⟨Reads.mv h.reads hm hY,fun a ha=>⟨Nat.lt_of_lt_of_le (h.apart a ha).1 hm.size,(h.apart a ha).2⟩⟩
theorem Lst.push {w wX w':World} {g3 n c c':Nat} {A A' Af:Option Addr} {m:Nat} {ys:List Value} (h:Lst w g3 A Af m ys) (hX:Ext w wX) (hg:wX.grownBy w' (Value.slice A n c).ownBlock) (hob:Value.ownBlock (.slice A' (n + 1) c')=(Value.slice A n c).ownBlock∨Value.ownBlock (.slice A' (n + 1) c')=some wX.heap.size):Lst w' g3 A' Af m ys:=by
 have hm:Mv (fun i=>∃ a,A=some a∧a.block=i) w w':=(Mv.of_ext hX).trans (Mv.of_grown hg fun g hg'=>own_block_of hg')
 have hs:=hX.size;refine ⟨Reads.mv h.reads hm fun a ha ⟨a2,ha2,e⟩=>(h.apart a ha).2.2 a2 ha2 e,fun a ha=>?_⟩
 obtain ⟨f1,f2,f3⟩:=h.apart a ha;refine ⟨Nat.lt_of_lt_of_le f1 hm.size,f2,fun a2 ha2 e=>?_⟩
 rcases hob with hob | hob
 ·rw [ha2] at hob;obtain ⟨a3,ha3,e3⟩:=own_block_of (A:=A) (g:=a2.block) (n:=n) (c:=c) hob.symm;exact f3 a3 ha3 (by omega)
 ·rw [ha2] at hob;have e2:a2.block=wX.heap.size:=by simpa [Value.ownBlock] using hob
  omega
def DPlan (w:World) (s:Sch) (vs:List Value):Prop:=∃ A1 c1 Aq cq A c xs,vs = [.slice A1 s.ws.length c1,.slice Aq s.ws.length cq,.slice A s.nodes.length c,.int .i64 (s.rootI:Nat)]∧MatAt w w.heap.size Aq (leads s.ws.length (prs s.ws s.os))∧Reads w w.heap.size 7 A s.nodes.length xs∧∀ k (hk:k < s.nodes.length),ElAt w s.nodes[k] (fun i=>i < w.heap.size) ((xs.drop (k * 7)).take 7)
theorem Quz:(Tryz.prog.info? 45).map (·.size)=some 4:=by kernel_rfl
theorem Qt9:∃ i,Tryz.prog.info? 94=some i∧i.zero=some (.agg #[.int .i64 0,.int .i64 0,.int .i64 0,.int .i64 0,.int .i64 0,.slice none 0 0,.slice none 0 0])∧i.size=7∧i.bytes=88 :=
 Qal (a:=7) (b:=88) (v:=.agg #[.int .i64 0,.int .i64 0,.int .i64 0,.int .i64 0,.int .i64 0,.slice none 0 0,.slice none 0 0]) (s:=7) (by kernel_rfl)
theorem wp_append_DN (w:World) {o:Oper} {a:Act} {K:Act→World→Prop} {Q:Exit→Act→World→Prop} (s x:Operand)
  (ho:o.op = .call { callee:=.builtin .append,args:=#[s,x],argTypes:=#[43,43] })
  (base:Nat) (v:Value) (n:Nat) (xs:List Value) (hs:a.eval s=v) (B:Nat) (A:Option Addr) (c:Nat) (news:List Value) (hx:a.eval x = .slice A 1 c)
  (hown:w.ownsRow base 94 7 v n xs) (hr:Reads w B 7 A 1 news) (h1:∀ u ∈ news,u.oneCell'=true) (hn:n≤1000000) (hbase:base≤w.heap.size)
  (h:∀ A' c' w',w'.ownsRow base 94 7 (.slice A' (n + 1) c') (n + 1) (xs ++ news)→w.grownBy w' v.ownBlock→(Value.ownBlock (.slice A' (n + 1) c')=v.ownBlock∨Value.ownBlock (.slice A' (n + 1) c')=some w.heap.size)→K (a.put o.dst (.slice A' (n + 1) c')) w'):o.wp Tryz.prog a w K Q:=by
 obtain ⟨i0,hi,hz,hs2,hb⟩:=Qt9;refine Qar w s x 43 ho base 94 i0 _ 7 88 Tryz.underlying43 hi hz hs2 hb rfl (by decide) v n xs hs hown B A 1 c news hx hr h1 (by unfold maxLen; omega) (by omega) hbase ?_
 intro v' w' h2 h3 h4;have hv:∃ A' c',v' = .slice A' (n + 1) c':=by
  rcases h2.2 with ⟨e,h0⟩ | ⟨g,cap,cur,e,_⟩
  ·omega
  ·exact ⟨_,_,e⟩
 obtain ⟨A',c',hv⟩:=hv;rw [hv] at h2 h4 ⊢;exact h A' c' w' h2 h3 h4
theorem Qua (s:Sch) (vsS:List Value) (w0:World) (hS:SchAt w0 s vsS) (hz:SchSz s) (hg:s.Good) (Aq:Option Addr) (cq:Nat) (hq:MatAt w0 w0.heap.size Aq (leads s.ws.length (prs s.ws s.os))) (T:Ty) (hk9:T.kd≠9) (hF:Fit T) (hSz:Qr T) (hK:s.Known T) (hSh:Qem T) (me:Nat) (hme:me + nodC T≤512)
  (w:World) (vs:List Value) (hE0:Ext w0 w) (hT:TyAt w0 w0.heap.size T vs) :
  Calls Tryz.prog 40 #[.agg vsS.toArray,.slice Aq s.ws.length cq,.agg vs.toArray,.int .i64 (me:Int)] w (Qen (s.nodeP T me) w):=by
 cases T with
 | nil=>exact hF.elim
 | mk h n p t=>exact Qrs s vsS w0 hS hz hg Aq cq hq h n p t hk9 hF hSz hK hSh me hme w vs hE0 hT
theorem Qkg {s:Sch} (hg:s.Good) {i k:Nat} (hi:i≤s.n) (hk:k < (Qt (s.all i)).length):(s.nodesTo i).length + k + nodC (Qt (s.all i))[k]≤512:=by
 have h1:=Ql0 (s.all i) k hk;have h2:=Qfh hg.fine hi;rw [flat_length] at h1;omega
theorem Qpo (s:Sch) {i k:Nat} (hk:k < (Qt (s.all i)).length):s.nodesTo i ++ s.nodesFrom ((Qt (s.all i)).take (k + 1)) (s.nodesTo i).length=(s.nodesTo i ++ s.nodesFrom ((Qt (s.all i)).take k) (s.nodesTo i).length) ++ [s.nodeP (Qt (s.all i))[k] ((s.nodesTo i).length + k)]:=by
 rw [List.take_add_one,List.getElem?_eq_getElem hk,Sch.nodesFrom_append,List.length_take,Nat.min_eq_left (by omega),List.append_assoc]
 rfl
theorem Qtj (s:Sch) (i k:Nat) (hk:k≤(Qt (s.all i)).length):(s.nodesTo i ++ s.nodesFrom ((Qt (s.all i)).take k) (s.nodesTo i).length).length=(s.nodesTo i).length + k:=by
 rw [List.length_append,Sch.nodesFrom_length,List.length_take,Nat.min_eq_left hk]
set_option maxRecDepth 100000 in
theorem Qpp (s:Sch) (vs:List Value) (w:World) (hS:SchAt w s vs) (hz:SchSz s) (hg:s.Good) (hsh:∀ i,i≤s.n→Qem (s.all i)):Calls Tryz.prog 12 #[.agg vs.toArray] w (fun e w'=>∃ us,e = .returned (.agg us.toArray)∧DPlan w' s us∧Ext w w'):=by
 have hSS:=hS;obtain ⟨A1,c1,A2,c2,A3,c3,vr,rfl,hA1,hA2,hA3,hR⟩:=hS;obtain ⟨y0,y1,y2,y3,y4,y5,y6,y7,y8,rfl⟩:∃ y0 y1 y2 y3 y4 y5 y6 y7 y8:Value,vr = [y0,y1,y2,y3,y4,y5,y6,y7,y8]:=by obtain ⟨y0,y1,y2,y3,y4,y5,y6,y7,y8,e⟩:=hR.nine; exact ⟨y0,y1,y2,y3,y4,y5,y6,y7,y8,e⟩
 obtain ⟨nw,hnw,no,hno,n,hn⟩:=V3 (s.ws.length) (s.os.length) (s.n);have HLQ:=hide (fun w1 (hE:Ext w w1)=>Qip A1 c1 nw s.ws A2 c2 no s.os w1 (hA1.ext hE) hnw (by have:=hg.lat.few; omega) (hA2.ext hE) hno (by have:=hg.lvl.fewO; omega) (Qf4 hg.lvl.found))
 have h100:s.n≤100:=by have:=hg.fine.few; omega
 obtain ⟨HAL,HFL⟩:=Z2 (fun w1 (hE:Ext w w1)=>Qke s _ w w1 hSS hE h100) (fun i (hi:i < s.n + 1) w1 vt (hE:Ext w w1) (hT:TyAt w w.heap.size (s.all i) vt)=>Qgq w (s.all i) (hz.all i (by omega)) (by have:=Qgr hg.fine (i:=i) (by omega); omega) w1 vt hE hT)
 have HND:=hide (fun i k (hi:i < s.n + 1) (hk:k < (Qt (s.all i)).length) w1 vt (hE:Ext w w1) Aq cq (hq:MatAt w1 w1.heap.size Aq (leads s.ws.length (prs s.ws s.os))) (hT:TyAt w w.heap.size (Qt (s.all i))[k] vt)=>(by
  have hin:=Qn6 (s:=s) (s.all i) (hg.fine.fit i (by omega)) (hz.all i (by omega)) (hg.known i (by omega)) _ (List.getElem_mem hk)
  exact Qua s _ w1 (hSS.ext hE) hz hg Aq cq hq (Qt (s.all i))[k] hin.2.2.2 hin.1 hin.2.1 hin.2.2.1 (Qpn _ (hsh i (by omega)) _ (List.getElem_mem hk)) ((s.nodesTo i).length + k) (Qkg hg (by omega) hk) w1 vt (Ext.rfl' _) (hT.ext hE):Calls Tryz.prog 40 #[.agg _,.slice Aq s.ws.length cq,.agg vt.toArray,.int .i64 (((s.nodesTo i).length + k:Nat):Int)] w1 (Qen (s.nodeP (Qt (s.all i))[k] ((s.nodesTo i).length + k)) w1)))
 have HST:=hide (fun w1 (hE:Ext w w1) x (hx:0≤findL s.names x) (hn1:0 < s.n)=>Qi6 s _ x w1 (hSS.ext hE) hz hg hx hn1)
 have hnw0:0 < nw:=by rw [hnw]; exact hg.lat.lat.some
 obtain ⟨HMS,HML,HMO,HSO,HFN,HG,HNW⟩:=Z7 (Qdx s.ws.length (prs s.ws s.os)) (leads_length s.ws.length (prs s.ws s.os)) (fun i k (hk:k < (Qt (s.all i)).length)=>Qpo s hk) (fun i k (hk:k≤(Qt (s.all i)).length)=>Qtj s i k hk) (fun i k (hi:i < s.n + 1) (hk:k < (Qt (s.all i)).length)=>Qkg hg (by omega) hk) hg hnw
 unfold Qnz at HLQ
 (try rw [← hnw] at HLQ)
 (try rw [← hno] at HLQ)
 (try rw [← hn] at HLQ)
 (try rw [← hnw] at HAL)
 (try rw [← hno] at HAL)
 (try rw [← hn] at HAL)
 (try rw [← hnw] at HFL)
 (try rw [← hno] at HFL)
 (try rw [← hn] at HFL)
 (try rw [← hnw] at HND)
 (try rw [← hno] at HND)
 (try rw [← hn] at HND)
 (try rw [← hnw] at HST)
 (try rw [← hno] at HST)
 (try rw [← hn] at HST)
 (try rw [← hnw] at HMS)
 (try rw [← hno] at HMS)
 (try rw [← hn] at HMS)
 (try rw [← hnw] at HML)
 (try rw [← hno] at HML)
 (try rw [← hn] at HML)
 (try rw [← hnw] at HFN)
 (try rw [← hno] at HFN)
 (try rw [← hn] at HFN)
 obtain ⟨MM,hMM⟩:=V1 (leads nw (prs s.ws s.os));rw [← hMM] at HLQ HND HMS HML;have HMMh:=hide hMM
 (try rw [← hnw,← hno,← hn])
 have HNE:=hide hn;have hn0:=nZ n;have hn100:n≤100:=by omega
 have HRT:=hide hR;clear hnw hno hn hA1 hA2 hA3 hR hz hg hSS hMM hsh;show Calls Tryz.prog 12 #[.agg #[.slice A1 nw c1,.slice A2 no c2,.slice A3 n c3,y0,y1,y2,y3,y4,y5,y6,y7,y8]] w _
 obtain ⟨w1,g1,hw1,hg1,Hw1,Hg1,hV,hVE⟩:=T0 w 31 #[.slice A1 nw c1,.slice A2 no c2,.slice A3 n c3,y0,y1,y2,y3,y4,y5,y6,y7,y8];obtain ⟨w2,g2,hw2,hg2,Hw2,Hg2,hZ,hZE⟩:=T0 w1 45 #[.slice none 0 0,.slice none 0 0,.slice none 0 0,.int .i64 0];have Hg2':=hide (show g2=g1 + 1 by rw [hg2,hw1,World.size_alloc,← hg1])
 obtain ⟨HE2,HV2,HZ2⟩:=Z3 (hVE.trans' hZE) (hV.ext hZE) hZ;have hlo2:w.heap.size≤g2:=by have:=hVE.size; omega
 have hg2l:g2 < w2.heap.size:=hZ.lt;clear hw1 hg1 hw2 hg2 hV hVE hZ hZE;go_enter Tryz.func12,Tryz.ntmps12
 go_upto_region 1 with fail
 rw [← Hw1.out,← Hg1.out,← Hw2.out,← Hg2'.out];go_cut [3] (fun v wx=>∃ g3 Aq cq,v = .pointer (some ⟨g3,0,none⟩)∧Blk wx g3 45 #[.slice A1 nw c1,.slice Aq nw cq,.slice none 0 0,.int .i64 0]∧MatNe wx g3 Aq MM∧Ext w2 wx∧w2.heap.size≤g3)
 case first =>
  rename_i Kz hKz
  refine Qdd [0,1,2,3,4,5] 8 [6,7] [9] 9 (by kernel_rfl) (by kernel_rfl) (fun w'=>Ext w2 w') (Ext.drew' (Ext.rfl' w2)) ?_
  intro I _ f hf;have r0:∀ n_,(f n_).cell? ⟨g1,0,none⟩=some (.slice A1 nw c1):=fun n_=>(HV2.out.ext (hf n_)).cell 0
  have r1:∀ n_,(f n_).cell? ⟨g1,1,none⟩=some (.slice A2 no c2):=fun n_=>(HV2.out.ext (hf n_)).cell 1
  clear hf;simp only [opsAt,List.map_cons,List.map_nil,gA,gH,gS,Option.getD_some];repeat (go_big_quiet_step ((fail)))
  refine wpQuiet_nil ?_;clear r0 r1;refine mixK_here rfl ?_ ?_
  ·refine seqK_plain rfl ?_;intro K1 hK1;go_simp;have hE1:Ext w2 ((w2.alloc (.cells #[.slice none 0 0,.slice none 0 0,.slice none 0 0,.int .i64 0] 45)).drew):=Ext.drew' ((Ext.rfl' w2).alloc nL _);refine hK1 _ _ hE1 ?_;refine seqK_plain rfl ?_;intro K2 hK2;go_simp;refine (HLQ.out _ (HE2.out.trans' hE1)).mono ?_;rintro e w8 ⟨Aq,cq,rfl,hM8,hE8⟩;have hE8':=hE1.trans' hE8;refine hK2 _ _ hE8' ?_;refine seqK_plain rfl ?_;intro K3 hK3;go_simp;refine hK3 _ _ hE8' ?_;refine seqK_done ?_;have hB8:=(show Blk ((w2.alloc (.cells #[.slice none 0 0,.slice none 0 0,.slice none 0 0,.int .i64 0] 45)).drew) w2.heap.size 45 #[.slice none 0 0,.slice none 0 0,.slice none 0 0,.int .i64 0] from Blk.new w2 _ _).ext hE8
   have hMN:=MatNe.of_zero hM8 HMS.out (by rw [HML.out]; exact hnw0) hB8
   have hMN2:=fun (a b c d:Value)=>hMN.mv ((((Mv.rfl' (fun i=>i=w2.heap.size) w8).set (i:=0) (.inr rfl) a).set (i:=1) (.inr rfl) b).set (i:=2) (.inr rfl) c |>.set (i:=3) (.inr rfl) d)
   obtain ⟨d0,d1,d2,d3⟩:=X4 hB8;have e0:=hB8.free 0;have e1:=hB8.free 1;have e2:=hB8.free 2;have e3:=hB8.free 3;obtain ⟨HB8,HE8,HMN⟩:=Z3 hB8 hE8' hMN2;clear hE8 hE8' hB8 hE1 hM8 hMN hMN2;go_wp2_with fail
   refine hKz _ _ ?_;go_meet
   refine ⟨w2.heap.size,Aq,cq,rfl,(((HB8.out.set_ 0 _).set_ 1 _).set_ 2 _).set_ 3 _,HMN.out _ _ _ _,?_,Nat.le_refl _⟩;exact (((HE8.out.setCell (p:=⟨w2.heap.size,0,none⟩) nL _).setCell (p:=⟨w2.heap.size,1,none⟩) nL _).setCell (p:=⟨w2.heap.size,2,none⟩) nL _).setCell (p:=⟨w2.heap.size,3,none⟩) nL _
  ·intro K1 hK1;go_simp;refine (HLQ.out _ (Ext.drew' HE2.out)).mono ?_;rintro e w8 ⟨Aq,cq,rfl,hM8,hE8⟩;have hE8':=(Ext.drew' (Ext.rfl' w2)).trans' hE8;refine hK1 _ _ hE8' ?_;have hMN:=MatNe.of_new hM8 HMS.out (by rw [HML.out]; exact hnw0) nL
   have hsz8:w2.heap.size≤w8.heap.size:=hE8'.size;obtain ⟨HE8,HMN⟩:=Z2 hE8' hMN;clear hE8 hE8' hM8 hMN;refine mixK_here rfl ?_ ?_
   ·refine seqK_plain rfl ?_;intro K2 hK2;go_simp;refine hK2 _ _ (HE8.out.alloc hsz8 _) ?_;refine seqK_plain rfl ?_;intro K3 hK3;go_simp;refine hK3 _ _ (HE8.out.alloc hsz8 _) ?_;refine seqK_done ?_;go_wp2_with fail
    refine hKz _ _ ?_;go_meet
    exact ⟨w8.heap.size,Aq,cq,rfl,Blk.new w8 _ _,HMN.out.ext ((Ext.rfl' w8).alloc nL _),HE8.out.alloc hsz8 _,hsz8⟩
   ·intro K2 hK2;go_simp;refine hK2 _ _ HE8.out ?_;refine mixK_done ?_;refine seqK_plain rfl ?_;intro K3 hK3;go_simp;refine hK3 _ _ (HE8.out.alloc hsz8 _) ?_;refine seqK_done ?_;go_wp2_with fail
    refine hKz _ _ ?_;go_meet
    exact ⟨w8.heap.size,Aq,cq,rfl,Blk.new w8 _ _,HMN.out.ext ((Ext.rfl' w8).alloc nL _),HE8.out.alloc hsz8 _,hsz8⟩
 case rest =>
  rename World=>w3
  obtain ⟨g3,Aq,cq,rfl,hB3,hM3,hE23,hlo3⟩:=hcut;have hg3l:g3 < w3.heap.size:=hB3.lt;have hg13:g1 < w2.heap.size:=HV2.out.lt;obtain ⟨HB3,HM3,HE23,HEw3⟩:=Z4 hB3 hM3 hE23 (HE2.out.trans' hE23);have hV3:=HV2.out.ext hE23;obtain ⟨t0,t1,t2,t3,t4,t5,t6,t7,t8,t9,t10,t11⟩:=X12 hV3;clear hB3 hM3 hE23 hV3;go_wp2_with fail
  refine (HAL.out w3 HEw3.out).mono ?_;rintro e w4 ⟨Al,cl,xsT,rfl,hrT,hTI,hE34,hbT⟩;have hlen4:=hE34.size;have HTL:=hide (show ∀ wx,Mv (fun i=>i=g3) w4 wx→Reads wx wx.heap.size 9 Al (n + 1) xsT from fun wx hm=>Reads.mv hrT hm fun a ha e=>by have:=hbT a ha; omega)
  obtain ⟨HTI,HBT,HE4,HB4,HM4⟩:=Z5 hTI hbT (HEw3.out.trans' hE34) (HB3.out.ext hE34) (HM3.out.ext hE34);have HV4:=hide (show ∀ wx,Mv (fun i=>i=g3) w4 wx→Ext w2 wx from fun wx hm=>hm.below (HE23.out.trans' hE34) (fun i e=>by rw [e]; exact hlo3))
  obtain ⟨N1,hN1⟩:=V1 (n + 1);have HN1:=hide hN1;rw [← hN1] at HTL HTI HFL HND ⊢;have hN100:N1≤101:=by omega
  have hN1i:=nZ N1;have hFN:∀ i k,i < N1→(hk:k < (Qt (s.all i)).length)→(s.nodesTo i).length + k + nodC (Qt (s.all i))[k]≤512:=fun i k hi hk=>HFN.out i k (by have:=HNE.out; omega) hk
  obtain ⟨HFN2,HNT,HNR⟩:=Z3 hFN (fun i (hi:i < N1)=>(show nodC (s.all i)≤512 from Qgr HG.out.fine (i:=i) (by have:=HNE.out; omega))) (fun i (hi:i < N1)=>Qfh HG.out.fine (k:=i) (by have:=HNE.out; omega))
  clear hrT hTI hE34 hbT hN1 hFN HFN t0 t1 t2 t3 t4 t5 t6 t7 t8 t9 t10 t11;go_wp2_with fail
  go_loopw [5] (fun i wr=>∃ (k:Nat) (A:Option Addr) (c:Nat) (U:Nat→Prop) (r:Nat),k≤N1∧i = .int .i64 (k:Int)∧Mv (fun i=>i=g3) w4 wr∧Blk wr g3 45 #[.slice A1 nw c1,.slice Aq nw cq,.slice A (s.nodesTo k).length c,.int .i64 (r:Int)]∧Hid (DNs wr w4.heap.size g3 A c (s.nodesTo k) U)∧Hid (0 < k→r=(s.nodesTo (k - 1)).length)) (fun i _=>N1 - (intOf i).toNat)
  case atStart=>exact ⟨0,none,0,_,0,Nat.zero_le _,rfl,Mv.rfl' _ _,HB4.out,DNs.nil _ _ _,fun h=>absurd h (Nat.lt_irrefl _)⟩
  case round =>
   obtain ⟨k,A,c,U,r,hk,rfl,hm,hB,HD,HR⟩:=hrel;by_cases hlt:k < N1
   ·obtain ⟨b,o,rfl,hb,hc⟩:=(show ∃ b o,Al=some ⟨b,o,none⟩∧b < wr.heap.size∧∀ j v,xsT[j]? = some v→wr.cell? ⟨b,o + j,none⟩=some v from (HTL.out wr hm).form (by omega) (by decide))
    have hT:=HTI.out k hlt;obtain ⟨z0,z1,z2,z3,z4,z5,z6,z7,z8,hz9⟩:∃ z0 z1 z2 z3 z4 z5 z6 z7 z8:Value,(xsT.drop (k * 9)).take 9 = [z0,z1,z2,z3,z4,z5,z6,z7,z8]:=hT.nine;rw [hz9] at hT;have hbg:b≠g3:=fun e=>by
     have h1:w3.heap.size≤b:=HBT.out _ rfl;omega
    obtain ⟨NK,hNK⟩:=V1 ((s.nodesTo k).length);rw [← hNK] at hB;obtain ⟨-,-,d2,d3⟩:=X4 hB;have e3:=hB.free 3;obtain ⟨w5,hw5⟩:=V1 (wr.setCell ⟨g3,3,none⟩ (.int .i64 (NK:Int)));have hset5:Mv (fun i=>i=g3) wr w5:=by rw [hw5]; exact (Mv.rfl' (fun i=>i=g3) wr).set (.inr rfl) _
    have HM5:=hide (show Mv (fun i=>i=g3) w4 w5 by rw [hw5]; exact hm.set (.inr rfl) _)
    have HB5:=hide (show Blk w5 g3 45 #[.slice A1 nw c1,.slice Aq nw cq,.slice A NK c,.int .i64 (NK:Int)] by rw [hw5]; exact hB.set_ 3 _)
    have hg34:g3 < w4.heap.size:=by omega
    have HD5:=hide (HD.out.keep hset5 (fun a ha e=>by obtain ⟨⟨xs,hO,_⟩,_⟩:=HD.out; have:=own_base hO a ha; omega) (fun i hi e=>(HD.out.free i hi).2.2.1 e))
    have hEw5:Ext w w5:=HE2.out.trans' (HV4.out w5 HM5.out);have hseg:∀ j v,([z0,z1,z2,z3,z4,z5,z6,z7,z8]:List Value)[j]? = some v→w5.cell? ⟨b,o + k * 9 + j,none⟩=some v:=fun j v hv=>by
     have hj:j < 9:=(List.getElem?_eq_some_iff.1 hv).1;obtain ⟨b',o',e',_,hc'⟩:=(HTL.out w5 HM5.out).form (by omega) (by decide)
     injection e' with e'
     injection e' with e1 e2 _
     subst e1 e2;rw [← hz9,Qcy _ _ _ hj] at hv;rw [Nat.add_assoc];exact hc' _ _ hv
    have HSEG:=hide (show w5.rangeAt b (o + k * 9) [z0,z1,z2,z3,z4,z5,z6,z7,z8] from hseg)
    have HFLK:=hide (show Calls Tryz.prog 39 #[.agg #[z0,z1,z2,z3,z4,z5,z6,z7,z8]] w5 (FlatPost w (s.all k) w5) from HFL.out k hlt w5 _ hEw5 hT)
    have HNK:=hide hNK;have i0:=nZ k;have i1:(k:Int) < (N1:Int):=by omega
    have HMr:=hide hm;have hg35:g3 < w5.heap.size:=HB5.out.lt;clear hb hc hT hz9 hseg hNK hset5 hEw5 hB hm HD;go_upto_region 7 with fail
    rw [← hw5];clear hw5 d2 d3 e3;refine wp_region_lit ?_;refine wpList_plain rfl fun K0 hK0=>?_
    go_simp;refine hK0 _ _ ?_;refine wpList_plain rfl fun K1 hK1=>?_
    go_simp;refine hK1 _ _ ?_;refine wpList_plain rfl fun K2 hK2=>?_
    go_simp;refine hK2 _ _ ?_;refine wpList_load_mid rfl 29 _ rfl b (o + k * 9) rfl _ _ HSEG.out Tryz.underlying29 rfl Qbg ?_;refine wpList_plain rfl fun K7 hK7=>?_
    go_simp;refine HFLK.out.mono ?_;rintro e w6 ⟨Af,cf,ys,rfl,hr6,hL6,hE6,hf6⟩;refine hK7 _ _ ?_;have HNC:=hide (flat_length (s.all k));have hnc:=HNT.out k hlt;obtain ⟨NC,hNC⟩:=V1 (nodC (s.all k));rw [← hNC] at HNC hr6 hnc ⊢;obtain ⟨HM6,HB6,HD6⟩:=Z3 (HM5.out.ext hE6) (HB5.out.ext hE6) (HD5.out.ext hE6);have HL6:=hide (show 0 < NC→Lst w6 g3 A Af NC ys from fun h0=>⟨hr6,fun a ha=>⟨by
      obtain ⟨b2,o2,e,hb2,_⟩:=hr6.form h0 (by decide)
      rw [ha] at e; injection e with e; rw [e]; exact hb2,fun e=>by have:=hf6 a ha; omega,fun a2 ha2 e=>by
      obtain ⟨⟨xs,hO,_⟩,_⟩:=HD5.out;have:=own_in hO a2 ha2
      have:=hf6 a ha
      omega⟩⟩)
    obtain ⟨HTY,HNC0⟩:=Z2 hL6 hNC;have hnc0:=nZ NC;clear hr6 hL6 hE6 hf6 hNC;go_wp2_with fail
    go_loopw [7] (fun i wx=>∃ (q:Nat) (A':Option Addr) (c':Nat) (U':Nat→Prop),q≤NC∧i = .int .i64 (q:Int)∧Mv (fun i=>i=g3) w4 wx∧Blk wx g3 45 #[.slice A1 nw c1,.slice Aq nw cq,.slice A' (NK + q) c',.int .i64 (NK:Int)]∧Hid (DNs wx w4.heap.size g3 A' c' (s.nodesTo k ++ s.nodesFrom ((Qt (s.all k)).take q) (s.nodesTo k).length) U')∧Hid (0 < NC→Lst wx g3 A' Af NC ys)) (fun i _=>NC - (intOf i).toNat)
    case atStart=>exact ⟨0,A,c,U,Nat.zero_le _,rfl,HM6.out,HB6.out,(by show DNs _ _ _ _ _ (s.nodesTo k ++ []) U; rw [List.append_nil]; exact HD6.out),HL6.out⟩
    case round =>
     obtain ⟨q,A',c',U',hq,rfl,hm,hB,HD,HL⟩:=hrel;by_cases hq2:q < NC
     ·have hL:=HL.out (by omega)
      have hql:q < (Qt (s.all k)).length:=by rw [HNC.out]; exact hq2
      obtain ⟨b2,o2,hAf,hb2,hc2⟩:=TysL.cell HTY.out (by rw [HNC.out]; exact hL.reads) (by rw [HNC.out]; omega)
      obtain ⟨vt,h1,h2⟩:=hc2 q hql;obtain ⟨u0,u1,u2,u3,u4,u5,u6,u7,u8,rfl⟩:∃ u0 u1 u2 u3 u4 u5 u6 u7 u8:Value,vt = [u0,u1,u2,u3,u4,u5,u6,u7,u8]:=by obtain ⟨y0,y1,y2,y3,y4,y5,y6,y7,y8,e⟩:=h2.nine; exact ⟨y0,y1,y2,y3,y4,y5,y6,y7,y8,e⟩
      have hap:=hL.apart _ hAf;have hMr:=HM4.out.mv hm;have hEr:=HE2.out.trans' (HV4.out wr hm);have hND:=HND.out k q hlt hql wr.drew [u0,u1,u2,u3,u4,u5,u6,u7,u8] (Ext.drew' hEr) Aq cq ((hMr.ext (Ext.drew' (Ext.rfl' wr))).at_) h2;have hlen:=HSO.out k q (by omega)
      have hmo:=HMO.out k q hql;rw [← HNK.out] at hND hlen hmo HD;obtain ⟨DD,hDD⟩:=V1 (s.nodeP (Qt (s.all k))[q] (NK + q));rw [← hDD] at hND hmo;obtain ⟨LL,hLL⟩:=V1 (s.nodesTo k ++ s.nodesFrom ((Qt (s.all k)).take q) NK);rw [← hLL] at hlen hmo HD;have hmax:NK + q≤512:=by
       have:=HFN2.out k q hlt hql
       rw [← HNK.out] at this;omega
      have HNDK:=hide (show Calls Tryz.prog 40 #[.agg #[.slice A1 nw c1,.slice A2 no c2,.slice A3 n c3,y0,y1,y2,y3,y4,y5,y6,y7,y8],.slice Aq nw cq,.agg #[u0,u1,u2,u3,u4,u5,u6,u7,u8],.int .i64 ((NK + q:Nat):Int)] wr.drew (Qen DD wr.drew) from hND)
      obtain ⟨HMO2,HLEN⟩:=Z2 hmo hlen;have hVr:=HV2.out.ext (HV4.out wr hm);have hS:(Blk wr.drew g1 31 #[.slice A1 nw c1,.slice A2 no c2,.slice A3 n c3,y0,y1,y2,y3,y4,y5,y6,y7,y8]∧Blk wr.drew g3 45 #[.slice A1 nw c1,.slice Aq nw cq,.slice A' (NK + q) c',.int .i64 (NK:Int)])∧wr.drew.rangeAt b2 (o2 + q * 9) [u0,u1,u2,u3,u4,u5,u6,u7,u8]:=⟨⟨hVr.ext (Ext.drew' (Ext.rfl' wr)),hB.ext (Ext.drew' (Ext.rfl' wr))⟩,h1⟩;have hb2g:b2≠g3:=hap.2.1;have hb2l:b2 < wr.heap.size:=hap.1;have hAb:∀ a,A'=some a→a.block≠b2:=hap.2.2;obtain ⟨HS,HLr,HMr⟩:=Z3 hS hL hm;have HDr:=hide HD.out;have i0:=nZ q;have i1:(q:Int) < (NC:Int):=by omega
      subst hAf;clear hDD hLL hmo hlen hND hMr hap hc2 h1 h2 hL hm hB hVr hS hb2 HL HD hEr;go_upto_region 11 with fail
      rename_i Kz hKz
      refine Qaq [0,1,2,3,4,5,6,7,8,9,10] [11,12,13,14] [] [] [15,16] 15 (by kernel_rfl) (by kernel_rfl) (fun w'=>(Blk w' g1 31 #[.slice A1 nw c1,.slice A2 no c2,.slice A3 n c3,y0,y1,y2,y3,y4,y5,y6,y7,y8]∧Blk w' g3 45 #[.slice A1 nw c1,.slice Aq nw cq,.slice A' (NK + q) c',.int .i64 (NK:Int)])∧w'.rangeAt b2 (o2 + q * 9) [u0,u1,u2,u3,u4,u5,u6,u7,u8]) HS.out ?_
      intro I _ f hf;have r0:=fun n=>(hf n).1.1.cell 0
      have r1:=fun n=>(hf n).1.1.cell 1
      have r2:=fun n=>(hf n).1.1.cell 2
      have r3:=fun n=>(hf n).1.1.cell 3
      have r4:=fun n=>(hf n).1.1.cell 4
      have r5:=fun n=>(hf n).1.1.cell 5
      have r6:=fun n=>(hf n).1.1.cell 6
      have r7:=fun n=>(hf n).1.1.cell 7
      have r8:=fun n=>(hf n).1.1.cell 8
      have r9:=fun n=>(hf n).1.1.cell 9
      have r10:=fun n=>(hf n).1.1.cell 10
      have r11:=fun n=>(hf n).1.1.cell 11
      have r13:=fun n=>(hf n).1.2.cell 1
      have r14:=fun n=>(hf n).1.2.cell 2
      have q0:=fun n=>(hf n).2 0 _ rfl
      have q1:=fun n=>(hf n).2 1 _ rfl
      have q2:=fun n=>(hf n).2 2 _ rfl
      have q3:=fun n=>(hf n).2 3 _ rfl
      have q4:=fun n=>(hf n).2 4 _ rfl
      have q5:=fun n=>(hf n).2 5 _ rfl
      have q6:=fun n=>(hf n).2 6 _ rfl
      have q7:=fun n=>(hf n).2 7 _ rfl
      have q8:=fun n=>(hf n).2 8 _ rfl
      simp only [gA,gH,gS] at r0 r1 r2 r3 r4 r5 r6 r7 r8 r9 r10 r11 r13 r14;simp only [Nat.add_zero] at q0;clear hf;simp only [opsAt,List.map_cons,List.map_nil,gA,gH,gS,Option.getD_some];repeat (go_big_quiet_step ((fail)))
      refine wpQuiet_nil ?_;clear r0 r1 r2 r3 r4 r5 r6 r7 r8 r9 r10 r11 r13 r14 q0 q1 q2 q3 q4 q5 q6 q7 q8;refine seqK_plain rfl ?_;intro K1 hK1;go_simp;refine hK1 _ _ HS.out ?_;refine seqK_plain rfl ?_;intro K2 hK2;go_simp;refine HNDK.out.mono ?_;rintro e w8 ⟨An,cn,Ae,ce,he_,hs8,he8,hE8,hn1,hn2⟩;unfold nodeV at he_;subst he_;have hb2d:b2 < wr.drew.heap.size:=hb2l;have hS8:=(show (Blk w8 g1 31 #[.slice A1 nw c1,.slice A2 no c2,.slice A3 n c3,y0,y1,y2,y3,y4,y5,y6,y7,y8]∧Blk w8 g3 45 #[.slice A1 nw c1,.slice Aq nw cq,.slice A' (NK + q) c',.int .i64 (NK:Int)])∧w8.rangeAt b2 (o2 + q * 9) [u0,u1,u2,u3,u4,u5,u6,u7,u8] from ⟨⟨HS.out.1.1.ext hE8,HS.out.1.2.ext hE8⟩,fun j v hv=>(hE8.cell (p:=⟨b2,o2 + q * 9 + j,none⟩) hb2d).trans (HS.out.2 j v hv)⟩)
      refine hK2 _ _ hS8 ?_;refine seqK_plain rfl ?_;intro K3 hK3;go_simp;have hD0:=HDr.out.ext (Ext.drew' (Ext.rfl' wr));obtain ⟨⟨xs,hO,hel⟩,hfree⟩:=hD0;have hOin:=own_in hO;have hO2:=hO;rw [HLEN.out] at hO2;obtain ⟨wX,hwX⟩:=V1 (w8.alloc (.cells #[.int .i64 DD.kind,.int .i64 DD.at_,.int .i64 DD.lo,.int .i64 DD.hi,.int .i64 DD.most,.slice An DD.names.length cn,.slice Ae DD.edges.length ce] 94));have hX:Ext w8 wX:=by rw [hwX]; exact (Ext.rfl' w8).alloc nL _
      have hlX:w8.heap.size < wX.heap.size:=by rw [hwX,World.size_alloc]; omega
      have hrd:Reads wX (w8.heap.size + 1) 7 (some ⟨w8.heap.size,0,none⟩) 1 [.int .i64 DD.kind,.int .i64 DD.at_,.int .i64 DD.lo,.int .i64 DD.hi,.int .i64 DD.most,.slice An DD.names.length cn,.slice Ae DD.edges.length ce]:=by rw [hwX]; exact Qa6 w8 94 [.int .i64 DD.kind,.int .i64 DD.at_,.int .i64 DD.lo,.int .i64 DD.hi,.int .i64 DD.most,.slice An DD.names.length cn,.slice Ae DD.edges.length ce] 7 rfl _ rfl
      have hb28:b2 < w8.heap.size:=Nat.lt_of_lt_of_le hb2d hE8.size;have hszX:w4.heap.size≤wX.heap.size:=by have h1:=HMr.out.size; have h2:=hE8.size; have h3:wr.drew.heap.size=wr.heap.size:=rfl; omega
      have hSX:=(show (Blk wX g1 31 #[.slice A1 nw c1,.slice A2 no c2,.slice A3 n c3,y0,y1,y2,y3,y4,y5,y6,y7,y8]∧Blk wX g3 45 #[.slice A1 nw c1,.slice Aq nw cq,.slice A' (NK + q) c',.int .i64 (NK:Int)])∧wX.rangeAt b2 (o2 + q * 9) [u0,u1,u2,u3,u4,u5,u6,u7,u8] from ⟨⟨hS8.1.1.ext hX,hS8.1.2.ext hX⟩,fun j v hv=>(hX.cell (p:=⟨b2,o2 + q * 9 + j,none⟩) hb28).trans (hS8.2 j v hv)⟩)
      rw [← hwX];refine hK3 _ _ hSX ?_;refine seqK_plain rfl ?_;intro K4 hK4;refine wp_append_DN wX (.tmp 40) (.tmp 52) rfl w4.heap.size (.slice A' (NK + q) c') (NK + q) xs rfl (w8.heap.size + 1) (some ⟨w8.heap.size,0,none⟩) 1 [.int .i64 DD.kind,.int .i64 DD.at_,.int .i64 DD.lo,.int .i64 DD.hi,.int .i64 DD.most,.slice An DD.names.length cn,.slice Ae DD.edges.length ce] rfl (own_ext (own_ext hO2 hE8) hX) hrd (by intro u hu; simp only [List.mem_cons,List.not_mem_nil,or_false] at hu; rcases hu with rfl | rfl | rfl | rfl | rfl | rfl | rfl <;> rfl) (by omega) hszX ?_
      intro A9 c9 w9 hown9 hgrow9 hob9;have hmv9:Mv (fun i=>∃ a,A'=some a∧a.block=i) wX w9:=Mv.of_grown hgrow9 fun g hg'=>own_block_of hg'
      have hg14:g1 < w4.heap.size:=by have h1:=HE23.out.size; omega
      have hS9:=(show (Blk w9 g1 31 #[.slice A1 nw c1,.slice A2 no c2,.slice A3 n c3,y0,y1,y2,y3,y4,y5,y6,y7,y8]∧Blk w9 g3 45 #[.slice A1 nw c1,.slice Aq nw cq,.slice A' (NK + q) c',.int .i64 (NK:Int)])∧w9.rangeAt b2 (o2 + q * 9) [u0,u1,u2,u3,u4,u5,u6,u7,u8] from ⟨⟨hmv9.blk hSX.1.1 (fun ⟨a,ha,e⟩=>by have:=hOin a ha; omega),hmv9.blk hSX.1.2 (fun ⟨a,ha,e⟩=>by have:=hOin a ha; omega)⟩,fun j v hv=>(hmv9.cell (p:=⟨b2,o2 + q * 9 + j,none⟩) (Nat.lt_of_lt_of_le hb28 hX.size) (fun ⟨a,ha,e⟩=>hAb a ha e)).trans (hSX.2 j v hv)⟩)
      have hDN:=DNs.push (d:=DD) (An:=An) (cn:=cn) (Ae:=Ae) (ce:=ce) hO hel hfree (by have h1:=HMr.out.size; have h3:wr.drew.heap.size=wr.heap.size:=rfl; omega) (by have h1:=HMr.out.size; have h3:wr.drew.heap.size=wr.heap.size:=rfl; omega) hE8 hs8 he8 hn1 hn2 hX hlX (by rw [HLEN.out]; exact hown9) (by rw [HLEN.out]; exact hgrow9) (by rw [HLEN.out]; exact hob9)
      have hLS:=HLr.out.push (((Ext.drew' (Ext.rfl' wr)).trans' hE8).trans' hX) hgrow9 hob9;have hset:=(Mv.rfl' (fun i=>i=g3) w9).set (i:=2) (.inr rfl) (.slice A9 (NK + q + 1) c9)
      obtain ⟨HDN,HLS,HM9⟩:=Z3 (hDN.keep hset (fun a ha e=>by obtain ⟨⟨_,hO9,_⟩,_⟩:=hDN; have:=own_base hO9 a ha; omega) (fun i hi e=>(hDN.free i hi).2.2.1 e)) (hLS.keep hset (fun a ha e=>(hLS.apart a ha).2.1 e)) ((((HMr.out.ext (Ext.drew' (Ext.rfl' wr))).ext hE8).ext hX).trans' hmv9 (fun i hi _ ⟨a,ha,e⟩=>by have:=hOin a ha; omega))
      have HB9:=hide hS9.1.2;obtain ⟨-,-,d2⟩:=X3 hS9.1.2;have e2:=hS9.1.2.free 2;refine hK4 _ _ hS9 ?_;refine seqK_done ?_;refine wpQuiet_nil ?_;refine seqK_done ?_;clear hO hel hfree hOin hO2 hwX hX hlX hrd hb28 hszX hSX hmv9 hS9 hDN hLS hset hown9 hgrow9 hob9 hS8 hs8 he8 hE8 hn1 hn2 hb2d;go_wp2_with fail
      refine hKz _ _ ?_;go_wp2_with fail
      go_roundw
      case rel=>exact ⟨q + 1,A9,c9,_,by omega,by go_num,HM9.out.set (.inr rfl) _,HB9.out.set_ 2 _,(by show DNs _ _ _ _ _ _ _; rw [← HNK.out,HMO2.out]; exact HDN.out),fun _=>HLS.out⟩
      case measure=>simp [intOf]; omega
     ·obtain rfl:q=NC:=by omega
      have hnx:s.nodesTo (k + 1)=s.nodesTo k ++ s.nodesFrom ((Qt (s.all k)).take q) (s.nodesTo k).length:=by
       rw [Sch.nodesTo_succ,List.take_of_length_le (Nat.le_of_eq HNC.out)];rfl
      have hln:(s.nodesTo (k + 1)).length=NK + q:=by rw [hnx,HSO.out k q (Nat.le_of_eq HNC.out.symm),← HNK.out]
      rw [← hnx] at HD;obtain ⟨HNX,HBr,HMr⟩:=Z3 hln hB hm;clear hnx hln hB hm;go_wp2_with fail
      go_roundw
      case rel=>exact ⟨k + 1,A',c',U',NK,by omega,by go_num,HMr.out,by rw [HNX.out]; exact HBr.out,HD,fun _=>by rw [Nat.add_sub_cancel]; exact HNK.out⟩
      case measure=>simp [intOf]; omega
   ·obtain rfl:k=N1:=by omega
    obtain ⟨h',n',p',k',An',cn',Ap',cp',hty,hyy⟩:=HRT.out.open2;unfold tyV at hyy;simp only [List.cons.injEq,and_true] at hyy;obtain ⟨rfl,rfl,rfl,rfl,rfl,rfl,rfl,rfl,rfl⟩:=hyy;have hnd:s.nodesTo k=s.nodes:=by rw [HN1.out,HNE.out]; rfl
    have hr:r=(s.nodesTo s.n).length:=by
     have:=HR.out (by have:=HN1.out; omega)
     rw [HN1.out,Nat.add_sub_cancel,HNE.out] at this;exact this
    have hri:s.rootI=if h'.kind=9 then s.start (s.find h'.name.1) else r:=by
     unfold Sch.rootI Sch.nodeI;rw [hty,← hr];rfl
    have hkf:h'.kind=9→0≤findL s.names h'.name.1∧0 < s.n:=fun h9=>by
     have hkr:s.Known s.root:=by
      have:=HG.out.known s.n nL
      rwa [Sch.all_end] at this
     have hf:=Qfo hkr (by rw [hty]; exact h9)
     rw [hty] at hf;refine ⟨hf,?_⟩;rcases Nat.eq_zero_or_pos s.n with e | e
     ·exfalso
      have hnm:s.names = []:=by unfold Sch.names; rw [e]; rfl
      rw [hnm] at hf;exact absurd hf (by unfold findL; simp)
     ·exact e
    obtain ⟨HRI,HKF⟩:=Z2 hri hkf;rw [hnd] at hB HD;have HDr:=hide HD.out;have hVr:=HV2.out.ext (HV4.out wr hm);have HVr:=hide hVr;have hEr:=HE2.out.trans' (HV4.out wr hm);obtain ⟨HEr,HM,HZr⟩:=Z3 hEr (HM4.out.mv hm) (HZ2.out.ext (HV4.out wr hm));obtain ⟨NN,hNN⟩:=V1 (s.nodes.length);rw [← hNN] at hB;obtain ⟨HNN,HBr⟩:=Z2 hNN hB;have hg3r:g3 < wr.heap.size:=hB.lt;have hg23:g2 < w4.heap.size:=by have:=HE23.out.size; omega
    have hg24:w.heap.size≤w4.heap.size:=by have h1:=HE4.out.size; exact h1
    have hw34:w.heap.size≤g3:=by have:=HE2.out.size; omega
    have hst:=fun h9=>HST.out wr hEr h'.name.1 (hkf h9).1 (by rw [HNE.out]; exact (hkf h9).2)
    obtain ⟨SI,hSI⟩:=V1 (s.start (s.find h'.name.1));rw [← hSI] at hst HRI;have HSTK:=hide hst;obtain ⟨RI,hRI⟩:=V1 (s.rootI);rw [← hRI] at HRI;have HRI0:=hide hRI;obtain ⟨v0,v1,v2,v3,v4,v5,v6,v7,v8,v9,v10,v11⟩:=X12 hVr;have e3:=hB.free 3;clear hty hnd hr hri hkf hm hB HD HR hVr hEr hNN hst hSI hRI;go_upto_if 58 with fail
    go_cut [] (fun wy=>Blk wy g3 45 #[.slice A1 nw c1,.slice Aq nw cq,.slice A NN c,.int .i64 (RI:Int)]∧Mv (fun i=>i=g3) wr wy)
    case first =>
     by_cases hk9:h'.kind=9
     ·have k9:(h'.kind == 9)=true:=by simpa using hk9
      have hri:=HRI.out;rw [if_pos hk9] at hri;have HRI2:=hide hri;have HSTK2:=hide (show Calls Tryz.prog 41 #[.agg #[.slice A1 nw c1,.slice A2 no c2,.slice A3 n c3,.int .i64 h'.kind,.int .i64 h'.at_,.int .i64 h'.lo,.int .i64 h'.hi,.int .i64 h'.most,.slice An' h'.names.length cn',.slice Ap' n' cp',.string h'.name.1,.int .i64 h'.name.2],.string h'.name.1] wr (fun e w'=>e = .returned (.int .i64 (SI:Nat))∧Ext wr w') from HSTK.out hk9)
      clear hri hk9;go_wp2_with fail
      refine HSTK2.out.mono ?_;rintro e w7 ⟨rfl,hE7⟩;have hB7:=HBr.out.ext hE7;obtain ⟨-,-,-,d3⟩:=X4 hB7;have e3:=hB7.free 3;obtain ⟨HB7,HM7⟩:=Z2 hB7 (Mv.of_ext (X:=fun i=>i=g3) hE7)
      clear hB7 hE7 v0 v1 v2 v3 v4 v5 v6 v7 v8 v9 v10 v11;go_wp2_with fail
      go_meet
      exact ⟨by rw [HRI2.out]; exact HB7.out.set_ 3 _,HM7.out.set (.inr rfl) _⟩
     ·have k9:(h'.kind == 9)=false:=by simpa using hk9
      have hri:=HRI.out;rw [if_neg hk9] at hri;have HRI2:=hide hri;clear hri hk9;go_wp2_with fail
      go_meet
      exact ⟨by rw [HRI2.out]; exact HBr.out,Mv.rfl' _ _⟩
    case rest =>
     rename World=>w7
     obtain ⟨hB7,hM7⟩:=hcut;have hD7:=HDr.out.keep hM7 (fun a ha e=>by obtain ⟨⟨_,hO,_⟩,_⟩:=HDr.out; have:=own_base hO a ha; omega) (fun i hi e=>(HDr.out.free i hi).2.2.1 e)
     have hZ7:=hM7.blk HZr.out (fun e=>by omega)
     have hMZ:=MatNe.of_zero (HM.out.mv hM7).at_ HMS.out (by rw [HML.out]; exact hnw0) hZ7
     have hrg:=Qb8 hB7;have hth:=Qbo hZ7 (o:=0) (m:=(#[.slice A1 nw c1,.slice Aq nw cq,.slice A NN c,.int .i64 (RI:Int)]:Array Value).size) nL;have hbf:=Qdr [.slice A1 nw c1,.slice Aq nw cq,.slice A NN c,.int .i64 (RI:Int)] [.slice none 0 0,.slice none 0 0,.slice none 0 0,.int .i64 0] hZ7 rfl;obtain ⟨HBF,HRG5,HTH2,HD7,HMZ,HE7⟩:=Z6 hbf hrg hth hD7 hMZ (hM7.below HEr.out (fun i e=>by rw [e]; exact hw34))
     clear hB7 hM7 hD7 hZ7 hMZ hrg hth hbf e3 v0 v1 v2 v3 v4 v5 v6 v7 v8 v9 v10 v11;go_upto_region 14 with fail
     refine wp_region_lit ?_;refine wpList_load_mid rfl 45 _ rfl g3 0 rfl _ _ HRG5.out Tryz.underlying45 rfl Quz ?_;refine wpList_store_mid rfl 45 _ _ rfl g2 0 #[.slice A1 nw c1,.slice Aq nw cq,.slice A NN c,.int .i64 (RI:Int)] rfl rfl HTH2.out (by kernel_rfl) (by simp [Value.oneCell']) ?_
     rename_i Kq hKq
     obtain ⟨w9,hw9⟩:=V1 (w7.setCells g2 0 [.slice A1 nw c1,.slice Aq nw cq,.slice A NN c,.int .i64 (RI:Int)]);have hb9:=HBF.out;have hm9:=Mv.setCells (X:=fun i=>i=g2) (g:=g2) (Mv.rfl' _ w7) rfl [.slice A1 nw c1,.slice Aq nw cq,.slice A NN c,.int .i64 (RI:Int)] 0
     rw [← hw9] at hb9 hm9;obtain ⟨HB9',HE9',HM9'⟩:=Z3 hb9 (hm9.below HE7.out (fun i e=>by rw [e]; exact hlo2)) hm9
     show wpList _ _ _ _ _ (w7.setCells g2 0 [.slice A1 nw c1,.slice Aq nw cq,.slice A NN c,.int .i64 (RI:Int)])
     rw [← hw9];clear hw9 hb9 hm9;refine wpList_nil ?_;refine hKq _ _ ?_;go_wp2_with fail
     refine bodyPost_ret (results_cell_row rfl _ _ g2 45 _ (0,0) _ rfl HB9'.out Tryz.underlying45 rfl (by kernel_rfl)) rfl ?_
     have hD9:=HD7.out.keep HM9'.out (fun a ha e=>by obtain ⟨⟨_,hO,_⟩,_⟩:=HD7.out; have:=own_base hO a ha; omega) (fun i hi e=>by have:=(HD7.out.free i hi).1; omega)
     obtain ⟨⟨xs,hO,hel⟩,hfree⟩:=hD9;exact ⟨_,rfl,⟨A1,c1,Aq,cq,A,c,xs,by rw [← HNN.out,← HRI0.out,← HNW.out],by rw [← HNW.out,← HMMh.out]; exact (HMZ.out.mv HM9'.out).at_,Reads.of_own hO,fun k hk=>(hel k hk).mv (Mv.rfl' (fun _=>False) _) fun i hi=>⟨fun hh=>hh,(hfree i hi).2.1⟩⟩,HE9'.out⟩
def NRow (w:World) (A:Option Addr) (s:Sch):Prop:=∃ xs,Reads w w.heap.size 7 A s.nodes.length xs∧∀ k (hk:k < s.nodes.length),ElAt w s.nodes[k] (fun i=>i < w.heap.size) ((xs.drop (k * 7)).take 7)
theorem NRow.form {w:World} {A:Option Addr} {s:Sch} (h:NRow w A s) (h0:0 < s.nodes.length):∃ b o,A=some ⟨b,o,none⟩∧b < w.heap.size∧∀ k,k < s.nodes.length→∃ An cn Ae ce,w.rangeAt b (o + k * 7) (nodeV (nodeAtL s k) An cn Ae ce)∧StrAt w w.heap.size An (nodeAtL s k).names∧EdgesAt w w.heap.size Ae (nodeAtL s k).edges:=by
 obtain ⟨xs,h1,h2⟩:=h;obtain ⟨b,o,e,hb,hc⟩:=h1.form h0 (by decide)
 refine ⟨b,o,e,hb,fun k hk=>?_⟩
 obtain ⟨An,cn,Ae,ce,e1,hs,he,_⟩:=h2 k hk;rw [Qam hk];refine ⟨An,cn,Ae,ce,fun j v hj=>?_,hs,he⟩
 rw [← e1] at hj;have hj7:j < 7:=by
  have:=(List.getElem?_eq_some_iff.1 hj).1
  rw [List.length_take] at this;omega
 rw [List.getElem?_take_of_lt hj7,List.getElem?_drop] at hj;have:=hc (k * 7 + j) v hj
 rw [← Nat.add_assoc] at this;exact this
theorem DPlan.open_ {w:World} {s:Sch} {us:List Value} (h:DPlan w s us):∃ A1 c1 Aq cq A c,us = [.slice A1 s.ws.length c1,.slice Aq s.ws.length cq,.slice A s.nodes.length c,.int .i64 (s.rootI:Nat)]∧MatAt w w.heap.size Aq (leads s.ws.length (prs s.ws s.os))∧NRow w A s:=by
 obtain ⟨A1,c1,Aq,cq,A,c,xs,h1,h2,h3,h4⟩:=h;exact ⟨A1,c1,Aq,cq,A,c,h1,h2,xs,h3,h4⟩
theorem Qma:(Tryz.prog.info? 95).map (·.size)=some 10:=by kernel_rfl
set_option maxRecDepth 100000 in
theorem Qmb (w:World):Calls Tryz.prog 9 #[] w (fun e w'=>e = .returned (.bool true)∧Ext w w'):=by
 have hq:=Qhf;obtain ⟨HEX,HBD,HWK,HCK,HB0⟩:=Z5 (Qjj w) (fun vs w1 (h:SchAt w1 schE vs)=>Qi2 schE vs w1 h Qe5) (fun gp A c w1 (h:PlanAt w1 gp schE) (hl:StpsAt w1 w1.heap.size A [stpE1])=>Qnj gp schE A c 1 [stpE1] w1 h (Qhz Qe5 (by rw [Qh3])) Qe5 hl rfl (fun k hk=>by obtain rfl:k=0:=(by simpa using hk); show stpE1.name.size≤maxLen; decide) (by omega)) (fun gp w1 (h:PlanAt w1 gp schE)=>Ql3 gp schE w1 h (Qhz Qe5 (by rw [Qh3])) Qe5) Qh3
 rw [Qrk] at HWK;rw [Qpg] at HCK;unfold Qtu at HWK;unfold fltV at HCK;unfold Qdo fltV at HBD;obtain ⟨B0,hB0⟩:=V1 (schE.badK schE.n);rw [← hB0] at HBD HB0;clear hB0;go_enter Tryz.func9,Tryz.ntmps9
 go_wp2_with fail
 refine HEX.out.mono ?_;rintro e w1 ⟨vs,rfl,hS1,hE1⟩;obtain ⟨HS1,HE1⟩:=Z2 hS1 hE1;clear hS1 hE1;go_wp2_with fail
 refine (HBD.out vs w1 HS1.out).mono ?_;rintro e w2 (⟨hne,_⟩ | ⟨_,gp,rfl,hP2,hE2⟩)
 ·exact absurd (by rw [HB0.out]) hne
 obtain ⟨HP2,HE2⟩:=Z2 hP2 (HE1.out.trans' hE2);clear hP2 hE2;obtain ⟨w3,g3,hw3,hg3,Hw3,Hg3,hF,hFE⟩:=T0 w2 34 #[.int .i64 0,.int .i64 0];obtain ⟨w4,g4,hw4,hg4,Hw4,Hg4,hT,hTE⟩:=T0 w3 76 #[.int .i64 1,.int .i64 0,.string ⟨#[120]⟩];obtain ⟨HE4,HP4⟩:=Z2 ((HE2.out.trans' hFE).trans' hTE) ((HP2.out.ext hFE).ext hTE);have HL4:=hide (show StpsAt w4 w4.heap.size (some ⟨g4,0,none⟩) [stpE1] from ⟨rfl,fun _=>⟨_,rfl,hT.lt,fun j u hu=>by
  have e:(⟨g4,0,none⟩:Addr).add j=⟨g4,j,none⟩:=by
   unfold Addr.add;split
   ·next h=>rw [h]
   ·simp
  rw [e,hT.cell,gA];exact hu⟩⟩)
 clear hw3 hg3 hw4 hg4 hF hFE hT hTE;go_upto_region 2 with fail
 rw [← Hw3.out];refine wp_region_lit ?_;refine wpList_plain rfl fun K0 hK0=>?_
 go_simp;refine hK0 _ _ ?_;refine wpList_plain rfl fun K1 hK1=>?_
 go_simp;refine hK1 _ _ ?_;refine wpList_plain rfl fun K2 hK2=>?_
 go_simp;refine hK2 _ _ ?_;rw [← Hw4.out,← Hg4.out];go_wp2_with fail
 refine (HWK.out gp (some ⟨g4,0,none⟩) 1 w4 HP4.out HL4.out).mono ?_;rintro e w5 ⟨rfl,hE5⟩;obtain ⟨HP5,HE5⟩:=Z2 (HP4.out.ext hE5) (HE4.out.trans' hE5);clear hE5;go_wp2_with fail
 refine (HCK.out gp w5 HP5.out).mono ?_;rintro e w6 ⟨rfl,hE6⟩;have HE6:=hide (HE5.out.trans' hE6);clear hE6;go_wp2_with fail
 go_ret
 exact ⟨rfl,HE6.out⟩
def Qbe (s:Sch):Bool:=!Qcp s && ((s.badK 99).1 == 0 && (s.badK 99).2 == 0)
theorem Qtk {s:Sch} (h:(s.badK 99).1=0):(s.badK s.n).1=0:=by
 obtain ⟨h1,h2,h3,h4,h5⟩:=Qhy h;have hn:=Qrc h2;have hl:wrongL s.ws s.os=(0,0):=Qkf h1;rw [Qdp hl h2 h3 h4,← Sch.loops_same (closed s) (k:=99) (by omega)]
 exact h5
theorem Qca {s:Sch} (hz:SchSz s) (h:Qbe s=true):s.Good∧(s.badK s.n).1=0:=by
 unfold Qbe at h;simp only [Bool.and_eq_true,beq_iff_eq] at h;have:=Qtk h.2.1
 exact ⟨Qhz hz this,this⟩
theorem Qpq {s:Sch} (h:Qbe s=true):s.rightF.1=0:=by
 unfold Qbe at h;simp only [Bool.and_eq_true,beq_iff_eq] at h;exact (Qhy h.2.1).2.2.1
set_option maxRecDepth 100000 in
theorem Qns (s:Sch) (vs:List Value) (w:World) (hS:SchAt w s vs) (hz:SchSz s):Calls Tryz.prog 8 #[.agg vs.toArray] w (fun e w'=>e = .returned (.bool (Qbe s))∧Ext w w'):=by
 have hq:=Qhf;have hgr:=fun w1 (hE:Ext w w1)=>Qrl s vs w1 (hS.ext hE) hz
 have hwr:=fun w1 (hE:Ext w w1) (hg:Qcp s=false)=>Qpl s vs w1 (hS.ext hE) hz (Qkc hg).1 (Qkc hg).2.2
 obtain ⟨A1,c1,A2,c2,A3,c3,vr,rfl,hA1,hA2,hA3,hR⟩:=hS;obtain ⟨y0,y1,y2,y3,y4,y5,y6,y7,y8,rfl⟩:∃ y0 y1 y2 y3 y4 y5 y6 y7 y8:Value,vr = [y0,y1,y2,y3,y4,y5,y6,y7,y8]:=by obtain ⟨y0,y1,y2,y3,y4,y5,y6,y7,y8,e⟩:=hR.nine; exact ⟨y0,y1,y2,y3,y4,y5,y6,y7,y8,e⟩
 obtain ⟨nw,hnw,no,hno,n,hn⟩:=V3 (s.ws.length) (s.os.length) (s.n);rw [← hnw,← hno,← hn] at hgr hwr ⊢;have HG:=hide (show ∀ w1,Ext w w1→Calls Tryz.prog 18 #[.agg #[.slice A1 nw c1,.slice A2 no c2,.slice A3 n c3,y0,y1,y2,y3,y4,y5,y6,y7,y8]] w1 (fun e w'=>e = .returned (.bool (Qcp s))∧Ext w1 w') from hgr)
 have HW:=hide (show ∀ w1,Ext w w1→Qcp s=false→Calls Tryz.prog 27 #[.agg #[.slice A1 nw c1,.slice A2 no c2,.slice A3 n c3,y0,y1,y2,y3,y4,y5,y6,y7,y8]] w1 (fun e w'=>e = .returned (fltV (s.badK 99))∧Ext w1 w') from hwr)
 show Calls Tryz.prog 8 #[.agg #[.slice A1 nw c1,.slice A2 no c2,.slice A3 n c3,y0,y1,y2,y3,y4,y5,y6,y7,y8]] w (fun e w'=>e = .returned (.bool (Qbe s))∧Ext w w')
 unfold Qbe;obtain ⟨⟨b1,b2⟩,hb⟩:∃ x,x=s.badK 99:=⟨_,rfl⟩;obtain ⟨g,hg⟩:=V1 (Qcp s);rw [← hg] at HG HW;rw [← hb] at HW;rw [← hb,← hg];clear hb hg hgr hwr hA1 hA2 hA3 hR hnw hno hn hz;unfold fltV at HW;obtain ⟨w1,g1,hw1,hg1,Hw1,Hg1,hB,hBE⟩:=T0 w 31 #[.slice A1 nw c1,.slice A2 no c2,.slice A3 n c3,y0,y1,y2,y3,y4,y5,y6,y7,y8];obtain ⟨HE1,HB1⟩:=Z2 hBE hB;obtain ⟨v0,v1,v2,v3,v4,v5,v6,v7,v8,v9,v10,v11⟩:=X12 hB;clear hw1 hg1 hB hBE;go_enter Tryz.func8,Tryz.ntmps8
 go_upto_region 1 with fail
 rw [← Hw1.out,← Hg1.out];go_wp2_with fail
 refine (HG.out w1 HE1.out).mono ?_;rintro e w2 ⟨rfl,hE2⟩;have HE2:=hide (HE1.out.trans' hE2);have hB2:=HB1.out.ext hE2;clear v0 v1 v2 v3 v4 v5 v6 v7 v8 v9 v10 v11;obtain ⟨v0,v1,v2,v3,v4,v5,v6,v7,v8,v9,v10,v11⟩:=X12 hB2;clear hE2 hB2;cases g with
 | true =>
  go_wp2_with fail
  go_ret
  exact ⟨rfl,HE2.out⟩
 | false =>
  go_wp2_with fail
  refine (HW.out w2 HE2.out (by trivial)).mono ?_
  rintro e w3 ⟨rfl,hE3⟩;have HE3:=hide (HE2.out.trans' hE3);clear hE3 v0 v1 v2 v3 v4 v5 v6 v7 v8 v9 v10 v11;go_wp2_with fail
  go_ret
  exact ⟨rfl,HE3.out⟩
end Go.Proofs.YtanpljalbijfkaaGreat
