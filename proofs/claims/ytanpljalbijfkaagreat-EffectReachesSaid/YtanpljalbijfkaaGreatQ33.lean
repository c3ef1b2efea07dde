/- . -/
import Derived.Test.YtanpljalbijfkaaGreatQ28
import Derived.DeepKeys5
import Derived.Maps.OwnOps
import Derived.Maps.Views
import Derived.ArgAppend
import Derived.Sort.OwnSortedInts
import Derived.Shelf.Sort.Plain
import Derived.Test.YtanpljalbijfkaaGreatProg
namespace Go.Proofs.YtanpljalbijfkaaGreat
open Go.RowKit
set_option maxHeartbeats 16000000
inductive Rch (s:Sch):Nat × Nat→Prop
 | root:Rch s (s.rootI,Qbi s)
 | step {x:Nat × Nat} {e:EdgeP} : Rch s x→e ∈ (nodeAtL s x.1).edges→e.bare=false→Rch s (e.tgt.toNat,jnS s x.2 e.label.toNat)
def goE (s:Sch) (x:Nat × Nat) (e:EdgeP):Nat × Nat:=(e.tgt.toNat,jnS s x.2 e.label.toNat)
def inP (s:Sch) (x:Nat × Nat):Prop:=x.1 < s.nodes.length∧x.2 < s.ws.length
theorem Qub {s:Sch} (hg:s.Good):inP s (s.rootI,Qbi s):=⟨Qg1 hg,Qg2 hg⟩
theorem Qu0 {s:Sch} (hg:s.Good) (hz:SchSz s) {x:Nat × Nat} (h:inP s x) {e:EdgeP} (he:e ∈ (nodeAtL s x.1).edges) (hb:e.bare=false):inP s (goE s x e):=by
 have hd:NodeOk s (nodeAtL s x.1):=by rw [Qam h.1]; exact Qbu hg hz h.1
 obtain ⟨i,hi,rfl⟩:=List.getElem_of_mem he;have hok:=hd.edge i hi;obtain ⟨m,hm1,hm2⟩:=hok.to_ hb;obtain ⟨l,hl1,hl2⟩:=hok.lab;refine ⟨?_,?_⟩
 ·show ((nodeAtL s x.1).edges[i].tgt).toNat < _
  rw [hm1]; exact hm2
 ·show jnS s x.2 ((nodeAtL s x.1).edges[i].label).toNat < _
  rw [hl1]; exact Qgm hg h.2 hl2
theorem Rch.in_ {s:Sch} (hg:s.Good) (hz:SchSz s) {x:Nat × Nat} (h:Rch s x):inP s x:=by
 induction h with
 | root=>exact Qub hg
 | step _ he hb ih=>exact Qu0 hg hz ih he hb
structure Vis (s:Sch) (L:List (Nat × Nat)) (Q:List (Nat × Nat)):Prop where
 nodup:(L ++ Q).Nodup
 root:(s.rootI,Qbi s) ∈ L ++ Q
 ok:∀ x ∈ L ++ Q,Rch s x
 closed:∀ x ∈ L,∀ e ∈ (nodeAtL s x.1).edges,e.bare=false→goE s x e ∈ L ++ Q
structure Mid (s:Sch) (L:List (Nat × Nat)) (x:Nat × Nat) (Q:List (Nat × Nat)) (q:Nat):Prop where
 nodup:(L ++ x :: Q).Nodup
 root:(s.rootI,Qbi s) ∈ L ++ x :: Q
 ok:∀ y ∈ L ++ x :: Q,Rch s y
 closed:∀ y ∈ L,∀ e ∈ (nodeAtL s y.1).edges,e.bare=false→goE s y e ∈ L ++ x :: Q
 some_:∀ i (hi:i < (nodeAtL s x.1).edges.length),i < q→(nodeAtL s x.1).edges[i].bare=false→goE s x (nodeAtL s x.1).edges[i] ∈ L ++ x :: Q
theorem Vis.start (s:Sch):Vis s [] [(s.rootI,Qbi s)] :=
 ⟨by simp,by simp,fun x hx=>(by have h:x=(s.rootI,Qbi s):=(by simpa using hx); rw [h]; exact .root),fun x hx=>by cases hx⟩
theorem Vis.take {s:Sch} {L Q:List (Nat × Nat)} {x:Nat × Nat} (h:Vis s L (x :: Q)):Mid s L x Q 0 :=
 ⟨h.nodup,h.root,h.ok,h.closed,fun _ _ hi=>absurd hi (Nat.not_lt_zero _)⟩
theorem Qg3 {α:Type} (L Q:List α) (x:α):(L ++ [x]) ++ Q=L ++ x :: Q:=by simp
theorem Mid.done {s:Sch} {L Q:List (Nat × Nat)} {x:Nat × Nat} {q:Nat} (h:Mid s L x Q q) (hq:(nodeAtL s x.1).edges.length≤q):Vis s (L ++ [x]) Q:=by
 refine ⟨by rw [Qg3]; exact h.nodup,by rw [Qg3]; exact h.root,by rw [Qg3]; exact h.ok,fun y hy e he hb=>?_⟩
 rw [Qg3];rcases List.mem_append.1 hy with hy | hy
 ·exact h.closed y hy e he hb
 ·obtain rfl:y=x:=by simpa using hy
  obtain ⟨i,hi,rfl⟩:=List.getElem_of_mem he;exact h.some_ i hi (by omega) hb
theorem Mid.pass {s:Sch} {L Q:List (Nat × Nat)} {x:Nat × Nat} {q:Nat} (h:Mid s L x Q q) (hq:q < (nodeAtL s x.1).edges.length) (hp:(nodeAtL s x.1).edges[q].bare=true∨goE s x (nodeAtL s x.1).edges[q] ∈ L ++ x :: Q):Mid s L x Q (q + 1):=by
 refine ⟨h.nodup,h.root,h.ok,h.closed,fun i hi hiq hb=>?_⟩
 rcases Nat.lt_or_ge i q with h1 | h1
 ·exact h.some_ i hi h1 hb
 ·obtain rfl:i=q:=by omega
  rcases hp with hp | hp
  ·rw [hb] at hp; cases hp
  ·exact hp
theorem Mid.push {s:Sch} {L Q:List (Nat × Nat)} {x:Nat × Nat} {q:Nat} (h:Mid s L x Q q) (hq:q < (nodeAtL s x.1).edges.length) (hb:(nodeAtL s x.1).edges[q].bare=false) (hn:¬ goE s x (nodeAtL s x.1).edges[q] ∈ L ++ x :: Q):Mid s L x (Q ++ [goE s x (nodeAtL s x.1).edges[q]]) (q + 1):=by
 obtain ⟨y,hy⟩:=V1 (goE s x (nodeAtL s x.1).edges[q]);rw [← hy] at hn ⊢;have e:L ++ x :: (Q ++ [y])=(L ++ x :: Q) ++ [y]:=by simp
 have hsub:∀ z,z ∈ L ++ x :: Q→z ∈ L ++ x :: (Q ++ [y]):=fun z hz=>by rw [e]; exact List.mem_append_left _ hz
 refine ⟨?_,hsub _ h.root,?_,fun z hz e he hb=>hsub _ (h.closed z hz e he hb),fun i hi hiq hbi=>?_⟩
 ·rw [e,List.nodup_append];refine ⟨h.nodup,by simp,fun a ha b hb'=>?_⟩
  obtain rfl:b=y:=by simpa using hb'
  rintro rfl;exact hn ha
 ·rw [e];intro z hz;rcases List.mem_append.1 hz with hz | hz
  ·exact h.ok z hz
  ·obtain rfl:z=y:=by simpa using hz
   rw [hy];exact .step (h.ok x (by simp)) (List.getElem_mem hq) hb
 ·rcases Nat.lt_or_ge i q with h1 | h1
  ·exact hsub _ (h.some_ i hi h1 hbi)
  ·obtain rfl:i=q:=by omega
   rw [e,← hy];simp
theorem Qi7 {n m:Nat} {L:List (Nat × Nat)} (hd:L.Nodup) (h:∀ x ∈ L,x.1 < n∧x.2 < m):L.length≤n * m:=by
 have hinj:∀ x ∈ L,∀ y ∈ L,x.1 * m + x.2=y.1 * m + y.2→x=y:=by
  intro x hx y hy e;have h1:=(h x hx).2;have h2:=(h y hy).2;have e1:x.2=y.2:=by
   have a:=congrArg (· % m) e;simp only [Nat.mul_comm _ m,Nat.mul_add_mod,Nat.mod_eq_of_lt h1,Nat.mod_eq_of_lt h2] at a;exact a
  have e2:x.1 * m=y.1 * m:=by omega
  have hm:0 < m:=by omega
  exact Prod.ext (Nat.eq_of_mul_eq_mul_right hm e2) e1
 have hlt:∀ x ∈ L,x.1 * m + x.2 < n * m:=fun x hx=>by
  have h1:=h x hx;have:(x.1 + 1) * m≤n * m:=Nat.mul_le_mul_right m h1.1
  rw [Nat.succ_mul] at this;omega
 have hd2:(L.map fun x=>x.1 * m + x.2).Nodup:=by
  unfold List.Nodup at hd ⊢;rw [List.pairwise_map];exact hd.imp_of_mem fun ha hb hne e=>hne (hinj _ ha _ hb e)
 have hsub:(L.map fun x=>x.1 * m + x.2) ⊆ List.range (n * m):=fun z hz=>by
  obtain ⟨x,hx,rfl⟩:=List.mem_map.1 hz;exact List.mem_range.2 (hlt x hx)
 have:=hd2.length_le_of_subset hsub
 simpa using this
theorem Vis.few {s:Sch} {L Q:List (Nat × Nat)} (hg:s.Good) (hz:SchSz s) (h:Vis s L Q):L.length + Q.length≤s.nodes.length * s.ws.length:=by
 have:=Qi7 h.nodup fun x hx=>(h.ok x hx).in_ hg hz
 rwa [List.length_append] at this
theorem Mid.few {s:Sch} {L Q:List (Nat × Nat)} {x:Nat × Nat} {q:Nat} (hg:s.Good) (hz:SchSz s) (h:Mid s L x Q q):L.length + (Q.length + 1)≤s.nodes.length * s.ws.length:=by
 have:=Qi7 h.nodup fun y hy=>(h.ok y hy).in_ hg hz
 rwa [List.length_append] at this
theorem Vis.all {s:Sch} {L:List (Nat × Nat)} (h:Vis s L []) (x:Nat × Nat):x ∈ L↔Rch s x:=by
 have e:L ++ []=L:=by simp
 refine ⟨fun hx=>h.ok x (by rw [e]; exact hx),fun hx=>?_⟩
 induction hx with
 | root=>have:=h.root; rwa [e] at this
 | step _ he hb ih=>have:=h.closed _ ih _ he hb; rwa [e] at this
def lvsOf (L:List (Nat × Nat)) (i:Nat):List Nat:=(L.filter fun x=>x.1 == i).map (·.2)
theorem lvsOf_snoc (L:List (Nat × Nat)) (x:Nat × Nat) (i:Nat):lvsOf (L ++ [x]) i=if x.1=i then lvsOf L i ++ [x.2] else lvsOf L i:=by
 unfold lvsOf;rw [List.filter_append,List.map_append];by_cases h:x.1=i
 ·rw [if_pos h]; simp [h]
 ·rw [if_neg h]; simp [h]
theorem mem_lvsOf {L:List (Nat × Nat)} {i a:Nat} : a ∈ lvsOf L i↔(i,a) ∈ L:=by
 unfold lvsOf;simp only [List.mem_map,List.mem_filter,beq_iff_eq];constructor
 ·rintro ⟨⟨x,y⟩,⟨h1,rfl⟩,rfl⟩; exact h1
 ·intro h; exact ⟨(i,a),⟨h,rfl⟩,rfl⟩
theorem Qnt {L:List (Nat × Nat)} (h:L.Nodup) (i:Nat):(lvsOf L i).Nodup:=by
 unfold lvsOf;have h1:(L.filter fun x=>x.1 == i).Nodup:=h.filter _
 unfold List.Nodup at h1 ⊢;rw [List.pairwise_map];refine h1.imp_of_mem fun {a b} ha hb hne e=>hne ?_
 have ha:=(List.mem_filter.1 ha).2;have hb:=(List.mem_filter.1 hb).2;simp only [beq_iff_eq] at ha hb;exact Prod.ext (ha.trans hb.symm) e
open Classical in
noncomputable def reachL (s:Sch) (i:Nat):List Nat:=(List.range s.ws.length).filter fun a=>decide (Rch s (i,a))
theorem mem_reachL {s:Sch} (hg:s.Good) (hz:SchSz s) {i a:Nat} : a ∈ reachL s i↔Rch s (i,a):=by
 unfold reachL;simp only [List.mem_filter,List.mem_range,decide_eq_true_eq];exact ⟨fun h=>h.2,fun h=>⟨(h.in_ hg hz).2,h⟩⟩
theorem Qkp {l m:List Int} (hl:l.Pairwise (· < ·)) (hm:m.Pairwise (· < ·)) (h:∀ x,x ∈ l↔x ∈ m):l=m:=by
 induction l generalizing m with
 | nil =>
  cases m with
  | nil=>rfl
  | cons y r=>exact absurd ((h y).2 (by simp)) (by simp)
 | cons x l ih =>
  cases m with
  | nil=>exact absurd ((h x).1 (by simp)) (by simp)
  | cons y r =>
   obtain ⟨a1,a2⟩:=List.pairwise_cons.1 hl;obtain ⟨b1,b2⟩:=List.pairwise_cons.1 hm;have e:x=y:=by
    rcases List.mem_cons.1 ((h x).1 (by simp)) with e | e
    ·exact e
    ·rcases List.mem_cons.1 ((h y).2 (by simp)) with e' | e'
     ·exact e'.symm
     ·have:=b1 x e; have:=a1 y e'; omega
   subst e;congr 1
   refine ih a2 b2 fun z=>⟨fun hz=>?_,fun hz=>?_⟩
   ·rcases List.mem_cons.1 ((h z).1 (by simp [hz])) with e | e
    ·subst e; have:=a1 z hz; omega
    ·exact e
   ·rcases List.mem_cons.1 ((h z).2 (by simp [hz])) with e | e
    ·subst e; have:=b1 z hz; omega
    ·exact e
theorem Qkq (s:Sch) (i:Nat):(reachL s i).Pairwise (· < ·):=List.pairwise_lt_range.filter _
theorem Qpr {s:Sch} (hg:s.Good) (hz:SchSz s) {L:List (Nat × Nat)} (h:Vis s L []) (i:Nat):(((lvsOf L i).map fun (a:Nat)=>(a:Int)).mergeSort fun x y=>decide (x≤y))=(reachL s i).map fun (a:Nat)=>(a:Int):=by
 have hd:L.Nodup:=by have:=h.nodup; rwa [show L ++ []=L by simp] at this
 have hdl:=Qnt hd i;have hdi:((lvsOf L i).map fun (a:Nat)=>(a:Int)).Nodup:=by
  unfold List.Nodup at hdl ⊢;rw [List.pairwise_map];exact hdl.imp fun hne e=>hne (Int.ofNat.inj e)
 refine Qkp ?_ ?_ fun x=>?_
 ·have h1:=List.pairwise_mergeSort (le:=fun x y:Int=>decide (x≤y)) (fun a b c h1 h2=>by simp at *; omega) (fun a b=>by simp; omega) ((lvsOf L i).map fun (a:Nat)=>(a:Int))
  have h2:(((lvsOf L i).map fun (a:Nat)=>(a:Int)).mergeSort fun x y=>decide (x≤y)).Nodup:=(List.mergeSort_perm _ _).nodup_iff.2 hdi
  unfold List.Nodup at h2;exact (h1.and h2).imp fun {a b} ⟨ha,hb⟩=>by simp at ha; omega
 ·rw [List.pairwise_map];exact (Qkq s i).imp fun h=>by omega
 ·rw [(List.mergeSort_perm _ _).mem_iff];simp only [List.mem_map];constructor
  ·rintro ⟨a,ha,rfl⟩; exact ⟨a,(mem_reachL hg hz).2 ((h.all (i,a)).1 (mem_lvsOf.1 ha)),rfl⟩
  ·rintro ⟨a,ha,rfl⟩; exact ⟨a,mem_lvsOf.2 ((h.all (i,a)).2 ((mem_reachL hg hz).1 ha)),rfl⟩
end Go.Proofs.YtanpljalbijfkaaGreat
namespace Go.Proofs.YtanpljalbijfkaaGreat
open Go.RowKit
open Go.Maps (Keyed IsMap atKey_put_same atKey_put_other)
set_option maxHeartbeats 16000000
theorem Qrt:(103:TypeId) < Tryz.prog.types.size:=of_decide_eq_true (by kernel_rfl)
theorem Quc:laidOutB Tryz.prog=true:=by kernel_rfl
theorem Qud:Tryz.prog.keyTypeAt 2 103=true:=by kernel_rfl
theorem plcLaw:Keyed Tryz.prog 103:=Keyed.of_law (deep_law_laid Quc (m:=2) (by omega) Qrt Qud (by rw [Tryz.underlying103]))
theorem Que (w:World):(zeroValue 3).run Tryz.prog w = .ok (.int .i64 0) w:=by kernel_rfl
theorem Quf:∃ m,Tryz.prog.types.size=m + 1:=by
 cases h:Tryz.prog.types.size with
 | zero=>exact absurd Qrt (by rw [h]; exact Nat.not_lt_zero _)
 | succ m=>exact ⟨m,rfl⟩
def Qgt (x:Nat × Nat):Value:=.agg #[.int .i64 (x.1:Int),.int .i64 (x.2:Int)]
theorem Qtl {x y:Nat × Nat} (h:Qgt x=Qgt y):x=y:=by
 unfold Qgt at h;simp only [Value.agg.injEq,Array.mk.injEq,List.cons.injEq,Value.int.injEq,and_true,true_and,Int.natCast_inj] at h;exact Prod.ext h.1 h.2
theorem Qmc {a:Nat} (h:a≤1000000):(Lit.int .i64 (a:Int)).wf=true:=by
 have e:IntKind.i64.min = -9223372036854775808:=by decide
 have e2:IntKind.i64.max=9223372036854775807:=by decide
 simp only [Lit.wf,Bool.and_eq_true,decide_eq_true_eq,e,e2];omega
theorem Qoa (x:Nat × Nat) (ha:x.1≤1000000) (hb:x.2≤1000000):∃ kl,keyOf Tryz.prog 103 (Qgt x)=some kl:=by
 obtain ⟨m,hm⟩:=Quf;have hk:Tryz.prog.keyType 103=true:=by kernel_rfl
 have hc:Tryz.prog.cellsOf 103=2:=by kernel_rfl
 have hi:Tryz.prog.cellsOf 3=1:=by kernel_rfl
 have wa:=Qmc ha;have wb:=Qmc hb;have hf:(Qgt x).formed Tryz.prog 103=true:=by
  unfold Qgt;simp [Value.formed,Tryz.underlying103,hc]
 unfold keyOf;rw [Tryz.underlying103];dsimp only
 rw [hk,hf,hm];unfold Qgt;simp [Program.keyLits,Tryz.underlying103,Tryz.underlying3,hc,hi,Value.cells,wa,wb]
def MapAt (w:World) (b:Nat) (S:List (Nat × Nat)):Prop :=
 ∃ (D:DataW Unit) (n:Nat),w.ownsMap Tryz.prog 103 (plainElem Tryz.prog 3) b n D∧IsMap D∧n≤S.length∧∀ x kl,keyOf Tryz.prog 103 (Qgt x)=some kl→D.atKey kl (.lit (.int .i64 0)) = .lit (.int .i64 (if x ∈ S then 1 else 0))
section
variable {w w':World} {b:Nat} {S:List (Nat × Nat)}
theorem MapAt.new (w:World):MapAt (w.alloc (.map #[] 0)) w.heap.size [] :=
 ⟨.map [],0,World.ownsMap_made w Tryz.prog _ _,⟨[],rfl⟩,Nat.zero_le _,fun x kl _=>by rw [WideAt.atKey_none _ (fun p hp=>by cases hp)]; rfl⟩
theorem MapAt.of_block (h:MapAt w b S) (e:w'.heap[b]? = w.heap[b]?):MapAt w' b S:=by
 obtain ⟨D,n,⟨es,clock,h1,h2⟩,h3⟩:=h;exact ⟨D,n,⟨es,clock,e.trans h1,h2⟩,h3⟩
theorem MapAt.lt (h:MapAt w b S):b < w.heap.size:=by
 obtain ⟨D,n,h1,_⟩:=h;exact h1.lt
theorem MapAt.no_row (h:MapAt w b S) {g:Nat} {t:TypeId} {cs:Array Value} (hB:Blk w g t cs):b≠g:=by
 rintro rfl;obtain ⟨D,n,⟨es,clock,h1,_⟩,_⟩:=h;unfold Blk at hB;rw [hB] at h1;cases h1
theorem MapAt.look (h:MapAt w b S) (x:Nat × Nat) (ha:x.1≤1000000) (hb:x.2≤1000000):(Instr.lookup 109 (.map (some b)) (.agg #[.int .i64 (x.1:Int),.int .i64 (x.2:Int)]) false).run Tryz.prog w = .ok (.int .i64 (if x ∈ S then 1 else 0)) w:=by
 obtain ⟨D,n,h1,h2,h3,h4⟩:=h;obtain ⟨kl,hkl⟩:=Qoa x ha hb;obtain ⟨c,e1,e2,_⟩:=h1.lookup_int plcLaw Tryz.underlying109 Tryz.underlying3 (Que w) hkl;have h5:=e2.symm.trans (h4 x kl hkl);simp only [DataW.lit.injEq,Lit.int.injEq,true_and] at h5;rw [← h5];exact e1
theorem MapAt.put (h:MapAt w b S) (x:Nat × Nat) (ha:x.1≤1000000) (hb:x.2≤1000000) (hn:S.length≤1000000):∃ w',(Instr.mapUpdate 109 (.map (some b)) (.agg #[.int .i64 (x.1:Int),.int .i64 (x.2:Int)]) (.int .i64 1)).run Tryz.prog w = .ok () w'∧MapAt w' b (S ++ [x])∧w.grownBy w' (some b):=by
 obtain ⟨D,n,h1,h2,h3,h4⟩:=h;obtain ⟨kl,hkl⟩:=Qoa x ha hb;obtain ⟨w',e1,e2,e3⟩:=h1.update plcLaw Tryz.underlying109 (by unfold maxLen; omega) hkl (plainElem_int Tryz.underlying3 (a:=1) (by decide))
 refine ⟨w',e1,⟨_,_,e2,?_,by simp; omega,fun y ky hky=>?_⟩,e3⟩
 ·obtain ⟨l,rfl⟩:=h2;exact ⟨_,rfl⟩
 ·by_cases e:y=x
  ·subst e;have e0:kl=ky:=Option.some.inj (hkl.symm.trans hky);subst e0;rw [atKey_put_same h2 (plcLaw.key hkl),if_pos (by simp)]
  ·have hne:ky≠kl:=fun hh=>e (by
    exact Qtl (plcLaw.inj hky (hkl.trans (congrArg some hh.symm))))
   rw [atKey_put_other hne,h4 y ky hky];by_cases hm:y ∈ S
   ·rw [if_pos hm,if_pos (by simp [hm])]
   ·rw [if_neg hm,if_neg (by simp [hm,e])]
end
theorem Qi8 {ops:Array Oper} {rest:List Oper} {o:Oper} {a:Act} {Q:Exit→Act→World→Prop} {w:World} (hg:o.guard=none) (m x v:Operand)
  (hop:o.op = .mapUpdate 109 m x v∨o.op = .insert 109 m x v) (b:Nat) (S:List (Nat × Nat)) (h:MapAt w b S) (y:Nat × Nat) (ha:y.1≤1000000) (hb:y.2≤1000000) (hn:S.length≤1000000)
  (hm:a.eval m = .map (some b)) (hx:a.eval x = .agg #[.int .i64 (y.1:Int),.int .i64 (y.2:Int)]) (hv:a.eval v = .int .i64 1)
  (hK:∀ w',MapAt w' b (S ++ [y])→w.grownBy w' (some b)→wpList Tryz.prog ops Q rest (a.put o.dst undef) w'):wpList Tryz.prog ops Q (o :: rest) a w:=by
 refine wpList_plain hg fun K' hK'=>?_
 obtain ⟨w',hrun,r1,r2⟩:=h.put y ha hb hn;unfold Oper.wp;rcases hop with hop | hop
 ·simp [execOp,hop,hm,hx,hv,hrun,Result.andThen]
  exact hK' _ _ (hK w' r1 r2)
 ·simp [execOp,hop,hm,hx,hv,hrun,Result.andThen]
  exact hK' _ _ (hK w' r1 r2)
def Qat (l:List (Nat × Nat)):List Value:=l.flatMap fun x=>[.int .i64 (x.1:Int),.int .i64 (x.2:Int)]
theorem Qmd (l:List (Nat × Nat)):(Qat l).length=l.length * 2:=by
 induction l with
 | nil=>rfl
 | cons e r ih=>show ([_,_] ++ Qat r).length=_; rw [List.length_append,ih]; simp; omega
theorem Qgu (a b:List (Nat × Nat)):Qat (a ++ b)=Qat a ++ Qat b:=by simp [Qat]
theorem Qme (l:List (Nat × Nat)):∀ u ∈ Qat l,u.oneCell'=true:=by
 intro u hu;obtain ⟨e,_,hu⟩:=List.mem_flatMap.1 hu;simp at hu
 rcases hu with rfl | rfl <;> rfl
def QAt (w:World) (g:Nat) (A:Option Addr) (n c:Nat) (l:List (Nat × Nat)):Prop :=
 n=l.length∧n≤c∧∃ off cur,A=some ⟨g,off,none⟩∧Blk w g 103 cur∧off + c * 2≤cur.size∧∀ j u,(Qat l)[j]? = some u→cur[off + j]? = some u
section
variable {w w':World} {g n c:Nat} {A:Option Addr} {l:List (Nat × Nat)}
theorem QAt.lt (h:QAt w g A n c l):g < w.heap.size:=by
 obtain ⟨_,_,off,cur,_,hB,_⟩:=h;exact hB.lt
theorem QAt.of_block (h:QAt w g A n c l) (e:w'.heap[g]? = w.heap[g]?):QAt w' g A n c l:=by
 obtain ⟨h1,h2,off,cur,h3,hB,h4⟩:=h;exact ⟨h1,h2,off,cur,h3,e.trans hB,h4⟩
theorem QAt.blk (h:QAt w g A n c l):∃ cur,Blk w g 103 cur:=by
 obtain ⟨h1,h2,off,cur,h3,hB,h4⟩:=h;exact ⟨cur,hB⟩
theorem QAt.one {cs:Array Value} {x:Nat × Nat} (h:Blk w g 103 cs) (hc:cs=#[.int .i64 (x.1:Int),.int .i64 (x.2:Int)]):QAt w g (some ⟨g,0,none⟩) 1 1 [x] :=
 ⟨rfl,Nat.le_refl _,0,cs,rfl,h,by rw [hc]; exact Nat.le_refl 2,fun j u hu=>by
  rw [hc,Nat.zero_add,gA]; exact hu⟩
theorem QAt.head {x:Nat × Nat} (h:QAt w g A n c (x :: l)):∃ off,A=some ⟨g,off,none⟩∧w.cell? ⟨g,off,none⟩=some (.int .i64 (x.1:Int))∧w.cell? ⟨g,off + 1,none⟩=some (.int .i64 (x.2:Int)):=by
 obtain ⟨h1,h2,off,cur,h3,hB,h4,h5⟩:=h;refine ⟨off,h3,?_,?_⟩
 ·rw [hB.cell]; exact h5 0 _ rfl
 ·rw [hB.cell]; exact h5 1 _ rfl
theorem QAt.tail {x:Nat × Nat} (h:QAt w g A n c (x :: l)):QAt w g (if c=1 then A else A.map (·.add 2)) (n - 1) (c - 1) l:=by
 obtain ⟨h1,h2,off,cur,h3,hB,h4,h5⟩:=h;have h1':n=l.length + 1:=h1;refine ⟨by omega,by omega,?_⟩
 by_cases hc:c=1
 ·rw [if_pos hc];have hl:l = []:=List.length_eq_zero_iff.1 (by omega)
  subst hl;exact ⟨off,cur,h3,hB,by omega,fun j u hu=>by cases hu⟩
 ·rw [if_neg hc];refine ⟨off + 2,cur,by rw [h3]; rfl,hB,by omega,fun j u hu=>?_⟩
  have:=h5 (2 + j) u (by
   show ([_,_] ++ Qat l)[2 + j]? = _
   rw [List.getElem?_append_right (by simp)]
   simpa using hu)
  rw [← this];congr 1
  omega
theorem Qtm:∃ i,Tryz.prog.info? 103=some i∧i.zero=some (.agg #[.int .i64 0,.int .i64 0])∧i.size=2∧i.bytes=16 :=
 info_parts (by kernel_rfl)
theorem Qi9 {ops:Array Oper} {rest:List Oper} {o:Oper} {a:Act} {Q:Exit→Act→World→Prop} (hgd:o.guard=none) (s x:Operand)
  (ho:o.op = .call { callee:=.builtin .append,args:=#[s,x],argTypes:=#[110,110] })
  (h:QAt w g A n c l) (hs:a.eval s = .slice A n c) (y:Nat × Nat) (gx cx:Nat) (hx:a.eval x = .slice (some ⟨gx,0,none⟩) 1 cx) (hy:Blk w gx 103 #[.int .i64 (y.1:Int),.int .i64 (y.2:Int)]) (hn:n≤1000000)
  (hK:∀ A' c' g' w',QAt w' g' A' (n + 1) c' (l ++ [y])→w.grownBy w' (some g)→(g'=g∨w.heap.size≤g')→wpList Tryz.prog ops Q rest (a.put o.dst (.slice A' (n + 1) c')) w'):wpList Tryz.prog ops Q (o :: rest) a w:=by
 obtain ⟨i0,hi,hz,hs2,hb⟩:=Qtm;obtain ⟨h1,h2,off,cur,rfl,hB,h4,h5⟩:=h;have hlen:=Qmd l;refine wpList_append_arg w hgd s x 110 ho 103 i0 _ 2 16 Tryz.underlying110 hi hz hs2 hb rfl (by decide) g off n c (Qat l) hs (by rw [hlen,h1]) (fun j u hj=>by rw [hB.cell]; exact h5 j u hj)
  ⟨gx,0,none⟩ 1 cx (Qat [y]) hx rfl (fun j u hj=>?_) (Qme _) (fun hr j hj=>?_) (by unfold maxLen; omega) (by omega) (fun hr=>?_) (fun hr v' w' h6 h7=>?_)
 ·have:(⟨gx,0,none⟩:Addr).add j=⟨gx,j,none⟩:=by
   unfold Addr.add;split
   ·next h=>rw [h]
   ·simp
  rw [this,hy.cell,gA];exact hj
 ·have hj2:j < 2:=hj;refine ⟨?_,hB.free _⟩;rw [hB.cell,Array.getElem?_eq_getElem (show off + n * 2 + j < cur.size by omega)]
  rfl
 ·have e:w.setCells g (off + n * 2) (Qat [y])=(w.setCell ⟨g,off + n * 2,none⟩ (.int .i64 (y.1:Int))).setCell ⟨g,off + n * 2 + 1,none⟩ (.int .i64 (y.2:Int)):=rfl;rw [e];have hB2:=(hB.set_ (off + n * 2) (.int .i64 (y.1:Int))).set_ (off + n * 2 + 1) (.int .i64 (y.2:Int));refine hK (some ⟨g,off,none⟩) c g _ ⟨by simp; omega,hr,off,_,rfl,hB2,by simpa using h4,fun j u hj=>?_⟩ ⟨rfl,rfl,rfl,by simp,fun k _ hk=>?_⟩ (.inl rfl)
  ·rw [Qgu] at hj;by_cases hjl:j < l.length * 2
   ·rw [List.getElem?_append_left (by omega)] at hj
    rw [Array.getElem?_setIfInBounds,if_neg (by omega),Array.getElem?_setIfInBounds,if_neg (by omega)]
    exact h5 j u hj
   ·rw [List.getElem?_append_right (by omega),hlen] at hj
    obtain ⟨d,rfl⟩:∃ d,j=l.length * 2 + d:=⟨j - l.length * 2,by omega⟩
    rw [show l.length * 2 + d - l.length * 2=d by omega] at hj
    have hd:d < 2:=(List.getElem?_eq_some_iff.1 hj).1;match d,hd with
    | 0,_ =>
     rw [Array.getElem?_setIfInBounds,if_neg (by omega),Array.getElem?_setIfInBounds,if_pos (by omega),if_pos (by omega)]
     exact hj
    | 1,_ =>
     rw [Array.getElem?_setIfInBounds,if_pos (by omega),if_pos (by simp; omega)]
     exact hj
  ·have hk':k≠g:=fun e=>hk (by rw [e])
   rw [Below.heap_setCell _ ⟨g,_,none⟩ _ k hk',Below.heap_setCell _ ⟨g,_,none⟩ _ k hk']
 ·have hE:=ext_of_grown h7;rcases h6.2 with ⟨e,h0⟩ | ⟨g',cap,cur',e,hg',hb',hnc,hcs,h9,_⟩
  ·omega
  ·subst e;have h8:=h6.cells (g:=g') rfl;refine hK (some ⟨g',0,none⟩) cap g' w' ⟨by simp; omega,hnc,0,cur',rfl,hb',by omega,fun j u hj=>?_⟩ ⟨h7.os,h7.tape,h7.output,h7.size,fun k hk _=>h7.block k hk (by simp)⟩ (.inr hg')
   rw [Qgu] at hj;have:=h8 j u hj
   have e:(⟨g',0,none⟩:Addr).add j=⟨g',j,none⟩:=by
    unfold Addr.add;split
    ·next h=>rw [h]
    ·simp
   rw [e] at this;rw [Nat.zero_add,← (show Blk w' g' 103 cur' from hb').cell]
   exact this
end
end Go.Proofs.YtanpljalbijfkaaGreat
namespace Go.Proofs.YtanpljalbijfkaaGreat
open Go.RowKit
set_option maxHeartbeats 16000000
structure OutAt (w:World) (B go N:Nat) (A:Nat→Option Addr) (c:Nat→Nat) (F:Nat→List Nat):Prop where
 blk:∃ cs:Array Value,Blk w go 58 cs∧cs.size=N∧∀ i,i < N→cs[i]? = some (.slice (A i) (F i).length (c i))
 own:∀ i,i < N→w.ownsRow B 3 1 (.slice (A i) (F i).length (c i)) (F i).length (natCells (F i))
 apart:∀ i j a b,i < N→j < N→i≠j→A i=some a→A j=some b→a.block≠b.block
theorem own_lt' {w:World} {base size n c:Nat} {e:TypeId} {A:Option Addr} {xs:List Value} (h:w.ownsRow base e size (.slice A n c) n xs) {a:Addr} (ha:A=some a):a.block < w.heap.size∧base≤a.block∧a.off=0∧a.spot=none:=by
 rcases h.2 with ⟨hv,_⟩ | ⟨g,cap,cur,hv,hb,hh,_⟩
 ·injection hv with h1; rw [ha] at h1; cases h1
 ·injection hv with h1
  rw [ha] at h1;injection h1 with h1
  rw [h1];exact ⟨Blk.lt (cs:=cur) (t:=e) hh,hb,rfl,rfl⟩
section
variable {w w':World} {B go N:Nat} {A:Nat→Option Addr} {c:Nat→Nat} {F:Nat→List Nat}
theorem OutAt.mv (h:OutAt w B go N A c F) {X:Nat→Prop} (hm:Mv X w w') (h1:¬ X go) (h2:∀ i a,i < N→A i=some a→¬ X a.block):OutAt w' B go N A c F:=by
 obtain ⟨⟨cs,hB,hs,hc⟩,ho,ha⟩:=h;exact ⟨⟨cs,hm.blk hB h1,hs,hc⟩,fun i hi=>hm.own (ho i hi) fun g hg=>by
  cases hA:A i with
  | none=>rw [hA] at hg; cases hg
  | some a=>rw [hA] at hg; injection hg with hg; rw [← hg]; exact h2 i a hi hA,ha⟩
theorem OutAt.ext (h:OutAt w B go N A c F) (hE:Ext w w'):OutAt w' B go N A c F:=h.mv (Mv.of_ext (X:=fun _=>False) hE) (fun hh=>hh) fun _ _ _ _ hh=>hh
theorem OutAt.cell (h:OutAt w B go N A c F) {i:Nat} (hi:i < N):w.cell? ⟨go,i,none⟩=some (.slice (A i) (F i).length (c i)):=by
 obtain ⟨⟨cs,hB,hs,hc⟩,_,_⟩:=h;rw [hB.cell]; exact hc i hi
theorem OutAt.lt (h:OutAt w B go N A c F):go < w.heap.size:=by
 obtain ⟨⟨cs,hB,hs,hc⟩,_,_⟩:=h;exact hB.lt
theorem OutAt.ne (h:OutAt w B go N A c F) {g:Nat} {t:TypeId} {cs:Array Value} (hB:Blk w g t cs) (ht:t≠3) {i:Nat} {a:Addr} (hi:i < N) (ha:A i=some a):a.block≠g:=by
 rintro rfl;rcases (h.own i hi).2 with ⟨hv,_⟩ | ⟨g,cap,cur,hv,_,hh,_⟩
 ·injection hv with h1; rw [ha] at h1; cases h1
 ·injection hv with h1
  rw [ha] at h1;injection h1 with h1
  subst h1;unfold Blk at hB;rw [hB] at hh;injection hh with hh
  injection hh with _ hh
  exact ht hh
theorem OutAt.ne_map (h:OutAt w B go N A c F) {g:Nat} {S:List (Nat × Nat)} (hM:MapAt w g S) {i:Nat} {a:Addr} (hi:i < N) (ha:A i=some a):a.block≠g:=by
 rcases (h.own i hi).2 with ⟨hv,_⟩ | ⟨g',cap,cur,hv,_,hh,_⟩
 ·injection hv with h1; rw [ha] at h1; cases h1
 ·injection hv with h1
  rw [ha] at h1;injection h1 with h1
  rw [h1];exact fun e=>hM.no_row (show Blk w g' 3 cur from hh) e.symm
theorem OutAt.made (w:World) (B N:Nat):OutAt (w.alloc (.cells (madeCells #[.slice none 0 0] N) 58)) B w.heap.size N (fun _=>none) (fun _=>0) (fun _=>[]):=by
 refine ⟨⟨_,Blk.new _ _ _,size_madeCells _ _,fun i hi=>?_⟩,fun i hi=>World.ownsRow_nil _ _ _ _,fun i j a b _ _ _ h=>by cases h⟩
 rw [← Array.getElem?_toList,toList_madeCells_one,List.getElem?_replicate,if_pos hi];rfl
def Qde {α:Type} (f:Nat→α) (i:Nat) (v:α):Nat→α:=fun j=>if j=i then v else f j
theorem Qaj {α:Type} (f:Nat→α) (i:Nat) (v:α):Qde f i v i=v:=if_pos rfl
theorem Qaa {α:Type} (f:Nat→α) {i j:Nat} (v:α) (h:j≠i):Qde f i v j=f j:=if_neg h
theorem OutAt.app (h:OutAt w B go N A c F) {i:Nat} (hi:i < N) {x:Nat} {A':Option Addr} {c':Nat} (hO:w'.ownsRow B 3 1 (.slice A' ((F i).length + 1) c') ((F i).length + 1) (natCells (F i ++ [x])))
  (hg:w.grownBy w' (Value.slice (A i) (F i).length (c i)).ownBlock) (hn:Value.ownBlock (.slice A' ((F i).length + 1) c')=(Value.slice (A i) (F i).length (c i)).ownBlock∨Value.ownBlock (.slice A' ((F i).length + 1) c')=some w.heap.size) :
  OutAt (w'.setCell ⟨go,i,none⟩ (.slice A' ((F i).length + 1) c')) B go N (Qde A i A') (Qde c i c') (Qde F i (F i ++ [x])):=by
 have hgo:=h.lt;obtain ⟨⟨cs,hB,hs,hc⟩,ho,hap⟩:=h;have hne:∀ j a,j < N→A j=some a→a.block≠go:=fun j a hj ha=>OutAt.ne ⟨⟨cs,hB,hs,hc⟩,ho,hap⟩ hB (by decide) hj ha
 have hblk:w'.heap[go]? = w.heap[go]?:=hg.block go hgo fun e=>by
  cases hA:A i with
  | none=>rw [hA] at e; cases e
  | some a=>rw [hA] at e; injection e with e; exact hne i a hi hA e.symm
 have hB':Blk w' go 58 cs:=hblk.trans hB;have hold:∀ j a,j < N→j≠i→A j=some a→w'.heap[a.block]? = w.heap[a.block]?:=fun j a hj hji ha=>hg.block a.block (own_lt' (ho j hj) ha).1 fun e=>by
  cases hA:A i with
  | none=>rw [hA] at e; cases e
  | some b=>rw [hA] at e; injection e with e; exact hap j i a b hj hi hji ha hA e
 have hA':∀ a',A'=some a'→(∃ b,A i=some b∧a'.block=b.block)∨a'.block=w.heap.size:=fun a' ha'=>by
  rw [ha'] at hn;rcases hn with hn | hn
  ·cases hA:A i with
   | none=>rw [hA] at hn; cases hn
   | some b=>rw [hA] at hn; injection hn with hn; exact .inl ⟨b,rfl,hn⟩
  ·injection hn with hn; exact .inr hn
 have hgo':∀ a',A'=some a'→a'.block≠go:=fun a' ha'=>by
  rcases hA' a' ha' with ⟨b,hb,e⟩ | e
  ·rw [e]; exact hne i b hi hb
  ·rw [e]; omega
 refine ⟨⟨_,hB'.set_ i _,by simpa using hs,fun j hj=>?_⟩,fun j hj=>?_,fun j k a b hj hk hjk ha hb=>?_⟩
 ·rw [Array.getElem?_setIfInBounds];by_cases e:j=i
  ·subst e;rw [if_pos rfl,if_pos (by omega),Qaj,Qaj,Qaj,List.length_append]
   rfl
  ·rw [if_neg (fun h=>e h.symm),Qaa _ _ e,Qaa _ _ e,Qaa _ _ e]
   exact hc j hj
 ·by_cases e:j=i
  ·subst e;rw [Qaj,Qaj,Qaj,List.length_append];refine own_far hO (fun hh=>?_) _
   cases hA2:A' with
   | none=>rw [hA2] at hh; cases hh
   | some a'=>rw [hA2] at hh; injection hh with hh; exact hgo' a' hA2 hh
  ·rw [Qaa _ _ e,Qaa _ _ e,Qaa _ _ e];have h1:w'.ownsRow B 3 1 (.slice (A j) (F j).length (c j)) (F j).length (natCells (F j)):=by
    refine (ho j hj).kept hg ?_;cases hA2:A j with
    | none=>exact .inl rfl
    | some a =>
     right
     cases hA3:A i with
     | none=>intro hh; cases hh
     | some b=>intro hh; injection hh with hh; exact hap j i a b hj hi e hA2 hA3 hh
   refine own_far h1 (fun hh=>?_) _
   cases hA2:A j with
   | none=>rw [hA2] at hh; cases hh
   | some a=>rw [hA2] at hh; injection hh with hh; exact hne j a hj hA2 hh
 ·by_cases e1:j=i
  ·subst e1;have e2:k≠j:=fun h=>hjk h.symm
   rw [Qaj] at ha;rw [Qaa _ _ e2] at hb;rcases hA' a ha with ⟨a0,h0,e⟩ | e
   ·rw [e]; exact hap j k a0 b hj hk hjk h0 hb
   ·rw [e]; have:=(own_lt' (ho k hk) hb).1; omega
  ·rw [Qaa _ _ e1] at ha;by_cases e2:k=i
   ·subst e2;rw [Qaj] at hb;rcases hA' b hb with ⟨b0,h0,e⟩ | e
    ·rw [e]; exact hap j k a b0 hj hk hjk ha h0
    ·rw [e]; have:=(own_lt' (ho j hj) ha).1; omega
   ·rw [Qaa _ _ e2] at hb;exact hap j k a b hj hk hjk ha hb
theorem OutAt.turn (h:OutAt w B go N A c F) {i:Nat} (hi:i < N) {l:List Nat} (hl:l.length=(F i).length) (hO:w'.ownsRow B 3 1 (.slice (A i) l.length (c i)) l.length (natCells l))
  (hg:w.grownBy w' (Value.slice (A i) (F i).length (c i)).ownBlock):OutAt w' B go N A c (Qde F i l):=by
 have hgo:=h.lt;obtain ⟨⟨cs,hB,hs,hc⟩,ho,hap⟩:=h;have hne:∀ j a,j < N→A j=some a→a.block≠go:=fun j a hj ha=>OutAt.ne ⟨⟨cs,hB,hs,hc⟩,ho,hap⟩ hB (by decide) hj ha
 have hblk:w'.heap[go]? = w.heap[go]?:=hg.block go hgo fun e=>by
  cases hA:A i with
  | none=>rw [hA] at e; cases e
  | some a=>rw [hA] at e; injection e with e; exact hne i a hi hA e.symm
 refine ⟨⟨cs,hblk.trans hB,hs,fun j hj=>?_⟩,fun j hj=>?_,hap⟩
 ·rw [hc j hj];by_cases e:j=i
  ·subst e; rw [Qaj,hl]
  ·rw [Qaa _ _ e]
 ·by_cases e:j=i
  ·subst e;rw [Qaj];exact hO
  ·rw [Qaa _ _ e];refine (ho j hj).kept hg ?_;cases hA2:A j with
   | none=>exact .inl rfl
   | some a =>
    right
    cases hA3:A i with
    | none=>intro hh; cases hh
    | some b=>intro hh; injection hh with hh; exact hap j i a b hj hi e hA2 hA3 hh
end
theorem OutAt.congr {w:World} {B go N:Nat} {A:Nat→Option Addr} {c:Nat→Nat} {F G:Nat→List Nat} (h:OutAt w B go N A c F) (e:∀ i,i < N→F i=G i):OutAt w B go N A c G:=by
 obtain ⟨⟨cs,hB,hs,hc⟩,ho,ha⟩:=h;exact ⟨⟨cs,hB,hs,fun i hi=>by rw [hc i hi,e i hi]⟩,fun i hi=>by rw [← e i hi]; exact ho i hi,ha⟩
structure RSt (w0 w:World) (go gm N:Nat) (A:Nat→Option Addr) (c:Nat→Nat) (F:Nat→List Nat) (S:List (Nat × Nat)) (gq:Nat) (Aq:Option Addr) (n cq:Nat) (Q:List (Nat × Nat)):Prop where
 ext:Ext w0 w
 lo:w0.heap.size≤go∧w0.heap.size≤gm∧w0.heap.size≤gq
 out:OutAt w w0.heap.size go N A c F
 tab:MapAt w gm S
 que:QAt w gq Aq n cq Q
section
variable {w0 w w':World} {go gm N gq n cq:Nat} {A:Nat→Option Addr} {c:Nat→Nat} {F:Nat→List Nat} {S Q:List (Nat × Nat)} {Aq:Option Addr}
theorem RSt.grow (h:RSt w0 w go gm N A c F S gq Aq n cq Q) (hE:Ext w w'):RSt w0 w' go gm N A c F S gq Aq n cq Q :=
 ⟨h.ext.trans' hE,h.lo,h.out.ext hE,h.tab.of_block (hE.block gm h.tab.lt),h.que.of_block (hE.block gq h.que.lt)⟩
theorem RSt.pop {x:Nat × Nat} (h:RSt w0 w go gm N A c F S gq Aq n cq (x :: Q)):RSt w0 w go gm N A c F S gq (if cq=1 then Aq else Aq.map (·.add 2)) (n - 1) (cq - 1) Q :=
 ⟨h.ext,h.lo,h.out,h.tab,h.que.tail⟩
theorem RSt.put (h:RSt w0 w go gm N A c F S gq Aq n cq Q) {y:Nat × Nat} (hM:MapAt w' gm (S ++ [y])) (hg:w.grownBy w' (some gm)):RSt w0 w' go gm N A c F (S ++ [y]) gq Aq n cq Q:=by
 have hm:Mv (fun k=>k=gm) w w':=Mv.of_grown hg fun g e=>by injection e with e; exact e.symm
 obtain ⟨cs,hcs⟩:=h.que.blk;obtain ⟨⟨co,hBo,_⟩,_,_⟩:=h.out;have h1:=h.tab.no_row hBo;have h2:=h.tab.no_row hcs;exact ⟨hm.below h.ext (fun i e=>by rw [e]; exact h.lo.2.1),h.lo,h.out.mv hm (fun e=>h1 e.symm) (fun i a hi ha=>h.out.ne_map h.tab hi ha),hM,h.que.of_block (hg.block gq h.que.lt fun e=>by injection e with e; exact h2 e.symm)⟩
theorem RSt.push (h:RSt w0 w go gm N A c F S gq Aq n cq Q) {A':Option Addr} {c' g':Nat} {Q':List (Nat × Nat)} (hq:QAt w' g' A' (n + 1) c' Q') (hg:w.grownBy w' (some gq)) (hn:g'=gq∨w.heap.size≤g'):RSt w0 w' go gm N A c F S g' A' (n + 1) c' Q':=by
 have hm:Mv (fun k=>k=gq) w w':=Mv.of_grown hg fun g e=>by injection e with e; exact e.symm
 obtain ⟨cs,hcs⟩:=h.que.blk;obtain ⟨⟨co,hBo,hco⟩,ho,ha⟩:=h.out;have h2:=h.tab.no_row hcs;have h3:go≠gq:=by
  rintro rfl;unfold Blk at hBo hcs;rw [hBo] at hcs;injection hcs with hcs
  injection hcs with _ e
  exact absurd e (by decide)
 refine ⟨hm.below h.ext (fun i e=>by rw [e]; exact h.lo.2.2),⟨h.lo.1,h.lo.2.1,?_⟩,h.out.mv hm h3 (fun i a hi ha=>h.out.ne hcs (by decide) hi ha),h.tab.of_block (hg.block gm h.tab.lt fun e=>by injection e with e; exact h2 e),hq⟩
 rcases hn with rfl | hn
 ·exact h.lo.2.2
 ·have:=h.ext.size; omega
theorem RSt.app (h:RSt w0 w go gm N A c F S gq Aq n cq Q) {i:Nat} (hi:i < N) {x:Nat} {A':Option Addr} {c':Nat} (hO:w'.ownsRow w0.heap.size 3 1 (.slice A' ((F i).length + 1) c') ((F i).length + 1) (natCells (F i ++ [x])))
  (hg:w.grownBy w' (Value.slice (A i) (F i).length (c i)).ownBlock) (hn:Value.ownBlock (.slice A' ((F i).length + 1) c')=(Value.slice (A i) (F i).length (c i)).ownBlock∨Value.ownBlock (.slice A' ((F i).length + 1) c')=some w.heap.size) :
  RSt w0 (w'.setCell ⟨go,i,none⟩ (.slice A' ((F i).length + 1) c')) go gm N (Qde A i A') (Qde c i c') (Qde F i (F i ++ [x])) S gq Aq n cq Q:=by
 have hm:Mv (fun k=>∃ a,A i=some a∧k=a.block) w w':=Mv.of_grown hg fun g e=>by
  cases hA:A i with
  | none=>rw [hA] at e; cases e
  | some a=>rw [hA] at e; injection e with e; exact ⟨a,rfl,e.symm⟩
 have hm2:Mv (fun k=>(∃ a,A i=some a∧k=a.block)∨k=go) w (w'.setCell ⟨go,i,none⟩ (.slice A' ((F i).length + 1) c')):=(hm.more fun i _ h=>.inl h).set (.inr (.inr rfl)) _
 obtain ⟨cs,hcs⟩:=h.que.blk;obtain ⟨⟨co,hBo,hco⟩,ho,ha⟩:=h.out;have h1:=h.tab.no_row hBo;have h3:gq≠go:=by
  rintro rfl;unfold Blk at hBo hcs;rw [hBo] at hcs;injection hcs with hcs
  injection hcs with _ e
  exact absurd e (by decide)
 refine ⟨hm2.below h.ext (fun k hk=>?_),h.lo,h.out.app hi hO hg hn,h.tab.of_block (hm2.block gm h.tab.lt ?_),h.que.of_block (hm2.block gq h.que.lt ?_)⟩
 ·rcases hk with ⟨a,hA,rfl⟩ | rfl
  ·exact (own_lt' (ho i hi) hA).2.1
  ·exact h.lo.1
 ·rintro (⟨a,hA,e⟩ | e)
  ·exact h.out.ne_map h.tab hi hA e.symm
  ·exact h1 e
 ·rintro (⟨a,hA,e⟩ | e)
  ·exact h.out.ne hcs (by decide) hi hA e.symm
  ·exact h3 e
end
def ReachAt (w:World) (A:Option Addr) (s:Sch):Prop :=
 ∃ g,A=some ⟨g,0,none⟩∧g < w.heap.size∧∀ i,i < s.nodes.length→∃ Ai ci,w.cell? ⟨g,i,none⟩=some (.slice Ai (reachL s i).length ci)∧NatAt w w.heap.size Ai (reachL s i)
theorem ReachAt.ext {w w':World} {A:Option Addr} {s:Sch} (h:ReachAt w A s) (hE:Ext w w'):ReachAt w' A s:=by
 obtain ⟨g,e,hg,hc⟩:=h;refine ⟨g,e,Nat.lt_of_lt_of_le hg hE.size,fun i hi=>?_⟩
 obtain ⟨Ai,ci,h1,h2⟩:=hc i hi;exact ⟨Ai,ci,(hE.cell (p:=⟨g,i,none⟩) hg).trans h1,h2.ext hE⟩
theorem ReachAt.of {w:World} {B go N:Nat} {A:Nat→Option Addr} {c:Nat→Nat} {s:Sch} (h:OutAt w B go N A c (reachL s)) (hN:N=s.nodes.length):ReachAt w (some ⟨go,0,none⟩) s :=
 ⟨go,rfl,h.lt,fun i hi=>⟨A i,c i,h.cell (by omega),Reads.of_own (h.own i (by omega))⟩⟩
end Go.Proofs.YtanpljalbijfkaaGreat
namespace Go.Proofs.YtanpljalbijfkaaGreat
open Go.Shelf
set_option maxHeartbeats 16000000
def Tryz.lays191_ren:Go.Shelf.Ren:=⟨fun | 191=>47 | 189=>84 | 125=>114 | 257=>113 | 128=>142 | 129=>143 | 294=>133 | 295=>134 | 296=>135 | 297=>136 | 298=>137 | 299=>138 | 216=>139 | 300=>140 | 301=>141 | 328=>164 | 329=>165 | 330=>166 | 331=>167 | 332=>168 | 215=>169 | 343=>178 | n=>n,fun | 28=>58 | 0=>0 | 3=>3 | 46=>187 | 51=>214 | 53=>157 | 4=>4 | 183=>208 | 182=>207 | 131=>142 | 5=>5 | 9=>9 | 218=>228 | 222=>232 | 228=>237 | 229=>50 | n=>n,fun | n=>n⟩
theorem Tryz.lays191:Go.Proofs.Lays.n191 Tryz.prog Tryz.lays191_ren:={
 mixed:=by kernel_rfl
 f125:=Tryz.func114.trans (congrArg some (by kernel_rfl))
 f128:=Tryz.func142.trans (congrArg some (by kernel_rfl))
 f129:=Tryz.func143.trans (congrArg some (by kernel_rfl))
 f189:=Tryz.func84.trans (congrArg some (by kernel_rfl))
 f191:=Tryz.func47.trans (congrArg some (by kernel_rfl))
 f215:=Tryz.func169.trans (congrArg some (by kernel_rfl))
 f216:=Tryz.func139.trans (congrArg some (by kernel_rfl))
 f257:=Tryz.func113.trans (congrArg some (by kernel_rfl))
 f294:=Tryz.func133.trans (congrArg some (by kernel_rfl))
 f295:=Tryz.func134.trans (congrArg some (by kernel_rfl))
 f296:=Tryz.func135.trans (congrArg some (by kernel_rfl))
 f297:=Tryz.func136.trans (congrArg some (by kernel_rfl))
 f298:=Tryz.func137.trans (congrArg some (by kernel_rfl))
 f299:=Tryz.func138.trans (congrArg some (by kernel_rfl))
 f300:=Tryz.func140.trans (congrArg some (by kernel_rfl))
 f301:=Tryz.func141.trans (congrArg some (by kernel_rfl))
 f328:=Tryz.func164.trans (congrArg some (by kernel_rfl))
 f329:=Tryz.func165.trans (congrArg some (by kernel_rfl))
 f330:=Tryz.func166.trans (congrArg some (by kernel_rfl))
 f331:=Tryz.func167.trans (congrArg some (by kernel_rfl))
 f332:=Tryz.func168.trans (congrArg some (by kernel_rfl))
 f343:=Tryz.func178.trans (congrArg some (by kernel_rfl))
 t0:=Tryz.underlying0
 a0:=Tryz.isAgg0
 z0:=Tryz.sizeOf0
 v0:=Tryz.zeroValue0
 t3:=Tryz.underlying3
 a3:=Tryz.isAgg3
 z3:=Tryz.sizeOf3
 v3:=Tryz.zeroValue3
 t4:=Tryz.underlying4
 a4:=Tryz.isAgg4
 z4:=Tryz.sizeOf4
 v4:=Tryz.zeroValue4
 t5:=Tryz.underlying5
 a5:=Tryz.isAgg5
 z5:=Tryz.sizeOf5
 v5:=Tryz.zeroValue5
 t9:=Tryz.underlying9
 a9:=Tryz.isAgg9
 z9:=Tryz.sizeOf9
 v9:=Tryz.zeroValue9
 t28:=Tryz.underlying58
 a28:=Tryz.isAgg58
 z28:=Tryz.sizeOf58
 v28:=Tryz.zeroValue58
 t46:=Tryz.underlying187
 a46:=Tryz.isAgg187
 z46:=Tryz.sizeOf187
 v46:=Tryz.zeroValue187
 t51:=Tryz.underlying214
 a51:=Tryz.isAgg214
 z51:=Tryz.sizeOf214
 v51:=Tryz.zeroValue214
 t53:=Tryz.underlying157
 a53:=Tryz.isAgg157
 z53:=Tryz.sizeOf157
 v53:=Tryz.zeroValue157
 t131:=Tryz.underlying142
 a131:=Tryz.isAgg142
 z131:=Tryz.sizeOf142
 v131:=Tryz.zeroValue142
 t182:=Tryz.underlying207
 a182:=Tryz.isAgg207
 z182:=Tryz.sizeOf207
 v182:=Tryz.zeroValue207
 t183:=Tryz.underlying208
 a183:=Tryz.isAgg208
 z183:=Tryz.sizeOf208
 v183:=Tryz.zeroValue208
 t218:=Tryz.underlying228
 a218:=Tryz.isAgg228
 z218:=Tryz.sizeOf228
 v218:=Tryz.zeroValue228
 t222:=Tryz.underlying232
 a222:=Tryz.isAgg232
 z222:=Tryz.sizeOf232
 v222:=Tryz.zeroValue232
 t228:=Tryz.underlying237
 a228:=Tryz.isAgg237
 z228:=Tryz.sizeOf237
 v228:=Tryz.zeroValue237
 t229:=Tryz.underlying50
 a229:=Tryz.isAgg50
 z229:=Tryz.sizeOf50
 v229:=Tryz.zeroValue50 }
end Go.Proofs.YtanpljalbijfkaaGreat
