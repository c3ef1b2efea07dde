/- . -/
import Derived.Test.YtanpljalbijfkaaGreatQ22
import Derived.Test.YtanpljalbijfkaaGreatQ25
namespace Go.Proofs.YtanpljalbijfkaaGreat
open Go.RowKit
set_option maxHeartbeats 16000000
set_option maxRecDepth 100000 in
theorem Qlz (A:Option Addr) (c n:Nat) (w:World) (l:List ByteArray) (h:StrAt w w.heap.size A l) (hn:n=l.length) (hb:n≤5864062014634) :
  Calls Tryz.prog 53 #[.slice A n c] w (fun e w'=>∃ A' c',e = .returned (.slice A' n c')∧StrAt w' w'.heap.size A' l∧Ext w w'∧∀ a,A'=some a→w.heap.size≤a.block):=by
 obtain ⟨i0,hi,hz0,hz1,hz2⟩:=Qdu;have q22:∀ (w:World) (a:Option Addr) (n c n' c':Nat),(binOp .eql 63 (.slice a n c) (.slice none n' c')).run Tryz.prog w = .ok (.bool a.isNone) w:=fun w a n c n' c'=>Lib.run_eql_slice_nil w _ _ a n c n' c' Tryz.underlying63
 cases A with
 | none =>
  have h0:n=0:=by
   rcases Nat.eq_zero_or_pos n with e | e
   ·exact e
   ·obtain ⟨ad,e,_⟩:=h.2 (by omega)
    cases e
  have hl:l = []:=List.eq_nil_of_length_eq_zero (by omega)
  subst hl;subst h0;clear h hn hb;go_enter Tryz.func53,Tryz.ntmps53
  go_wp2_with fail
  go_ret
  exact ⟨none,0,rfl,⟨rfl,fun hh=>absurd hh (Nat.lt_irrefl _)⟩,Ext.rfl' _,fun a ha=>by cases ha⟩
 | some ad =>
  obtain ⟨H,HN⟩:=Z2 h hn;clear h hn;go_enter Tryz.func53,Tryz.ntmps53
  go_wp2_with (at_builtin; refine wpList_append_own_at _ rfl _ _ 63 rfl w.heap.size 9 i0 _ 1 16 Tryz.underlying63 hi hz0 hz1 hz2 rfl (by decide) _ _ _ rfl (World.ownsRow_made w #[] 0 nL (Nat.zero_le _) rfl) ad n c (Qg l) rfl ?qc1 ?qc2 ?qc3 ?qc4 ?qc5 ?qc6 ?_)
  case qc1=>rw [HN.out]; exact H.out.1
  case qc2 =>
   intro j u hj;have hp:0 < l.length:=by
    rcases Nat.eq_zero_or_pos l.length with e | e
    ·have:=List.eq_nil_of_length_eq_zero e
     rw [this] at hj;cases hj
    ·exact e
   obtain ⟨ad',e,hb',hc⟩:=H.out.2 hp;injection e with e
   rw [e];exact (World.cell?_alloc_lt _ _ (ad'.add j) (by rw [Qbk]; exact hb')).trans (hc j u hj)
  case qc3=>exact fun u hu=>by obtain ⟨x,_,rfl⟩:=List.mem_map.1 hu; rfl
  case qc4=>unfold maxLen; omega
  case qc5=>omega
  case qc6=>simp
  intro v' w1 hown hgrow _ _;have hE:Ext w w1:=((Ext.rfl' w).alloc nL _).grown hgrow (by simp) (by intro k hk; simp [Value.ownBlock] at hk; omega)
  have hv:∃ A' c',v' = .slice A' n c':=by
   rcases hown.2 with ⟨e,h0⟩ | ⟨g,cap,cur,e,_⟩
   ·exact ⟨none,0,by rw [e,h0]⟩
   ·exact ⟨_,_,e⟩
  obtain ⟨A',c',rfl⟩:=hv;have hr:=Reads.of_own hown;obtain ⟨HR,HBS,HE⟩:=Z3 hr (own_base hown) hE;clear hr hE hown hgrow;go_wp2_with fail
  go_ret
  exact ⟨A',c',rfl,by have:=HR.out; rw [HN.out] at this; exact this,HE.out,HBS.out⟩
set_option maxRecDepth 100000 in
theorem Qko (A:Option Addr) (c n:Nat) (w:World) (l:List EdgeP) (h:EdgesAt w w.heap.size A l) (hn:n=l.length) (hb:n≤1000000) :
  Calls Tryz.prog 54 #[.slice A n c] w (fun e w'=>∃ A' c',e = .returned (.slice A' n c')∧EdgesAt w' w'.heap.size A' l∧Ext w w'∧∀ a,A'=some a→w.heap.size≤a.block):=by
 obtain ⟨i0,hi,hz0,hz1,hz2⟩:=Qj6;have q22:∀ (w:World) (a:Option Addr) (n c n' c':Nat),(binOp .eql 64 (.slice a n c) (.slice none n' c')).run Tryz.prog w = .ok (.bool a.isNone) w:=fun w a n c n' c'=>Lib.run_eql_slice_nil w _ _ a n c n' c' Tryz.underlying64
 cases A with
 | none =>
  have h0:n=0:=by
   rcases Nat.eq_zero_or_pos n with e | e
   ·exact e
   ·obtain ⟨ad,e,_⟩:=h.2 (by omega)
    cases e
  have hl:l = []:=List.eq_nil_of_length_eq_zero (by omega)
  subst hl;subst h0;clear h hn hb;go_enter Tryz.func54,Tryz.ntmps54
  go_wp2_with fail
  go_ret
  exact ⟨none,0,rfl,⟨rfl,fun hh=>absurd hh (Nat.lt_irrefl _)⟩,Ext.rfl' _,fun a ha=>by cases ha⟩
 | some ad =>
  obtain ⟨H,HN⟩:=Z2 h hn;clear h hn;go_enter Tryz.func54,Tryz.ntmps54
  go_wp2_with (at_builtin; refine wpList_append_own_at _ rfl _ _ 64 rfl w.heap.size 70 i0 _ 10 88 Tryz.underlying64 hi hz0 hz1 hz2 rfl (by decide) _ _ _ rfl (World.ownsRow_made w #[] 0 nL (Nat.zero_le _) rfl) ad n c (edgeCells l) rfl ?qc1 ?qc2 ?qc3 ?qc4 ?qc5 ?qc6 ?_)
  case qc1=>rw [HN.out]; exact H.out.1
  case qc2 =>
   intro j u hj;have hp:0 < l.length:=by
    rcases Nat.eq_zero_or_pos l.length with e | e
    ·have:=List.eq_nil_of_length_eq_zero e
     rw [this] at hj;cases hj
    ·exact e
   obtain ⟨ad',e,hb',hc⟩:=H.out.2 hp;injection e with e
   rw [e];exact (World.cell?_alloc_lt _ _ (ad'.add j) (by rw [Qbk]; exact hb')).trans (hc j u hj)
  case qc3=>exact edgeCells_one l
  case qc4=>unfold maxLen; omega
  case qc5=>omega
  case qc6=>simp
  intro v' w1 hown hgrow _ _;have hE:Ext w w1:=((Ext.rfl' w).alloc nL _).grown hgrow (by simp) (by intro k hk; simp [Value.ownBlock] at hk; omega)
  have hv:∃ A' c',v' = .slice A' n c':=by
   rcases hown.2 with ⟨e,h0⟩ | ⟨g,cap,cur,e,_⟩
   ·exact ⟨none,0,by rw [e,h0]⟩
   ·exact ⟨_,_,e⟩
  obtain ⟨A',c',rfl⟩:=hv;have hr:=Reads.of_own hown;obtain ⟨HR,HBS,HE⟩:=Z3 hr (own_base hown) hE;clear hr hE hown hgrow;go_wp2_with fail
  go_ret
  exact ⟨A',c',rfl,by have:=HR.out; rw [HN.out] at this; exact this,HE.out,HBS.out⟩
theorem Qeu (gp:Nat) (s:Sch) (w:World) (h:PlanAt w gp s):Calls Tryz.prog 23 #[.pointer (some ⟨gp,0,none⟩)] w (fun e w'=>e = .returned (.int .i64 (s.nodes.length:Nat))∧w=w'):=by
 obtain ⟨gl,gt,A,c,An,cn,xs,h1,h2,_,_⟩:=h;obtain ⟨-,t0⟩:=X2 h1;have H2:=hide h2;clear h1 h2;go_enter Tryz.func23,Tryz.ntmps23
 go_wp2_with fail
 go_ret
 exact ⟨rfl,rfl⟩
theorem Qne (w:World):Calls Tryz.prog 23 #[.pointer none] w (fun e w'=>e = .returned (.int .i64 0)∧w=w'):=by
 go_enter Tryz.func23,Tryz.ntmps23
 go_wp2_with fail
 go_ret
 exact ⟨rfl,rfl⟩
theorem Qgi (gp:Nat) (s:Sch) (w:World) (h:PlanAt w gp s):Calls Tryz.prog 21 #[.pointer (some ⟨gp,0,none⟩)] w (fun e w'=>e = .returned (.int .i64 (s.rootI:Nat))∧w=w'):=by
 obtain ⟨gl,gt,A,c,An,cn,xs,h1,h2,_,_⟩:=h;obtain ⟨-,-,t0⟩:=X3 h1;have H2:=hide h2;clear h1 h2;go_enter Tryz.func21,Tryz.ntmps21
 go_wp2_with fail
 go_ret
 exact ⟨rfl,rfl⟩
theorem Qrd {s:Sch} (h:LatOk s) (us:List Wd):∃ l:Nat,ofI s.ws s.os us=l∧l < s.ws.length:=by
 unfold ofI;cases hq:Qf (Qab s.ws us) us.length with
 | some x=>exact ⟨0,rfl,h.lat.some⟩
 | none=>exact ⟨_,rfl,LatM.allJoin_lt h.lat (Qfa (firstOf_miss.1 hq))⟩
theorem Qgj {α:Type} {f:Nat→List α} {x:α} : ∀ {k:Nat},x ∈ Qap f k→∃ i,i < k∧x ∈ f i:=by
 intro k;induction k with
 | zero=>intro h; cases h
 | succ k ih =>
  intro h;rcases List.mem_append.1 h with h | h
  ·obtain ⟨i,hi,hx⟩:=ih h;exact ⟨i,by omega,hx⟩
  ·exact ⟨k,by omega,h⟩
theorem Qn6 {s:Sch} (t:Ty):Fit t→Qr t→s.Known t→∀ x ∈ Qt t,Fit x∧Qr x∧s.Known x∧x.kd≠9:=by
 induction t with
 | nil=>intro h; exact h.elim
 | mk h n p t ih =>
  intro hF hS hK x hx;by_cases hk:h.kind=9
  ·rw [Qd0 hk] at hx; cases hx
  ·rw [Qd1 hk] at hx;rcases List.mem_cons.1 hx with rfl | hx
   ·exact ⟨hF,hS,hK,hk⟩
   ·obtain ⟨i,hi,hx⟩:=Qgj hx;by_cases hb:(p i).bare=true
    ·rw [if_pos hb] at hx; cases hx
    ·rw [if_neg hb] at hx;have hb':(p i).bare=false:=by simpa using hb
     exact ih i ((hF.2.2.2.2.2 i hi).2 hb') (hS.2.2.2 i hi).2.2.2 (hK.2 i hi hb') x hx
def Pos (l:List Ty):Prop:=∀ j (hj:j < l.length),j + nodC l[j]≤l.length
theorem Pos.app {a b:List Ty} (ha:Pos a) (hb:Pos b):Pos (a ++ b):=by
 intro j hj;rw [List.length_append] at hj ⊢;rcases Nat.lt_or_ge j a.length with h | h
 ·rw [List.getElem_append_left h]; have:=ha j h; omega
 ·rw [List.getElem_append_right h]; have:=hb (j - a.length) (by omega); omega
theorem Pos.cat {f:Nat→List Ty} (h:∀ i,Pos (f i)):∀ k,Pos (Qap f k):=by
 intro k;induction k with
 | zero=>intro j hj; exact absurd hj (Nat.not_lt_zero _)
 | succ k ih=>exact Pos.app ih (h k)
theorem Ql0 (t:Ty):Pos (Qt t):=by
 induction t with
 | nil=>intro j hj; exact absurd hj (Nat.not_lt_zero _)
 | mk h n p t ih =>
  by_cases hk:h.kind=9
  ·rw [Qd0 hk]; intro j hj; exact absurd hj (Nat.not_lt_zero _)
  ·have hc:Pos (Qap (fun i=>if (p i).bare=true then [] else Qt (t i)) n):=by
    refine Pos.cat (fun i=>?_) n
    by_cases hb:(p i).bare=true
    ·rw [if_pos hb]; intro j hj; exact absurd hj (Nat.not_lt_zero _)
    ·rw [if_neg hb]; exact ih i
   have hlen:=flat_length (.mk h n p t);intro j hj;rw [hlen];simp only [Qd1 hk] at hj hlen ⊢;cases j with
   | zero=>simp
   | succ j =>
    have hj':j < (Qap (fun i=>if (p i).bare=true then [] else Qt (t i)) n).length:=by simpa using hj
    have:=hc j hj'
    rw [gC];rw [List.length_cons] at hlen;omega
theorem Qcm (s:Sch):s.nodes.length=sumTo (fun i=>nodC (s.all i)) (s.n + 1):=s.nodesTo_length (s.n + 1)
theorem Qs6 (s:Sch) {k:Nat} (hk:k < s.nodes.length):∃ t i,i≤s.n∧t ∈ Qt (s.all i)∧s.nodes[k]=s.nodeP t k∧k + nodC t≤s.nodes.length:=by
 have hl:(Qap (fun i=>Qt (s.all i)) (s.n + 1)).length=s.nodes.length:=by
  rw [Qcm,Qaw];exact Qau fun i _=>flat_length _
 have hk':k < (Qap (fun i=>Qt (s.all i)) (s.n + 1)).length:=by omega
 obtain ⟨i,hi,hm⟩:=Qgj (List.getElem_mem hk');refine ⟨(Qap (fun i=>Qt (s.all i)) (s.n + 1))[k],i,by omega,hm,?_,?_⟩
 ·have:=Sch.nodesFrom_at s (Qap (fun i=>Qt (s.all i)) (s.n + 1)) 0 k hk'
  rw [Nat.zero_add] at this;have h2:s.nodes[k]? = some (s.nodeP (Qap (fun i=>Qt (s.all i)) (s.n + 1))[k] k):=this
  rw [List.getElem?_eq_getElem hk] at h2;exact Option.some.inj h2
 ·have:=Pos.cat (fun i=>Ql0 (s.all i)) (s.n + 1) k hk'
  omega
structure EdgeOk (s:Sch) (d:NodeP) (e:EdgeP):Prop where
 lab:∃ l:Nat,e.label=l∧l < s.ws.length
 seen:∃ l:Nat,e.seen=l∧l < s.ws.length
 to_:e.bare=false→∃ m:Nat,e.tgt=m∧m < s.nodes.length
 bare:e.bare=true→d.kind=8∧e.coarse=0∧e.tgt = -1
structure NodeOk (s:Sch) (d:NodeP):Prop where
 names:d.names.length≤5864062014634
 few:d.edges.length≤64
 edge:∀ i (hi:i < d.edges.length),EdgeOk s d d.edges[i]
 one:d.kind=5∨d.kind=6→d.edges.length=1
theorem Qh0 {t:Ty} (h:Fit t) (hk:t.kd≠9):1≤nodC t:=by
 cases t with
 | nil=>exact h.elim
 | mk h n p t=>rw [Qbn hk]; omega
theorem Ql1 {s:Sch} (hg:s.Good) {i:Nat} (hi:i < s.n):s.start i < s.nodes.length:=by
 obtain ⟨j,hj⟩:=hg.ends i hi;obtain ⟨hjn,hk⟩:=Sch.endK_lt (closed s) hi hj;unfold Sch.start;rw [hj];dsimp only
 rw [Sch.first_eq s (by omega),Sch.nodesTo_length,Qcm]
 have h1:=Qa5 (f:=fun i=>nodC (s.all i)) (show j < s.n + 1 by omega)
 have h2:1≤nodC (s.all j):=by rw [Sch.all_lt hjn]; exact Qh0 (by have:=hg.fine.fit j (by omega); rw [Sch.all_lt hjn] at this; exact this) hk
 omega
theorem Qbu {s:Sch} (hg:s.Good) (hz:SchSz s) {k:Nat} (hk:k < s.nodes.length):NodeOk s s.nodes[k]:=by
 obtain ⟨t,i,hi,hm,he,hroom⟩:=Qs6 s hk;obtain ⟨hF,hS,hK,h9⟩:=Qn6 _ (hg.fine.fit i hi) (hz.all i hi) (hg.known i hi) t hm;rw [he];cases t with
 | nil=>exact hF.elim
 | mk h n p t =>
  have h9':h.kind≠9:=h9;obtain ⟨_,_,h64,_,h56,hFp⟩:=hF;have hlen:(s.nodeP (.mk h n p t) k).edges.length=n:=by simp [Sch.nodeP]
  refine ⟨?_,by rw [hlen]; exact h64,fun j hj=>?_,fun hh=>by rw [hlen]; exact h56 hh⟩
  ·show (nms h.names).length≤_
   rw [nms_length]; exact hS.1.1
  ·rw [hlen] at hj;have hej:(s.nodeP (.mk h n p t) k).edges[j]=s.edgeP k p t j:=by simp [Sch.nodeP]
   rw [hej];refine ⟨Qrd hg.lat _,Qrd hg.lat _,fun hb=>?_,fun hb=>?_⟩
   ·have hb':(p j).bare=false:=hb;have hFt:=(hFp j hj).2 hb';show ∃ m:Nat,s.toI k p t j=m∧m < s.nodes.length
    unfold Sch.toI;rw [if_neg (show ¬ (p j).bare=true by rw [hb']; decide)]
    by_cases h9t:(t j).kd=9
    ·rw [if_pos h9t];refine ⟨_,rfl,Ql1 hg ?_⟩;have hKt:=hK.2 j hj hb';cases htj:t j with
     | nil=>rw [htj] at hFt; exact hFt.elim
     | mk h2 n2 p2 t2 =>
      rw [htj] at hKt h9t;have hf:=hKt.1 h9t;show s.find h2.name.1 < s.n
      refine Qb6 ?_ _;rcases Nat.eq_zero_or_pos s.n with h0 | h0
      ·exfalso
       have hnm:s.names = []:=by unfold Sch.names; rw [h0]; rfl
       rw [hnm] at hf;exact absurd hf (by unfold findL; simp)
      ·exact h0
    ·rw [if_neg h9t];refine ⟨_,rfl,?_⟩;have h1:=Qa5 (f:=fun j=>if (p j).bare=true then 0 else nodC (t j)) hj
     have h2:=Qh0 hFt h9t;rw [Qbn h9'] at hroom;rw [if_neg (show ¬ (p j).bare=true by rw [hb']; decide)] at h1
     omega
   ·have hb':(p j).bare=true:=hb;refine ⟨((hFp j hj).1 hb').1,((hFp j hj).1 hb').2,?_⟩;show s.toI k p t j = -1
    unfold Sch.toI;rw [if_pos hb']
theorem Qg1 {s:Sch} (hg:s.Good):s.rootI < s.nodes.length:=by
 unfold Sch.rootI Sch.nodeI;have hF:=hg.fine.fit s.n nL;have hK:=hg.known s.n nL;rw [Sch.all_end] at hF hK;by_cases h9:s.root.kd=9
 ·rw [if_pos h9];refine Ql1 hg ?_;cases hr:s.root with
  | nil=>rw [hr] at hF; exact hF.elim
  | mk h2 n2 p2 t2 =>
   rw [hr] at hK h9;have hf:=hK.1 h9;refine Qb6 ?_ _;rcases Nat.eq_zero_or_pos s.n with h0 | h0
   ·exfalso
    have hnm:s.names = []:=by unfold Sch.names; rw [h0]; rfl
    rw [hnm] at hf;exact absurd hf (by unfold findL; simp)
   ·exact h0
 ·rw [if_neg h9,Qcm,Sch.nodesTo_length];have h1:=Qa5 (f:=fun i=>nodC (s.all i)) (show s.n < s.n + 1 by omega)
  have h2:=Qh0 hF h9;rw [Sch.all_end] at h1;omega
theorem Qc7 {s:Sch} (hf:s.Fine):s.nodes.length≤512:=by
 rw [Qcm];exact Nat.le_trans (Qdz fun i _=>Qcu _) hf.many
section
variable {P:Program} {ops:Array Oper} {md:Region.Mode} {S:World→Prop}
def tailB (md:Region.Mode) (ops:Array Oper):List Nat→Array Bool→Bool
 | [],ls=>(Region.ready md ops ls).isEmpty
 | r :: rs,ls=>decide (Region.ready md ops ls = [r]) && tailB md ops rs (ls.setIfInBounds r true)
def o0:Oper:={ dst:=none,op:=.move (.tmp 0),type:=0,pos:= "",after:=#[],guard:=none }
def opsAt (ops:Array Oper) (is:List Nat):List Oper:=is.map fun i=>(ops[i]?).getD o0
theorem opsAt_cons {i:Nat} {o:Oper} (h:ops[i]? = some o) (is:List Nat):opsAt ops (i :: is)=o :: opsAt ops is:=by
 unfold opsAt;rw [List.map_cons,h];rfl
theorem ready_one {ls:Array Bool} {r:Nat} (h:Region.ready md ops ls = [r]):∃ o,ops[r]? = some o:=by
 obtain ⟨_,o,ho,_⟩:=mem_ready.1 (show r ∈ Region.ready md ops ls by rw [h]; exact List.mem_singleton.2 rfl)
 exact ⟨o,ho⟩
theorem Qd8 {Q:Exit→Act→World→Prop} {z:Nat} : ∀ (rs:List Nat) (ls:Array Bool) (a:Act) (w:World),(∀ r ∈ rs,z≤r)→tailB md ops rs ls=true→wpList P ops Q (opsAt ops rs) a w→Qdc P md ops Q S z rs.length ls a w:=by
 intro rs;induction rs with
 | nil=>intro ls a w _ hB h; exact ⟨by simpa [tailB] using hB,h⟩
 | cons r rs ih =>
  intro ls a w hz hB h;simp only [tailB,Bool.and_eq_true,decide_eq_true_eq] at hB;obtain ⟨o,ho⟩:=ready_one hB.1;rw [opsAt_cons ho] at h;refine ⟨fun e=>(by rw [hB.1] at e; cases e),fun i hi=>?_⟩
  rw [hB.1] at hi;obtain rfl:i=r:=by simpa using hi
  have hw:wpOp P ops Q i (wpList P ops Q (opsAt ops rs)) a w:=by unfold wpOp; rw [ho]; exact h
  exact wpOp_mono (fun a' w' h'=>⟨fun hh=>absurd hh (Nat.not_lt.2 (hz i (List.mem_cons_self ..))),ih _ a' w' (fun r hr=>hz r (List.mem_cons_of_mem _ hr)) hB.2 h'⟩) hw
def Qcn (ls:Array Bool):List Nat→Array Bool
 | []=>ls
 | i :: r=>Qcn (ls.setIfInBounds i true) r
def floatsB (md:Region.Mode) (ops:Array Oper) (z:Nat):List Nat→Array Bool→Bool
 | [],_=>true
 | i :: r,ls=>(Region.ready md ops ls).contains i && Region.free md ops ls i && decide (i < z) && ((ops[i]?).map fun o=>Qez o.op).getD true && floatsB md ops z r (ls.setIfInBounds i true)
def onesB (md:Region.Mode) (ops:Array Oper):List Nat→Array Bool→Bool
 | [],_=>true
 | r :: rs,ls=>decide (Region.ready md ops ls = [r]) && onesB md ops rs (ls.setIfInBounds r true)
def seqK (P:Program) (ops:Array Oper) (Q:Exit→Act→World→Prop) (S:World→Prop) (K:Act→World→Prop):List Oper→Act→World→Prop
 | [],a,w=>K a w
 | o :: r,a,w=>wpList P ops (fun e a' w'=>match e with | .normal=>S w'∧seqK P ops Q S K r a' w' | e=>Q e a' w') [o] a w
theorem Qfi {Q:Exit→Act→World→Prop} {z fuel:Nat} {K:Act→World→Prop} : ∀ (rs:List Nat) (ls:Array Bool) (a:Act) (w:World),onesB md ops rs ls=true→(∀ a w,S w→K a w→Qdc P md ops Q S z fuel (Qcn ls rs) a w)→S w→seqK P ops Q S K (opsAt ops rs) a w→Qdc P md ops Q S z (rs.length + fuel) ls a w:=by
 intro rs;induction rs with
 | nil=>intro ls a w _ hK hS h; rw [List.length_nil,Nat.zero_add]; exact hK a w hS h
 | cons r rs ih =>
  intro ls a w hB hK hS h;simp only [onesB,Bool.and_eq_true,decide_eq_true_eq] at hB;obtain ⟨o,ho⟩:=ready_one hB.1;rw [opsAt_cons ho] at h;rw [List.length_cons,Nat.succ_add];refine ⟨fun e=>(by rw [hB.1] at e; cases e),fun i hi=>?_⟩
  rw [hB.1] at hi;obtain rfl:i=r:=by simpa using hi
  exact Qc0 (Q':=fun e a' w'=>match e with | .normal=>S w'∧seqK P ops Q S K (opsAt ops rs) a' w' | e=>Q e a' w') ho (fun a' w' h'=>⟨fun _=>h'.1,ih _ a' w' hB.2 hK h'.1 h'.2⟩) (fun _ _ _ h'=>h') (fun _ _ h'=>h') h
theorem Qfj {Q:Exit→Act→World→Prop} {z fuel:Nat} {w:World} {R:Act→Prop} (hsel:Region.noSelect ops=true) (hz:Qcw md ops z=true) (hQ:∀ c a w,¬ Q (.panic c) a w) (hS:S w) :
  ∀ (is:List Nat) (ls:Array Bool) (a:Act),floatsB md ops z is ls=true→(∀ a,R a→Qdc P md ops Q S z fuel (Qcn ls is) a w)→wpQuiet P ops S R (opsAt ops is) a→Qdc P md ops Q S z (is.length + fuel) ls a w:=by
 intro is;induction is with
 | nil =>
  intro ls a _ hR h;rw [List.length_nil,Nat.zero_add];exact hR a h
 | cons k is ih =>
  intro ls a hB hR h;simp only [floatsB,Bool.and_eq_true,decide_eq_true_eq] at hB;obtain ⟨⟨⟨⟨hr0,hfree⟩,hkz⟩,hpo⟩,hrest⟩:=hB;have hr:k ∈ Region.ready md ops ls:=by simpa using hr0
  obtain ⟨_,o,h0,_⟩:=mem_ready.1 hr;rw [h0] at hpo;rw [opsAt_cons h0] at h;have hq:qOp P ops S k (wpQuiet P ops S R (opsAt ops is)) a:=by unfold qOp; rw [h0]; exact h
  obtain ⟨v,hy,hK⟩:=yieldsIn_of_qOp h0 hq;have hy':YieldsIf P ops S o v a:=by
   rcases hy with ⟨h1,h2⟩ | ⟨h1,h2⟩
   ·refine .inl ⟨h1,fun w1 hw1=>?_⟩
    have h3:=h2 w1 hw1;have h4:=Qiv (P:=P) hpo a.eval w1;unfold Oper.quietAt at h3;cases hr:(execOp a.eval o).run P w1 with
    | ok nx w2 =>
     rw [hr] at h3 h4;obtain ⟨u,rfl⟩:=h4 _ _ rfl;obtain ⟨e1,e2⟩:=h3;rw [e1,e2]
    | halt x w2=>rw [hr] at h3; exact h3.elim
   ·exact .inr ⟨h1,h2⟩
  rw [List.length_cons,Nat.succ_add];exact Qj3 h0 (Region.noSelect_spec hsel) hz hkz (fun c a w h=>absurd h (hQ c _ w)) _ ls a w (Region.free_spec h0 hfree) hr hy' hS (ih _ _ hrest hR hK)
def Qre (md:Region.Mode) (ops:Array Oper) (i1 r1 i2 r2 ts:List Nat) (z:Nat):Bool :=
 let l0:=Array.replicate ops.size false
 let l1:=Qcn l0 i1
 let l2:=Qcn l1 r1
 let l3:=Qcn l2 i2
 let l4:=Qcn l3 r2
 Region.noSelect ops && Qcw md ops z && floatsB md ops z i1 l0 && onesB md ops r1 l1 && floatsB md ops z i2 l2 && onesB md ops r2 l3 && ts.all (fun r=>decide (z≤r)) && tailB md ops ts l4 && decide (i1.length + (r1.length + (i2.length + (r2.length + ts.length)))=ops.size)
theorem Qaq {id:Nat} {Q:Exit→Act→World→Prop} {a:Act} {w:World} {l:List Oper} (i1 r1 i2 r2 ts:List Nat) (z:Nat) (hm:P.follows .mixedOrders=true) (hB:Qre .any l.toArray i1 r1 i2 r2 ts z=true) (S:World→Prop) (hS:S w.drew)
  (h:∀ (I:Type) [Nonempty I] (f:I→World),(∀ n,S (f n))→wpQuiet P l.toArray (fun w'=>∃ n,w'=f n) (fun a'=>seqK P l.toArray (Qbd Q) S (fun a1 w1=>wpQuiet P l.toArray (fun w'=>∃ n,w'=f n) (fun a2=>seqK P l.toArray (Qbd Q) S (wpList P l.toArray (Qbd Q) (opsAt l.toArray ts)) (opsAt l.toArray r2) a2 w1) (opsAt l.toArray i2) a1) (opsAt l.toArray r1) a' w.drew) (opsAt l.toArray i1) a):(Code.region id l.toArray true).wp P Q a w:=by
 simp only [Qre,Bool.and_eq_true,decide_eq_true_eq] at hB;obtain ⟨⟨⟨⟨⟨⟨⟨⟨hsel,hz⟩,h1⟩,h2⟩,h3⟩,h4⟩,hts⟩,h5⟩,hlen⟩:=hB;haveI:Nonempty {w':World // S w'}:=⟨⟨_,hS⟩⟩
 have h':=h {w':World // S w'} Subtype.val (fun n=>n.2)
 have e:(fun w'=>∃ n:{w':World // S w'},w'=n.1)=S:=by
  funext w'
  exact propext ⟨fun ⟨n,hn⟩=>by rw [hn]; exact n.2,fun h=>⟨⟨w',h⟩,rfl⟩⟩
 rw [e] at h';refine wp_region_any hm (Qhv _ ?_);have hcalm:∀ c a w,¬ Qbd Q (.panic c) a w:=fun c a w h=>h
 have:=Qfj (md:=.any) (Q:=Qbd Q) (fuel:=r1.length + (i2.length + (r2.length + ts.length))) hsel hz hcalm hS i1 (Array.replicate l.toArray.size false) a h1 (fun a1 k1 =>
  Qfi r1 _ a1 _ h2 (fun a2 w2 hs2 k2 =>
   Qfj (fuel:=r2.length + ts.length) hsel hz hcalm hs2 i2 _ a2 h3 (fun a3 k3 =>
    Qfi r2 _ a3 _ h4 (fun a4 w4 _ k4=>Qd8 ts _ a4 w4 (fun r hr=>by simpa using List.all_eq_true.1 hts r hr) h5 k4) hs2 k3) k2) hS k1) h'
 rw [hlen] at this;exact Qet _ this
theorem seqK_plain {Q:Exit→Act→World→Prop} {o:Oper} {r:List Oper} {K0:Act→World→Prop} {a:Act} {w:World} (hg:o.guard=none)
  (h:∀ K:Act→World→Prop,(∀ a w,S w→seqK P ops Q S K0 r a w→K a w)→o.wp P a w K (fun e a' w'=>match e with | .normal=>S w'∧seqK P ops Q S K0 r a' w' | e=>Q e a' w')):seqK P ops Q S K0 (o :: r) a w :=
 show wpList P ops _ [o] a w from wpList_plain hg fun K hK=>h K fun a w h1 h2=>hK a w ⟨h1,h2⟩
theorem seqK_done {Q:Exit→Act→World→Prop} {K0:Act→World→Prop} {a:Act} {w:World} (h:K0 a w):seqK P ops Q S K0 [] a w:=h
end
theorem Qh1 {fn:Func} {u p:Tmp} {cs:Array Value} (h:fn.results=#[.cell p 66,.tmp u]) (tmps:Array Value) (w:World) (g:Nat) (hp:tmps.getD p undef = .pointer (some ⟨g,0,none⟩)) (hB:Blk w g 66 cs) (hi:(Tryz.prog.info? 66).map (·.size)=some cs.size) :
  (results fn tmps).run Tryz.prog w = .ok (.tuple #[.agg cs,tmps.getD u undef]) w:=by
 have hp':tmps[p]?.getD undef = .pointer (some ⟨g,0,none⟩):=by simpa using hp
 have hl:=run_loadVar_row (P:=Tryz.prog) (ty:=66) w g 66 cs (0,0) _ hB Tryz.underlying66 rfl hi;simp [results,h,hp',asAddr,hl]
theorem Ql2 {g:Nat} {w2:World} {fn:Func} {u p:Tmp} {a:Act} {R:Ending→World→Prop} {cs:Array Value} {v:Value} (hB:Blk w2 g 66 cs) (hi:(Tryz.prog.info? 66).map (·.size)=some cs.size) (hfn:fn.results=#[.cell p 66,.tmp u]) (hu:a.tmps.getD u undef=v) (hp:a.tmps.getD p undef = .pointer (some ⟨g,0,none⟩)) (hd:a.defers = [])
  (hR:R (.returned (.tuple #[.agg cs,v])) w2):bodyPost Tryz.prog fn R .ret a w2:=by
 subst hu;exact bodyPost_ret (Qh1 hfn _ _ g hp hB hi) hd hR
theorem Qs7:(Tryz.prog.info? 66).map (·.size)=some 7:=by kernel_rfl
def Qh2 (d:NodeP) (w:World) (e:Ending) (w':World):Prop :=
 ∃ An cn Ae ce,e = .returned (.tuple #[.agg (nodeV d An cn Ae ce).toArray,.bool true])∧StrAt w' w'.heap.size An d.names∧EdgesAt w' w'.heap.size Ae d.edges∧Ext w w'
def Qj9 (d:NodeP) (w:World) (e:Ending) (w':World):Prop :=
 ∃ An cn Ae ce,e = .returned (.tuple #[.agg (nodeV d An cn Ae ce).toArray,.bool true])∧StrAt w' w'.heap.size An d.names∧EdgesAt w' w'.heap.size Ae d.edges∧Ext w w'∧∀ a,Ae=some a→w.heap.size≤a.block
set_option maxRecDepth 100000 in
theorem Qgk (gp k:Nat) (s:Sch) (w:World) (h:PlanAt w gp s) (hk:k < s.nodes.length) (hN:s.nodes.length≤512) (hd:NodeOk s s.nodes[k]):Calls Tryz.prog 24 #[.pointer (some ⟨gp,0,none⟩),.int .i64 (k:Int)] w (Qj9 s.nodes[k] w):=by
 have HLEN:=hide (fun w1 (hE:Ext w w1)=>Qeu gp s w1 (h.ext hE))
 obtain ⟨gl,gt,A,c,Anm,cnm,xs,h1,_,h3,h4⟩:=h;have he:=h4 k hk;obtain ⟨d,hd_⟩:=V1 (s.nodes[k]);rw [← hd_] at he hd ⊢;obtain ⟨An,cn,Ae,ce,hv,hS,hE,_,_⟩:=he;obtain ⟨b,o,rfl,hb,hc⟩:=h3.form (by omega) (by omega)
 have hseg:∀ j v,(nodeV d An cn Ae ce)[j]? = some v→w.cell? ⟨b,o + k * 7 + j,none⟩=some v:=fun j v hj=>by
  have hj7:j < 7:=(List.getElem?_eq_some_iff.1 hj).1;rw [← hv,Qe0 _ _ _ hj7] at hj;rw [Nat.add_assoc];exact hc (k * 7 + j) v hj
 unfold nodeV at hseg;have HPOST:=hide (show ∀ A5 c5 A6 c6,nodeV d A5 c5 A6 c6=nodeV d A5 c5 A6 c6 from fun _ _ _ _=>rfl)
 obtain ⟨N,hN_⟩:=V1 (s.nodes.length);rw [← hN_] at HLEN h1 hN hk;have HNV:=hide hN_;obtain ⟨m,hm,q,hq⟩:=V2 (d.names.length) (d.edges.length);rw [← hm,← hq] at hseg;have hq64:q≤1000000:=by rw [hq]; exact Nat.le_trans hd.few (by decide)
 have hm64:m≤5864062014634:=by rw [hm]; exact hd.names
 obtain ⟨HC1,HC2,HM,HQ⟩:=Z4 (fun w1 (hE1:Ext w w1)=>Qlz An cn m w1 d.names (hS.ext hE1) hm hm64) (fun w1 (hE1:Ext w w1)=>Qko Ae ce q w1 d.edges (hE.ext hE1) hq hq64) hm hq
 have i0:=nZ k;have i1:(k:Int) < (N:Int):=by omega
 have i2:¬ (k:Int) < 0:=by omega
 have i3:¬ (N:Int)≤(k:Int):=by omega
 obtain ⟨w1,g4,hw1,hg4,Hw1,Hg4,hZ,hZE⟩:=T0 w 66 #[.int .i64 0,.int .i64 0,.int .i64 0,.int .i64 0,.int .i64 0,.slice none 0 0,.slice none 0 0];have p1:=(h1.ext hZE).cell 1;simp only [gA,gH,gS] at p1;have c0:=(hZE.cell (p:=⟨b,o + k * 7,none⟩) hb).trans (hseg 0 _ rfl);have c1:=(hZE.cell (p:=⟨b,o + k * 7 + 1,none⟩) hb).trans (hseg 1 _ rfl);have c2:=(hZE.cell (p:=⟨b,o + k * 7 + 2,none⟩) hb).trans (hseg 2 _ rfl);have c3:=(hZE.cell (p:=⟨b,o + k * 7 + 3,none⟩) hb).trans (hseg 3 _ rfl);have c4:=(hZE.cell (p:=⟨b,o + k * 7 + 4,none⟩) hb).trans (hseg 4 _ rfl);have c5:=(hZE.cell (p:=⟨b,o + k * 7 + 5,none⟩) hb).trans (hseg 5 _ rfl);have c6:=(hZE.cell (p:=⟨b,o + k * 7 + 6,none⟩) hb).trans (hseg 6 _ rfl);obtain ⟨w2,g6,hw2,hg6,Hw2,Hg6,hB,hBE⟩:=T0 w1 66 #[.int .i64 d.kind,.int .i64 d.at_,.int .i64 d.lo,.int .i64 d.hi,.int .i64 d.most,.slice An m cn,.slice Ae q ce];obtain ⟨HE2,HE1,HZ2,HB2⟩:=Z4 (hZE.trans' hBE) hZE (hZ.ext hBE) hB;have hlo4:w.heap.size≤g4:=by omega
 have hlo6:w.heap.size≤g6:=by have:=hZE.size; omega
 have h46:g4≠g6:=by have:=hZ.lt; omega
 obtain ⟨-,-,-,-,-,b5,b6⟩:=X7 hB;clear hw1 hg4 hw2 hg6 hZ hZE hB hBE h1 h3 h4 hd_ hv hS hE hc hb hseg hN_ hm hq hd hk HPOST;go_enter Tryz.func24,Tryz.ntmps24
 go_upto_region 1 with fail
 rw [← Hw1.out,← Hg4.out];go_wp2_with fail
 refine (HLEN.out w1 HE1.out).mono ?_;rintro e w1' ⟨rfl,rfl⟩;go_upto_region 4 with fail
 rw [← Hw2.out,← Hg6.out];rename_i Kz hKz
 clear p1 c0 c1 c2 c3 c4 c5 c6;refine Qaq [0,1,3,4] [2] [6] [5] [7,8,9] 7 (by kernel_rfl) (by kernel_rfl) (fun w'=>w'.cell? ⟨g6,5,none⟩=some (.slice An m cn)∧w'.cell? ⟨g6,6,none⟩=some (.slice Ae q ce)) ⟨b5,b6⟩ ?_
 intro I _ f hf;have q5:=fun n=>(hf n).1
 have q6:=fun n=>(hf n).2
 clear hf;simp only [opsAt,List.map_cons,List.map_nil,gA,gH,gS,Option.getD_some];repeat (go_big_quiet_step ((fail)))
 refine wpQuiet_nil ?_;refine seqK_plain rfl ?_;intro K1 hK1;go_simp;refine (HC1.out _ HE2.out.drew').mono ?_;rintro e w3 ⟨A5,c5,rfl,hS3,hE3,hF5⟩;have hE3':=((Ext.rfl' w2).drew').trans' hE3;have hB3:=HB2.out.ext hE3';refine hK1 _ _ ⟨hB3.cell 5,hB3.cell 6⟩ ?_;refine seqK_done ?_;repeat (go_big_quiet_step ((fail)))
 refine wpQuiet_nil ?_;clear q5 q6;refine seqK_plain rfl ?_;intro K2 hK2;go_simp;refine (HC2.out _ (HE2.out.trans' hE3')).mono ?_;rintro e w4 ⟨A6,c6,rfl,hX4,hE4,hF6⟩;have hE4':=hE3'.trans' hE4;have hB4:=HB2.out.ext hE4';refine hK2 _ _ ⟨hB4.cell 5,hB4.cell 6⟩ ?_;refine seqK_done ?_;obtain ⟨-,-,-,-,-,u5,u6⟩:=X7 hB4;have uf5:=hB4.free 5;have uf6:=hB4.free 6;obtain ⟨HB4,HZ4,HE4,HS4,HX4⟩:=Z5 hB4 (HZ2.out.ext hE4') (HE2.out.trans' hE4') (hS3.ext hE4) hX4;have HL4:=hide hE4'.size;have HF5:=hide (show ∀ a,A5=some a→w2.heap.size≤a.block from hF5)
 have HF6:=hide (show ∀ a,A6=some a→w2.heap.size≤a.block from fun a ha=>Nat.le_trans hE3'.size (hF6 a ha))
 clear hS3 hE3 hE3' hB3 hX4 hE4 hE4' hB4 b5 b6 hF5 hF6;go_wp2_with fail
 refine hKz _ _ ?_;clear u5 u6 uf5 uf6;obtain ⟨w5,hw5⟩:=V1 ((w4.setCell ⟨g6,5,none⟩ (.slice A5 m c5)).setCell ⟨g6,6,none⟩ (.slice A6 q c6));have hm5:Mv (fun i=>i=g6) w4 w5:=by rw [hw5]; exact ((Mv.rfl' (fun i=>i=g6) w4).set (.inr rfl) _).set (.inr rfl) _
 have hB5:Blk w5 g6 66 #[.int .i64 d.kind,.int .i64 d.at_,.int .i64 d.lo,.int .i64 d.hi,.int .i64 d.most,.slice A5 m c5,.slice A6 q c6]:=by rw [hw5]; exact (HB4.out.set_ 5 _).set_ 6 _
 have hZ5:=hm5.blk HZ4.out h46;have hE5:=hm5.below HE4.out (fun i e=>by rw [e]; exact hlo6)
 have hX5:Mv (fun i=>i=g6) w4 w5:=hm5
 have HM5:=hide hm5;rw [← hw5];have hrg:=Qb8 hB5;have hth:=Qbo hZ5 (o:=0) (m:=(#[.int .i64 d.kind,.int .i64 d.at_,.int .i64 d.lo,.int .i64 d.hi,.int .i64 d.most,.slice A5 m c5,.slice A6 q c6]:Array Value).size) nL;have hbf:=Qdr [.int .i64 d.kind,.int .i64 d.at_,.int .i64 d.lo,.int .i64 d.hi,.int .i64 d.most,.slice A5 m c5,.slice A6 q c6] [.int .i64 0,.int .i64 0,.int .i64 0,.int .i64 0,.int .i64 0,.slice none 0 0,.slice none 0 0] hZ5 rfl;obtain ⟨HBF,HRG5,HTH2,HE5⟩:=Z4 hbf hrg hth hE5;clear hw5 hm5 hB5 hZ5 hE5 hX5 hrg hth hbf;go_upto_region 5 with fail
 refine wp_region_lit ?_;refine wpList_load_mid rfl 66 _ rfl g6 0 rfl _ _ HRG5.out Tryz.underlying66 rfl Qs7 ?_;refine wpList_store_mid rfl 66 _ _ rfl g4 0 #[.int .i64 d.kind,.int .i64 d.at_,.int .i64 d.lo,.int .i64 d.hi,.int .i64 d.most,.slice A5 m c5,.slice A6 q c6] rfl rfl HTH2.out (by kernel_rfl) (by simp [Value.oneCell']) ?_
 rename_i Kq hKq
 obtain ⟨w9,hw9⟩:=V1 (w5.setCells g4 0 [.int .i64 d.kind,.int .i64 d.at_,.int .i64 d.lo,.int .i64 d.hi,.int .i64 d.most,.slice A5 m c5,.slice A6 q c6]);have hb9:=HBF.out;have hm9:=Mv.setCells (X:=fun i=>i=g4) (g:=g4) (Mv.rfl' _ w5) rfl [.int .i64 d.kind,.int .i64 d.at_,.int .i64 d.lo,.int .i64 d.hi,.int .i64 d.most,.slice A5 m c5,.slice A6 q c6] 0
 rw [← hw9] at hb9 hm9;obtain ⟨HB9,HE9,HM9⟩:=Z3 hb9 (hm9.below HE5.out (fun i e=>by rw [e]; exact hlo4)) hm9
 show wpList _ _ _ _ _ (w5.setCells g4 0 [.int .i64 d.kind,.int .i64 d.at_,.int .i64 d.lo,.int .i64 d.hi,.int .i64 d.most,.slice A5 m c5,.slice A6 q c6])
 rw [← hw9];clear hw9 hb9 hm9;refine wpList_plain rfl fun K5 hK5=>?_
 go_simp;refine hK5 _ _ ?_;refine wpList_nil ?_;refine hKq _ _ ?_;go_wp2_with fail
 refine Ql2 (g:=g4) HB9.out (by kernel_rfl) rfl rfl rfl rfl ?_
 refine ⟨A5,c5,A6,c6,?_,?_,?_,HE9.out,fun a ha=>by have:=HF6.out a ha; have:=HE2.out.size; omega⟩
 ·unfold nodeV;rw [← HM.out,← HQ.out];rfl
 ·exact Reads.mv (Reads.mv HS4.out HM5.out (fun a ha e=>by have:=HF5.out a ha; have:=HB2.out.lt; omega)) HM9.out (fun a ha e=>by have:=HF5.out a ha; have:=HZ2.out.lt; omega)
 ·exact Reads.mv (Reads.mv HX4.out HM5.out (fun a ha e=>by have:=HF6.out a ha; have:=HB2.out.lt; omega)) HM9.out (fun a ha e=>by have:=HF6.out a ha; have:=HZ2.out.lt; omega)
theorem Qhm (gp k:Nat) (s:Sch) (w:World) (h:PlanAt w gp s) (hk:k < s.nodes.length) (hN:s.nodes.length≤512) (hd:NodeOk s s.nodes[k]):Calls Tryz.prog 24 #[.pointer (some ⟨gp,0,none⟩),.int .i64 (k:Int)] w (Qh2 s.nodes[k] w) :=
 (Qgk gp k s w h hk hN hd).mono fun _ _ ⟨An,cn,Ae,ce,h1,h2,h3,h4,_⟩=>⟨An,cn,Ae,ce,h1,h2,h3,h4⟩
end Go.Proofs.YtanpljalbijfkaaGreat
