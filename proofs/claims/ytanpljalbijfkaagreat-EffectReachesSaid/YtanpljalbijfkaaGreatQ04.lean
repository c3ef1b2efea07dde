/- . -/
import Derived.Test.YtanpljalbijfkaaGreatQ01
import Derived.Test.YtanpljalbijfkaaGreatQ03
import Derived.BigRegion
namespace Go.Proofs.YtanpljalbijfkaaGreat
open Go.RowKit
set_option maxHeartbeats 16000000
theorem findL_lt {l:List ByteArray} {i:Nat} (h:i < l.length):findL l l[i] < (i:Int)↔∃ j,∃ hj:j < l.length,j < i∧l[j]=l[i]:=by
 unfold findL;cases hf:l.findIdx? (fun x=>decide (x=l[i])) with
 | none =>
  rw [List.findIdx?_eq_none_iff] at hf;have:=hf l[i] (List.getElem_mem h)
  simp at this
 | some k =>
  rw [List.findIdx?_eq_some_iff_getElem] at hf;obtain ⟨hk,hk1,hk2⟩:=hf;have hk1':l[k]=l[i]:=by simpa using hk1
  constructor
  ·intro hlt;exact ⟨k,hk,by simpa using hlt,hk1'⟩
  ·rintro ⟨j,hj,hji,e⟩;show (k:Int) < i
   rcases Nat.lt_or_ge j k with h1 | h1
   ·have:=hk2 j h1
    simp at this
    exact absurd e this
   ·omega
theorem Qr3 {l:List ByteArray} {i:Nat} (h:i < l.length):0≤findL l l[i]:=by
 unfold findL;cases hf:l.findIdx? (fun x=>decide (x=l[i])) with
 | none =>
  rw [List.findIdx?_eq_none_iff] at hf;have:=hf l[i] (List.getElem_mem h)
  simp at this
 | some k=>show (0:Int)≤(k:Int); omega
set_option maxRecDepth 100000 in
theorem Qf0 (A:Option Addr) (c n:Nat) (l:List ByteArray) (w:World) (h:StrAt w w.heap.size A l) (hln:n=l.length) (hn:n≤1000000) :
  Calls Tryz.prog 69 #[.slice A n c] w (fun e w'=>e = .returned (.int .i64 (twiceL l))∧Ext w w'):=by
 obtain ⟨HN,HS,HC⟩:=Z3 hln h (Qib A c n l w h hln hn);clear hln h;go_enter Tryz.func69,Tryz.ntmps69
 go_wp2_with fail
 refine HC.out.mono ?_;rintro e w1 ⟨g,rfl,hT,hE⟩;obtain ⟨HT,HE,HS1⟩:=Z3 hT hE (HS.out.ext hE);clear hT hE HC HS;go_wp2_with fail
 go_loopw [12] (fun i wr=>∃ k:Nat,k≤n∧i = .int .i64 k∧Ext w1 wr∧Hid (∀ j,j < k→twiceP l j=false)) (fun i _=>n - (intOf i).toNat)
 case atStart=>exact ⟨0,Nat.zero_le _,rfl,Ext.rfl' _,fun j hj=>absurd hj (by omega)⟩
 case round =>
  obtain ⟨k,hk,rfl,hEr,HA⟩:=hrel;have HEr:=hide hEr;by_cases hlt:k < n
  ·have hkl:k < l.length:=by rw [← HN.out]; exact hlt
   have hF:=Qbh g l l[k] wr (HT.out.ext hEr) (by rw [← HN.out]; omega)
   have hp:=Qr3 hkl;have hbd:=Qep l l[k];have htw:twiceP l k=decide (findL l l[k] < (k:Int)):=by
    unfold twiceP;rw [List.getD_eq_getElem?_getD,List.getElem?_eq_getElem hkl];rfl
   obtain ⟨b,o,rfl,hbs,hcell⟩:=HS1.out.cell (by omega)
   have d1:=(hEr.cell (p:=⟨b,o + k,none⟩) hbs).trans (hcell k hkl);have hR:findR l l[k] = .tuple #[.int .i64 (findL l l[k]),.bool true]:=by
    unfold findR;rw [if_neg (by omega)]
    simp [hp]
   rw [hR] at hF;obtain ⟨x,hx,r,hr⟩:=V2 (l[k]) (findL l l[k]);rw [← hr] at hF htw hp hbd;rw [← hx] at d1 hF;obtain ⟨HF,HTW⟩:=Z2 hF htw;clear hF htw hx hr hcell hEr hR;have hr2:r≤1000000:=by rw [← HN.out] at hbd; omega
   clear hbd;by_cases hrk:r < (k:Int)
   ·have ht:=Qpz hkl HA.out (by rw [HTW.out]; simpa using hrk)
    have HTT:=hide ht;clear ht;go_wp2_with (go_at_call 72; with_reducible refine HF.out.mono ?_; rintro e w' ⟨rfl,hE2⟩; have HE2:=hide hE2; clear hE2)
    go_ret
    exact ⟨Qq HTT.out.symm,(HE.out.trans' HEr.out).trans' HE2.out⟩
   ·have hn':∀ j,j < k + 1→twiceP l j=false:=fun j hj=>by
     by_cases e:j=k
     ·subst e; rw [HTW.out]; simpa using hrk
     ·exact HA.out j (by omega)
    have HNN:=hide hn';clear hn';go_wp2_with (go_at_call 72; with_reducible refine HF.out.mono ?_; rintro e w' ⟨rfl,hE2⟩; have HE2:=hide hE2; clear hE2)
    go_roundw
    case rel=>exact ⟨k + 1,by omega,by go_num,HEr.out.trans' HE2.out,HNN.out⟩
    case measure=>simp [intOf]; omega
  ·obtain rfl:n=k:=by omega
   have ht:=twice_miss (l:=l) (fun j hj=>HA.out j (by rw [HN.out]; exact hj))
   have HTT:=hide ht;clear ht hEr;go_wp2_with fail
   go_ret
   exact ⟨Qq HTT.out.symm,HE.out.trans' HEr.out⟩
theorem Qjo {l:List ByteArray} : twiceL l < 0↔∀ j,j < l.length→twiceP l j=false:=by
 constructor
 ·intro h j hj;unfold twiceL at h;cases hf:(List.range l.length).find? (twiceP l) with
  | some i=>rw [hf] at h; exact absurd h (by show ¬ (i:Int) < 0; omega)
  | none =>
   rw [List.find?_eq_none] at hf;have:=hf j (List.mem_range.2 hj)
   simpa using this
 ·intro h;rw [twice_miss h];decide
theorem twiceP_iff {l:List ByteArray} {i:Nat} (hi:i < l.length):twiceP l i=false↔∀ j (hj:j < l.length),j < i→l[j]≠l[i]:=by
 unfold twiceP;rw [List.getD_eq_getElem?_getD,List.getElem?_eq_getElem hi];show decide (findL l l[i] < (i:Int))=false↔_
 rw [decide_eq_false_iff_not,findL_lt hi];constructor
 ·intro h j hj hji e; exact h ⟨j,hj,hji,e⟩
 ·rintro h ⟨j,hj,hji,e⟩; exact h j hj hji e
theorem Qmr {l:List ByteArray} : twiceL l < 0↔l.Nodup:=by
 rw [Qjo,List.Nodup,List.pairwise_iff_getElem];constructor
 ·intro h i j hi hj hij;exact (twiceP_iff hj).1 (h j hj) i hi hij
 ·intro h j hj;exact (twiceP_iff hj).2 fun i hi hij=>h i j hi hj hij
abbrev Flt:=Int × Int
def Qce (l:List Wd) (i:Nat):Option Flt:=if Qj (wNm l i)=false then some (9,wPl l i) else none
def Qo (l:List Wd):Flt:=if 32 < l.length then (8,wPl l 32) else (Qf (Qce l) l.length).getD (0,0)
def listE (l:List ByteArray) (i:Nat):Int:=if Qj (l.getD i ⟨#[]⟩)=false then 9 else if twiceP l i=true then 10 else 0
def Qic (l:List Wd) (i:Nat):Option Flt:=if listE (nms l) i=0 then none else some (listE (nms l) i,wPl l i)
def Qao (a:Int) (l:List Wd):Flt:=if l.length=0 then (15,a) else if 64 < l.length then (8,wPl l 64) else (Qf (Qic l) l.length).getD (0,0)
def Qai (q:PtH):Flt :=
 if q.ck=0 then (if q.cn=0∧q.cl.length=0 then (0,0) else (19,q.name.2)) else if q.ck < 0∨3 < q.ck then (14,q.cat) else
 if (q.ck=1∧q.cn < 1)∨(q.ck=2∧(q.cn < 0∨4096 < q.cn))∨(q.ck=3∧q.cn≠0) then (20,q.cat) else Qo q.cl
def Qp4 (q:PtH):Flt:=if (Qo q.label).1=0 then Qai q else Qo q.label
def Qaf (q:PtH):Flt:=if q.wide < 0∨64 < q.wide then (20,q.name.2) else Qp4 q
def zTy:Ty:=.mk ⟨0,0,0,0,0,[],wd0⟩ 0 (fun _=>⟨wd0,false,[],0,0,0,0,[]⟩) (fun _=>.nil)
def zPt (nm:Wd) (b:Bool):PtH:=⟨nm,b,[],0,0,0,0,[]⟩
def Qbb (q:PtH) (t:Ty):Bool:=Q3 q (zPt q.name true) && Qu t zTy
def Qd (n:Nat) (p:Nat→PtH):List ByteArray:=(List.range n).map fun i=>(p i).name.1
abbrev Wr:=Flt × Int
def stepF (k:Int) (n:Nat) (p:Nat→PtH) (t:Nat→Ty) (sub:Nat→Int→Wr) (i:Nat) (m:Int):Wr :=
 if listE (Qd n p) i≠0 then ((listE (Qd n p) i,(p i).name.2),m) else
 if (p i).bare=true then (if k=8∧Qbb (p i) (t i)=true then ((0,0),m) else ((19,(p i).name.2),m)) else
 if (Qaf (p i)).1≠0 then (Qaf (p i),m) else sub i m
def goTo (g:Nat→Int→Wr):Nat→Int→Wr
 | 0,m=>((0,0),m)
 | k + 1,m=>if (goTo g k m).1.1≠0 then goTo g k m else g k (goTo g k m).2
def Qcf (h:TyH) (n:Nat) (p:Nat→PtH) (g:Nat→Int→Wr) (m:Int):Wr :=
 if h.kind=8∧n=0 then ((15,h.at_),m) else if 64 < n then ((8,(p 64).name.2),m) else goTo g n m
def Qf1 (h:TyH) (n:Nat) (p:Nat→PtH) (g:Int→Wr) (m:Int):Wr :=
 if n=1∧Q3 (p 0) (zPt wd0 false)=true then (if h.most < 0∨1024 < h.most then ((20,h.at_),m) else g m) else ((19,h.at_),m)
def Qcz (h:TyH) (n:Nat) (p:Nat→PtH) (t:Nat→Ty) (sub:Nat→Int→Wr) (m:Int):Wr :=
 if h.kind=2 then (if h.hi < h.lo then ((20,h.at_),m) else ((0,0),m)) else
 if h.kind=3 then (if h.most < 0∨4096 < h.most then ((20,h.at_),m) else ((0,0),m)) else
 if h.kind=4 then (Qao h.at_ h.names,m) else
 if h.kind=5∨h.kind=6 then Qf1 h n p (sub 0) m else
 if h.kind=7∨h.kind=8 then Qcf h n p (stepF h.kind n p t sub) m else
 if h.kind=9 then (if Qj h.name.1=true then ((0,0),m) else ((9,h.name.2),m)) else ((0,0),m)
def Qe7 (h:TyH) (n:Nat) (p:Nat→PtH) (t:Nat→Ty) (sub:Nat→Int→Wr) (d m:Int):Wr :=
 if 24 < d then ((6,h.at_),m) else if 512 < m then ((8,h.at_),m) else if h.kind < 1∨9 < h.kind then ((14,h.at_),m) else
 if Qcd h n=true then Qcz h n p t sub m else ((19,h.at_),m)
def chk:Ty→Int→Int→Wr
 | .nil,_,m=>((0,0),m)
 | .mk h n p t,d,m=>Qe7 h n p t (fun i m'=>chk (t i) (IntKind.i64.wrap (d + 1)) m') d (IntKind.i64.wrap (m + 1))
theorem chk_mk (h:TyH) (n:Nat) (p:Nat→PtH) (t:Nat→Ty) (d m:Int):chk (.mk h n p t) d m=Qe7 h n p t (fun i m'=>chk (t i) (IntKind.i64.wrap (d + 1)) m') d (IntKind.i64.wrap (m + 1)):=rfl
theorem Qa1 {g:Nat→Int→Wr} {k n:Nat} {m:Int} (hk:k≤n) (h:(goTo g k m).1.1≠0):goTo g n m=goTo g k m:=by
 induction n with
 | zero=>rw [show k=0 by omega]
 | succ n ih =>
  rcases Nat.lt_or_ge n k with h1 | h1
  ·rw [show k=n + 1 by omega]
  ·have e:=ih h1;show (if (goTo g n m).1.1≠0 then goTo g n m else g n (goTo g n m).2)=_
   rw [e,if_pos h]
theorem Qae {g:Nat→Int→Wr} {k:Nat} {m:Int} (h:(goTo g k m).1.1=0):goTo g (k + 1) m=g k (goTo g k m).2:=if_neg (by rw [h]; simp)
theorem Qaz (n:Nat) (p:Nat→PtH):(Qd n p).length=n:=by simp [Qd]
theorem Qjp {n:Nat} {p:Nat→PtH} {i:Nat} (h:i < (Qd n p).length):(Qd n p)[i]=(p i).name.1:=by simp [Qd]
theorem Qha {n k:Nat} {p:Nat→PtH} (h:k≤n):(Qd n p).take k=Qd k p:=by
 unfold Qd;rw [← List.map_take,List.take_range,Nat.min_eq_left h]
theorem Qid {l:List ByteArray} {i:Nat} (h:listE l i=0):Qj (l.getD i ⟨#[]⟩)=true∧twiceP l i=false:=by
 unfold listE at h;split at h
 ·cases h
 ·split at h
  ·cases h
  ·exact ⟨by simpa using ‹¬ Qj _=false›,by simpa using ‹¬ twiceP _ _=true›⟩
theorem Qdj {l:List ByteArray} {i:Nat} (hi:i < l.length):twiceP l i=true↔∃ k,k < i∧∃ h:k < l.length,l[k]=l[i]:=by
 have e:twiceP l i=decide (findL l l[i] < (i:Int)):=by
  unfold twiceP;rw [List.getD_eq_getElem?_getD,List.getElem?_eq_getElem hi];rfl
 rw [e,decide_eq_true_iff];unfold findL;cases hf:l.findIdx? (fun x=>decide (x=l[i])) with
 | none =>
  rw [List.findIdx?_eq_none_iff] at hf;have:=hf l[i] (List.getElem_mem hi)
  simp at this
 | some j =>
  rw [List.findIdx?_eq_some_iff_getElem] at hf;obtain ⟨hj,h1,h2⟩:=hf;show (j:Int) < i↔_
  constructor
  ·intro hlt;exact ⟨j,by omega,hj,by simpa using h1⟩
  ·rintro ⟨k,hk,hkl,e⟩;rcases Nat.lt_or_ge j i with h3 | h3
   ·omega
   ·have:=h2 k (by omega)
    simp [e] at this
theorem twiceP_take {l:List ByteArray} {j k:Nat} (hj:j < k) (hk:k≤l.length):twiceP (l.take k) j=twiceP l j:=by
 have h1:j < (l.take k).length:=by rw [List.length_take]; omega
 have h2:j < l.length:=by omega
 rw [Bool.eq_iff_iff,Qdj h1,Qdj h2];constructor
 ·rintro ⟨a,ha,hl,e⟩;exact ⟨a,ha,by omega,by simpa using e⟩
 ·rintro ⟨a,ha,hl,e⟩;exact ⟨a,ha,by rw [List.length_take]; omega,by simpa using e⟩
theorem Qjq {l:List ByteArray} {k:Nat} (hk:k < l.length) (h:∀ j,j < k→twiceP l j=false):twiceL (l.take (k + 1)) < 0↔twiceP l k=false:=by
 rw [Qjo];constructor
 ·intro hh;rw [← twiceP_take (Nat.lt_succ_self k) hk];exact hh k (by rw [List.length_take]; omega)
 ·intro h1 j hj;rw [List.length_take] at hj;rw [twiceP_take (by omega) hk]
  rcases Nat.lt_or_ge j k with h2 | h2
  ·exact h j h2
  ·rw [show j=k by omega]; exact h1
theorem Qie {f:Nat→Option Flt} {n:Nat} (hf:∀ i x,f i=some x→x.1≠0) (h:((Qf f n).getD (0,0)).1=0):(Qf f n).getD (0,0)=(0,0):=by
 cases e:Qf f n with
 | none=>rfl
 | some x =>
  rw [e] at h;obtain ⟨i,_,hi⟩:=List.exists_of_findSome?_eq_some e;exact absurd h (hf i x hi)
theorem Qog {a:Int} {l:List Wd} (h:(Qao a l).1=0):Qao a l=(0,0):=by
 unfold Qao at h ⊢;split
 ·rw [if_pos (by assumption)] at h; cases h
 ·rw [if_neg (by assumption)] at h
  split
  ·rw [if_pos (by assumption)] at h; cases h
  ·rw [if_neg (by assumption)] at h
   refine Qie (fun i x hx=>?_) h
   unfold Qic at hx;split at hx
   ·cases hx
   ·cases hx; assumption
theorem Qc2 {g:Nat→Int→Wr} {n:Nat} (hg:∀ i m,i < n→(g i m).1.1=0→(g i m).1=(0,0)) {k:Nat} (hk:k≤n) {m:Int} (h:(goTo g k m).1.1=0):(goTo g k m).1=(0,0):=by
 induction k with
 | zero=>rfl
 | succ k ih =>
  by_cases h1:(goTo g k m).1.1=0
  ·rw [Qae h1] at h ⊢;exact hg k _ hk h
  ·rw [Qa1 (Nat.le_succ k) h1] at h; exact absurd h h1
theorem Qhq (t:Ty):∀ {d m:Int},(chk t d m).1.1=0→(chk t d m).1=(0,0):=by
 induction t with
 | nil=>intro d m _; rfl
 | mk h n p t ih =>
  intro d m hh;rw [chk_mk] at hh ⊢;generalize IntKind.i64.wrap (m + 1)=m1 at hh ⊢
  generalize IntKind.i64.wrap (d + 1)=d1 at hh ⊢
  have hsub:∀ i m',((fun i m'=>chk (t i) d1 m') i m').1.1=0→((fun i m'=>chk (t i) d1 m') i m').1=(0,0):=fun i m' e=>ih i e
  generalize (fun i m'=>chk (t i) d1 m')=sub at hh hsub ⊢
  unfold Qe7 at hh ⊢;repeat' split at hh
  all_goals first | (cases hh; done) | skip
  rename_i c1 c2 c3 c4
  rw [if_neg c1,if_neg c2,if_neg c3,if_pos c4];unfold Qcz at hh ⊢;by_cases k2:h.kind=2
  ·rw [if_pos k2] at hh ⊢;split
   ·rw [if_pos (by assumption)] at hh; cases hh
   ·rfl
  rw [if_neg k2] at hh ⊢;by_cases k3:h.kind=3
  ·rw [if_pos k3] at hh ⊢;split
   ·rw [if_pos (by assumption)] at hh; cases hh
   ·rfl
  rw [if_neg k3] at hh ⊢;by_cases k4:h.kind=4
  ·rw [if_pos k4] at hh ⊢;exact Qog hh
  rw [if_neg k4] at hh ⊢;by_cases k5:h.kind=5∨h.kind=6
  ·rw [if_pos k5] at hh ⊢;unfold Qf1 at hh ⊢;split
   ·rw [if_pos (by assumption)] at hh
    split
    ·rw [if_pos (by assumption)] at hh; cases hh
    ·rw [if_neg (by assumption)] at hh; exact hsub 0 _ hh
   ·rw [if_neg (by assumption)] at hh; cases hh
  rw [if_neg k5] at hh ⊢;by_cases k7:h.kind=7∨h.kind=8
  ·rw [if_pos k7] at hh ⊢;unfold Qcf at hh ⊢;split
   ·rw [if_pos (by assumption)] at hh; cases hh
   rw [if_neg (by assumption)] at hh
   split
   ·rw [if_pos (by assumption)] at hh; cases hh
   rw [if_neg (by assumption)] at hh
   refine Qc2 (n:=n) (fun i m' _ e=>?_) nL hh
   unfold stepF at e ⊢;split
   ·rw [if_pos (by assumption)] at e; contradiction
   rw [if_neg (by assumption)] at e
   split
   ·rw [if_pos (by assumption)] at e
    split
    ·rfl
    ·rw [if_neg (by assumption)] at e; cases e
   rw [if_neg (by assumption)] at e
   split
   ·rw [if_pos (by assumption)] at e; contradiction
   ·rw [if_neg (by assumption)] at e; exact hsub i _ e
  rw [if_neg k7] at hh ⊢;by_cases k9:h.kind=9
  ·rw [if_pos k9] at hh ⊢;split
   ·rfl
   ·rw [if_neg (by assumption)] at hh; cases hh
  rw [if_neg k9]
def ownH (h:TyH):TyH:=⟨h.kind,0,if h.kind=2 then h.lo else 0,if h.kind=2 then h.hi else 0,if h.kind=3∨h.kind=5 then h.most else 0,if h.kind=4 then h.names else [],if h.kind=9 then h.name else wd0⟩
def ownN (h:TyH) (n:Nat):Nat:=if 4 < h.kind∧h.kind < 9 then n else 0
theorem Qp5 (l:List Wd):Qx l []=(l.length == 0):=by
 unfold Qx nms;cases l <;> simp
theorem Qoh (l:List Wd):Qx l l=true:=by unfold Qx; simp
theorem ptEq_self (p:PtH):Q3 p p=true:=by unfold Q3; rw [Qg7]; simp
theorem Qr4 (h:TyH) (n:Nat) (p:Nat→PtH) (t:Nat→Ty):Qu (.mk h n p t) (.mk (ownH h) (ownN h n) p t)=Qcd h n:=by
 rw [Qho];have e1:(decide (n=ownN h n) && (List.range n).all fun i=>Q3 (p i) (p i) && Qu (t i) (t i))=((n == 0) || (decide (5≤h.kind) && decide (h.kind≤8))):=by
  have e2:((List.range n).all fun i=>Q3 (p i) (p i) && Qu (t i) (t i))=true:=by
   rw [List.all_eq_true];intro i _;rw [ptEq_self,sameT_self]; rfl
  rw [e2,Bool.and_true];unfold ownN;by_cases c:4 < h.kind∧h.kind < 9
  ·rw [if_pos c];have:(decide (5≤h.kind) && decide (h.kind≤8))=true:=by simp; omega
   simp [this]
  ·rw [if_neg c];have:(decide (5≤h.kind) && decide (h.kind≤8))=false:=by simp; omega
   simp [this]; rfl
 rw [Bool.and_assoc,e1];unfold Qgw Qcd Qb2;have e3:Qx h.names (ownH h).names=((h.names.length == 0) || (h.kind == 4)):=by
  unfold ownH;by_cases c:h.kind=4
  ·simp [c,Qoh]
  ·simp [c,Qp5]
 have e4:decide (h.name.1=(ownH h).name.1)=(decide (h.name.1=⟨#[]⟩) || (h.kind == 9)):=by
  unfold ownH;by_cases c:h.kind=9
  ·simp [c]
  ·simp [c,wd0]
 have e5:(decide (h.lo=(ownH h).lo) && decide (h.hi=(ownH h).hi))=((h.lo == 0) && (h.hi == 0) || (h.kind == 2)):=by
  unfold ownH;by_cases c:h.kind=2
  ·simp [c]
  ·have c':(h.kind == 2)=false:=by simpa using c
   simp only [if_neg c,c',Bool.or_false]; rfl
 have e6:decide (h.most=(ownH h).most)=((h.most == 0) || (h.kind == 3) || (h.kind == 5)):=by
  unfold ownH;by_cases c:h.kind=3
  ·simp [c]
  ·by_cases c':h.kind=5
   ·simp [c']
   ·have d:(h.kind == 3)=false:=by simpa using c
    have d':(h.kind == 5)=false:=by simpa using c'
    simp only [if_neg (show ¬ (h.kind=3∨h.kind=5) by omega),d,d',Bool.or_false]; rfl
 have e7:decide (h.kind=(ownH h).kind)=true:=by simp [ownH]
 rw [e3,e4,e6,e7,Bool.true_and,e5];generalize ((h.lo == 0) && (h.hi == 0) || (h.kind == 2))=a
 generalize ((h.most == 0) || (h.kind == 3) || (h.kind == 5))=b
 generalize ((n == 0) || (decide (5≤h.kind) && decide (h.kind≤8)))=c
 generalize ((h.names.length == 0) || (h.kind == 4))=d
 generalize (decide (h.name.1=⟨#[]⟩) || (h.kind == 9))=e
 cases a <;> cases b <;> cases c <;> cases d <;> cases e <;> rfl
theorem Qr5 (q:PtH):(Q3 q (zPt wd0 false) && Qu zTy zTy)=Q3 q (zPt wd0 false):=by rw [sameT_self,Bool.and_true]
end Go.Proofs.YtanpljalbijfkaaGreat
