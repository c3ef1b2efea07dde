/- . -/
import Derived.Test.YtanpljalbijfkaaGreatQ01
import Derived.Test.YtanpljalbijfkaaGreatQ12
import Derived.Deep.MidRow
import Derived.Deep.WholeRow
namespace Go.Proofs.YtanpljalbijfkaaGreat
open Go.RowKit
set_option maxHeartbeats 16000000
theorem Qur (T:Nat→Nat→Prop) (hf:∀ i e e',T i e→T i e'→e=e'):∀ (N n:Nat),(∀ e,e < n→∃ i,i < N∧T i e)→n≤N:=by
 intro N;induction N generalizing T with
 | zero =>
  intro n h;rcases Nat.eq_zero_or_pos n with h0 | h0
  ·omega
  ·obtain ⟨i,hi,_⟩:=h 0 h0;omega
 | succ N ih =>
  intro n h;cases n with
  | zero=>omega
  | succ k =>
   by_cases hx:∃ e,e < k + 1∧T N e
   ·obtain ⟨e0,he0,h0⟩:=hx;have:=ih (fun i e=>T i (if e < e0 then e else e + 1)) (fun i e e' h1 h2=>by
     have:=hf i _ _ h1 h2
     split at this <;> split at this <;> omega) k (fun e he=>by
     obtain ⟨i,hi,ht⟩:=h (if e < e0 then e else e + 1) (by split <;> omega)
     refine ⟨i,?_,ht⟩;rcases Nat.lt_or_ge i N with h1 | h1
     ·exact h1
     ·obtain rfl:i=N:=by omega
      have:=hf i _ _ ht h0
      split at this <;> omega)
    omega
   ·have:=ih T hf (k + 1) (fun e he=>by
     obtain ⟨i,hi,ht⟩:=h e he;refine ⟨i,?_,ht⟩;rcases Nat.lt_or_ge i N with h1 | h1
     ·exact h1
     ·obtain rfl:i=N:=by omega
      exact absurd ⟨e,he,ht⟩ hx)
    omega
theorem Qjg {α β:Type} {f g:α→Option β} {l:List α} (h:∀ i ∈ l,f i=g i):l.findSome? f=l.findSome? g:=by
 induction l with
 | nil=>rfl
 | cons a r ih =>
  rw [List.findSome?_cons,List.findSome?_cons,h a (by simp),ih fun i hi=>h i (by simp [hi])]
theorem Qki {f g:Nat→Option (Int × Int)} {n:Nat} (h:∀ i,i < n→f i=g i):Qf f n=Qf g n :=
 Qjg fun i hi=>h i (List.mem_range.1 hi)
namespace Sch
theorem endK_zero (s:Sch) (i:Nat):s.endK 0 i=if (s.ty i).kd=9 then none else some i:=rfl
theorem endK_succ (s:Sch) (k i:Nat):s.endK (k + 1) i=if (s.ty i).kd=9 then s.endK k (s.find (s.ty i).nmw.1) else some i:=rfl
theorem endK_mono {s:Sch} : ∀ {k i j:Nat},s.endK k i=some j→s.endK (k + 1) i=some j:=by
 intro k;induction k with
 | zero =>
  intro i j h;rw [endK_zero] at h;rw [endK_succ];split at h
  ·cases h
  ·rw [if_neg (by assumption)]; exact h
 | succ k ih =>
  intro i j h;rw [endK_succ] at h;rw [endK_succ];by_cases c:(s.ty i).kd=9
  ·rw [if_pos c] at h ⊢; exact ih h
  ·rw [if_neg c] at h ⊢; exact h
theorem endK_le {s:Sch} {k k' i j:Nat} (hk:k≤k') (h:s.endK k i=some j):s.endK k' i=some j:=by
 induction k' with
 | zero=>rw [show k=0 by omega] at h; exact h
 | succ k' ih =>
  rcases Nat.lt_or_ge k' k with h1 | h1
  ·rw [show k=k' + 1 by omega] at h; exact h
  ·exact endK_mono (ih h1)
def Closed (s:Sch):Prop:=∀ i,i < s.n→(s.ty i).kd=9→s.find (s.ty i).nmw.1 < s.n
theorem endK_lt {s:Sch} (hc:s.Closed):∀ {k i j:Nat},i < s.n→s.endK k i=some j→j < s.n∧(s.ty j).kd≠9:=by
 intro k;induction k with
 | zero =>
  intro i j hi h;rw [endK_zero] at h;split at h
  ·cases h
  ·cases h; exact ⟨hi,by assumption⟩
 | succ k ih =>
  intro i j hi h;rw [endK_succ] at h;by_cases c:(s.ty i).kd=9
  ·rw [if_pos c] at h; exact ih (hc i hi c) h
  ·rw [if_neg c] at h; cases h; exact ⟨hi,c⟩
def Dist (s:Sch) (i e:Nat):Prop:=s.endK e i≠none∧∀ e',e' < e→s.endK e' i=none
theorem dist_one {s:Sch} {i e e':Nat} (h:s.Dist i e) (h':s.Dist i e'):e=e':=by
 rcases Nat.lt_trichotomy e e' with h1 | h1 | h1
 ·exact absurd (h'.2 e h1) h.1
 ·exact h1
 ·exact absurd (h.2 e' h1) h'.1
theorem dist_next {s:Sch} (hc:s.Closed) {i e:Nat} (hi:i < s.n) (h:s.Dist i (e + 1)):∃ j,j < s.n∧s.Dist j e:=by
 have h0:=h.2 0 (by omega)
 rw [endK_zero] at h0;have c:(s.ty i).kd=9:=by
  by_cases c:(s.ty i).kd=9
  ·exact c
  ·rw [if_neg c] at h0; cases h0
 refine ⟨s.find (s.ty i).nmw.1,hc i hi c,?_,fun e' he=>?_⟩
 ·have:=h.1
  rw [endK_succ,if_pos c] at this;exact this
 ·have:=h.2 (e' + 1) (by omega)
  rw [endK_succ,if_pos c] at this;exact this
theorem dist_all {s:Sch} (hc:s.Closed):∀ (d e i:Nat),i < s.n→s.Dist i (e + d)→∃ j,j < s.n∧s.Dist j e:=by
 intro d;induction d with
 | zero=>intro e i hi h; exact ⟨i,hi,h⟩
 | succ d ih =>
  intro e i hi h;obtain ⟨j,hj,hd⟩:=dist_next hc hi (e:=e + d) h;exact ih e j hj hd
theorem dist_of {s:Sch} : ∀ {k i j:Nat},s.endK k i=some j→∃ e,e≤k∧s.Dist i e:=by
 intro k;induction k with
 | zero=>intro i j h; exact ⟨0,Nat.le_refl _,by rw [h]; simp,fun e' he=>absurd he (Nat.not_lt_zero _)⟩
 | succ k ih =>
  intro i j h;cases hk:s.endK k i with
  | some j' =>
   obtain ⟨e,he,hd⟩:=ih hk;exact ⟨e,by omega,hd⟩
  | none =>
   refine ⟨k + 1,Nat.le_refl _,by rw [h]; simp,fun e' he=>?_⟩
   cases he':s.endK e' i with
   | none=>rfl
   | some j'=>have:=endK_le (show e'≤k by omega) he'; rw [hk] at this; cases this
theorem endK_enough {s:Sch} (hc:s.Closed) {k i:Nat} (hi:i < s.n) (hk:s.n≤k):s.endK k i=s.endK s.n i:=by
 cases h:s.endK k i with
 | none =>
  cases h':s.endK s.n i with
  | none=>rfl
  | some j=>have:=endK_le hk h'; rw [h] at this; cases this
 | some j =>
  obtain ⟨e,_,hd⟩:=dist_of h;have hle:=Qur (fun i e=>s.Dist i e) (fun i e e' h1 h2=>dist_one h1 h2) s.n (e + 1) (fun e' he=>by
   obtain ⟨d,rfl⟩:∃ d,e=e' + d:=⟨e - e',by omega⟩
   exact dist_all hc d e' i hi hd)
  cases h':s.endK e i with
  | none=>exact absurd h' hd.1
  | some j' =>
   have h1:=endK_le (show e≤s.n by omega) h'
   cases hk':s.endK k i with
   | none=>rw [h] at hk'; cases hk'
   | some j2 =>
    rw [h] at hk'; cases hk';rcases Nat.le_total e k with h2 | h2
    ·have:=endK_le h2 h'; rw [h] at this; cases this; exact h1.symm
    ·have:=endK_le h2 h; rw [h'] at this; cases this; exact h1.symm
theorem loops_same {s:Sch} (hc:s.Closed) {k:Nat} (hk:s.n≤k):s.loopsF k=s.loopsF s.n:=by
 unfold loopsF;rw [Qki fun i hi=>?_]
 unfold loopAt;rw [endK_enough hc hi hk]
end Sch
theorem wrap_64 (x:Int):IntKind.i64.wrap x=wrap64 x:=IntWalk.i64_left x
def Qfd (t:Ty) (w:World) (e:Ending) (w':World):Prop:=e = .returned (.tuple #[.int .i64 (Q6 t),.int .i64 (Qba t)])∧Ext w w'
set_option maxRecDepth 100000 in
theorem Qhs (t:Ty):∀ (w:World) (vs:List Value),TyAt w w.heap.size t vs→Qr t→Calls Tryz.prog 48 #[.agg vs.toArray] w (Qfd t w):=by
 induction t with
 | nil=>intro w vs hT; exact hT.elim
 | mk h n p t ih =>
  intro w vs hT hS;obtain ⟨An,cn,Ap,cp,rfl,hN,hP⟩:=hT;obtain ⟨_,_,hn,hSz⟩:=hS;obtain ⟨w1,hw1,g,hg⟩:=V2 (w.alloc (.cells #[.int .i64 h.kind,.int .i64 h.at_,.int .i64 h.lo,.int .i64 h.hi,.int .i64 h.most,.slice An h.names.length cn,.slice Ap n cp,.string h.name.1,.int .i64 h.name.2] 29)) (w.heap.size);have hB:Blk w1 g 29 #[.int .i64 h.kind,.int .i64 h.at_,.int .i64 h.lo,.int .i64 h.hi,.int .i64 h.most,.slice An h.names.length cn,.slice Ap n cp,.string h.name.1,.int .i64 h.name.2]:=by rw [hw1,hg]; exact Blk.new _ _ _
  have HB:=hide hB;have HE1:=hide (show Ext w w1 by rw [hw1]; exact (Ext.rfl' w).alloc nL _)
  obtain ⟨HIH,HP,HSZ⟩:=Z3 ih hP hSz;obtain ⟨C,hC,D,hD⟩:=V2 (Qdi (fun i=>(p i).bare) (fun i=>Q6 (t i))) (Qh9 (fun i=>(p i).bare) (fun i=>Qba (t i)))
  obtain ⟨HC,HD⟩:=Z2 (fun k=>(show C (k + 1)=if (p k).bare=true then C k else IntKind.i64.wrap (C k + Q6 (t k)) by rw [hC]; rfl)) (fun k=>(show D (k + 1)=if (p k).bare=true then D k else if D k < Qba (t k) then Qba (t k) else D k by rw [hD]; rfl))
  have HC0:=hide (show C 0=1 by rw [hC]; rfl)
  have HD0:=hide (show D 0=0 by rw [hD]; rfl)
  have HR:=hide (show Q6 (.mk h n p t)=C n∧Qba (.mk h n p t)=IntKind.i64.wrap (D n + 1) by rw [hC,hD]; exact ⟨rfl,rfl⟩)
  obtain ⟨HW1,HG⟩:=Z2 hw1 hg;show Calls Tryz.prog 48 #[.agg #[.int .i64 h.kind,.int .i64 h.at_,.int .i64 h.lo,.int .i64 h.hi,.int .i64 h.most,.slice An h.names.length cn,.slice Ap n cp,.string h.name.1,.int .i64 h.name.2]] w _
  clear hw1 hg hB ih hP hSz hN hC hD;go_enter Tryz.func48,Tryz.ntmps48
  go_upto_region 1 with fail
  rw [← HW1.out,← HG.out];go_wp2_with fail
  go_loopw [6,5,4] (fun i dv cv wr=>∃ k:Nat,k≤n∧i = .int .i64 (k:Int)∧dv = .int .i64 (D k)∧cv = .int .i64 (C k)∧Ext w1 wr) (fun i _ _ _=>n - (intOf i).toNat)
  case atStart=>exact ⟨0,Nat.zero_le _,rfl,by rw [HD0.out],by rw [HC0.out],Ext.rfl' _⟩
  case round =>
   obtain ⟨k,hk,rfl,rfl,rfl,hE⟩:=hrel;have HE:=hide hE;have b6:=(HB.out.ext hE).cell 6;simp only [gA,gH,gS] at b6;by_cases hkn:k < n
   ·obtain ⟨b,o,rfl,hb,hc⟩:=HP.out (by omega)
    obtain ⟨Al,cl,Ac,cc,vt,q1,q2,q3,q4⟩:=hc k hkn;have hEw:=HE1.out.trans' hE;have hcell:=fun j v hv=>(hEw.cell (p:=⟨b,o + k * 18 + j,none⟩) hb).trans (q1 j v hv)
    have hcall:=HIH.out k wr vt (q4.ext hEw) (HSZ.out k hkn).2.2.2;obtain ⟨h',n',An',cn',Ap',cp',rfl⟩:=q4.form;have hck:=HC.out k;have hdk:=HD.out k;have c1:=hcell 2 _ rfl;have d0:=hcell 9 _ rfl;have d1:=hcell 10 _ rfl;have d2:=hcell 11 _ rfl;have d3:=hcell 12 _ rfl;have d4:=hcell 13 _ rfl;have d5:=hcell 14 _ rfl;have d6:=hcell 15 _ rfl;have d7:=hcell 16 _ rfl;have d8:=hcell 17 _ rfl;obtain ⟨br,hbr,x,hx,y,hy⟩:=V3 ((p k).bare) (Q6 (t k)) (Qba (t k));unfold Qfd at hcall;rw [← hbr] at hck hdk c1;rw [← hx] at hck hcall;rw [← hy] at hdk hcall;have HCALL:=hide (show Calls Tryz.prog 48 #[.agg #[.int .i64 h'.kind,.int .i64 h'.at_,.int .i64 h'.lo,.int .i64 h'.hi,.int .i64 h'.most,.slice An' h'.names.length cn',.slice Ap' n' cp',.string h'.name.1,.int .i64 h'.name.2]] wr (fun e w'=>e = .returned (.tuple #[.int .i64 x,.int .i64 y])∧Ext wr w') from hcall)
    have i0:=nZ k;have i1:(k:Int) < (n:Int):=by omega
    clear hcell hcall hc q1 q2 q3 q4 hE hEw hbr hx hy;cases br with
    | true =>
     rw [if_pos rfl] at hck hdk;obtain ⟨HCK,HDK⟩:=Z2 hck hdk;clear hck hdk;go_wp2_with fail
     go_roundw
     case rel=>exact ⟨k + 1,by omega,by go_num,by rw [HDK.out],by first | (rw [HCK.out]; done) | (rw [HCK.out,wrap_64]),HE.out⟩
     case measure=>simp [intOf]; omega
    | false =>
     rw [if_neg (by decide)] at hck hdk
     by_cases hlt:D k < y
     ·rw [if_pos hlt] at hdk;obtain ⟨HCK,HDK⟩:=Z2 hck hdk;clear hck hdk;go_wp2_with fail
      refine HCALL.out.mono ?_;rintro e w5 ⟨rfl,hE5⟩;have HE5:=hide (HE.out.trans' hE5);clear hE5 c1 d0 d1 d2 d3 d4 d5 d6 d7 d8 b6;go_wp2_with fail
      go_roundw
      case rel=>exact ⟨k + 1,by omega,by go_num,by rw [HDK.out],by first | (rw [HCK.out]; done) | (rw [HCK.out,wrap_64]),HE5.out⟩
      case measure=>simp [intOf]; omega
     ·rw [if_neg hlt] at hdk;obtain ⟨HCK,HDK⟩:=Z2 hck hdk;clear hck hdk;go_wp2_with fail
      refine HCALL.out.mono ?_;rintro e w5 ⟨rfl,hE5⟩;have HE5:=hide (HE.out.trans' hE5);clear hE5 c1 d0 d1 d2 d3 d4 d5 d6 d7 d8 b6;go_wp2_with fail
      go_roundw
      case rel=>exact ⟨k + 1,by omega,by go_num,by rw [HDK.out],by first | (rw [HCK.out]; done) | (rw [HCK.out,wrap_64]),HE5.out⟩
      case measure=>simp [intOf]; omega
   ·obtain rfl:k=n:=by omega
    clear hE;go_wp2_with fail
    go_ret2
    exact ⟨by rw [HR.out.1,HR.out.2,wrap_64]; rfl,HE1.out.trans' HE.out⟩
theorem Qc {P:Program} {ops:Array Oper} {rest:List Oper} {op:Oper} {a:Act} {w:World} {Q:Exit→Act→World→Prop} (hgd:op.guard=none) (ty:TypeId) (x y:Operand) (ho:op.op = .store ty x y)
  (c c':Array Value) (hx:a.eval x = .pointer (some ⟨w.heap.size,0,none⟩)) (hy:a.eval y = .agg c') (hi:(P.info? ty).map (·.size)=some c'.size) (hs:c.size=c'.size) (h1:c'.all (·.oneCell')=true)
  (h:wpList P ops Q rest (a.put op.dst undef) (w.alloc (.cells c' ty))):wpList P ops Q (op :: rest) a (w.alloc (.cells c ty)) :=
 wpList_plain hgd fun K hK=>by
  unfold Oper.wp execOp;simp only [ho,hx,hy,Sem.run_bind,Sem.run_pure,Result.andThen_ok,run_storeAt_new w ty c c' hi hs h1];exact hK _ _ h
theorem Qcv:(Tryz.prog.info? 131).map (·.size)=some 18:=by kernel_rfl
set_option maxRecDepth 100000 in
theorem Qqe (t:Ty):∀ (w:World) (vs:List Value),TyAt w w.heap.size t vs→Qr t→Calls Tryz.prog 71 #[.agg vs.toArray] w (fun e w'=>e = .returned (.int .i64 (Q6 t))∧Ext w w'):=by
 induction t with
 | nil=>intro w vs hT; exact hT.elim
 | mk h n p t ih =>
  intro w vs hT hS;obtain ⟨An,cn,Ap,cp,rfl,hN,hP⟩:=hT;obtain ⟨_,_,hn,hSz⟩:=hS;obtain ⟨w1,hw1,g,hg⟩:=V2 (w.alloc (.cells #[.int .i64 h.kind,.int .i64 h.at_,.int .i64 h.lo,.int .i64 h.hi,.int .i64 h.most,.slice An h.names.length cn,.slice Ap n cp,.string h.name.1,.int .i64 h.name.2] 29)) (w.heap.size);have hB:Blk w1 g 29 #[.int .i64 h.kind,.int .i64 h.at_,.int .i64 h.lo,.int .i64 h.hi,.int .i64 h.most,.slice An h.names.length cn,.slice Ap n cp,.string h.name.1,.int .i64 h.name.2]:=by rw [hw1,hg]; exact Blk.new _ _ _
  obtain ⟨-,-,-,-,-,-,b6⟩:=X7 hB;have HE1:=hide (show Ext w w1 by rw [hw1]; exact (Ext.rfl' w).alloc nL _)
  obtain ⟨HIH,HP,HSZ⟩:=Z3 ih hP hSz;obtain ⟨C,hC⟩:=V1 (Qdi (fun i=>(p i).bare) (fun i=>Q6 (t i)))
  have HC:=hide (fun k=>(show C (k + 1)=if (p k).bare=true then C k else IntKind.i64.wrap (C k + Q6 (t k)) by rw [hC]; rfl))
  have HC0:=hide (show C 0=1 by rw [hC]; rfl)
  have HR:=hide (show Q6 (.mk h n p t)=C n by rw [hC]; rfl)
  obtain ⟨HW1,HG⟩:=Z2 hw1 hg;show Calls Tryz.prog 71 #[.agg #[.int .i64 h.kind,.int .i64 h.at_,.int .i64 h.lo,.int .i64 h.hi,.int .i64 h.most,.slice An h.names.length cn,.slice Ap n cp,.string h.name.1,.int .i64 h.name.2]] w _
  clear hw1 hg hB ih hP hSz hN hC;go_enter Tryz.func71,Tryz.ntmps71
  go_upto_region 1 with fail
  rw [← HW1.out,← HG.out];go_wp2_with fail
  clear b6;go_loopw [9,3] (fun i cv wr=>∃ k:Nat,k≤n∧i = .int .i64 (k:Int)∧cv = .int .i64 (C k)∧Ext w1 wr) (fun i _ _=>n - (intOf i).toNat)
  case atStart=>exact ⟨0,Nat.zero_le _,rfl,by rw [HC0.out],Ext.rfl' _⟩
  case round =>
   obtain ⟨k,hk,rfl,rfl,hE⟩:=hrel;have HE:=hide hE;by_cases hkn:k < n
   ·obtain ⟨b,o,rfl,hb,hc⟩:=HP.out (by omega)
    obtain ⟨Al,cl,Ac,cc,vt,q1,q2,q3,q4⟩:=hc k hkn;have hEw:=HE1.out.trans' hE;have hcell:=fun j (v:Value) hv=>(hEw.cell (p:=⟨b,o + k * 18 + j,none⟩) hb).trans (q1 j v hv)
    have hcall:=fun w2 (hE2:Ext wr w2)=>HIH.out k w2 vt (q4.ext (hEw.trans' hE2)) (HSZ.out k hkn).2.2.2
    obtain ⟨h',n',An',cn',Ap',cp',rfl⟩:=q4.form;have hck:=HC.out k;have HRG:=hide (show wr.rangeAt b (o + k * 18) (ptV (p k) Al cl Ac cc ++ tyV h' An' cn' Ap' n' cp') from hcell)
    unfold ptV tyV at HRG;simp only [List.cons_append,List.nil_append] at HRG;obtain ⟨nm,hnm_⟩:=V1 ((p k).name.1);rw [← hnm_] at HRG;obtain ⟨na,hna_⟩:=V1 ((p k).name.2);rw [← hna_] at HRG;obtain ⟨br,hbr_⟩:=V1 ((p k).bare);rw [← hbr_] at HRG hck;obtain ⟨ll,hll_⟩:=V1 ((p k).label.length);rw [← hll_] at HRG;obtain ⟨wi,hwi_⟩:=V1 ((p k).wide);rw [← hwi_] at HRG;obtain ⟨ck,hck_⟩:=V1 ((p k).ck);rw [← hck_] at HRG;obtain ⟨cn2,hcn2_⟩:=V1 ((p k).cn);rw [← hcn2_] at HRG;obtain ⟨ca,hca_⟩:=V1 ((p k).cat);rw [← hca_] at HRG;obtain ⟨lc,hlc_⟩:=V1 ((p k).cl.length);rw [← hlc_] at HRG;obtain ⟨x,hx⟩:=V1 (Q6 (t k));rw [← hx] at hck hcall;have HCALL:=hide (show ∀ w2,Ext wr w2→Calls Tryz.prog 71 #[.agg #[.int .i64 h'.kind,.int .i64 h'.at_,.int .i64 h'.lo,.int .i64 h'.hi,.int .i64 h'.most,.slice An' h'.names.length cn',.slice Ap' n' cp',.string h'.name.1,.int .i64 h'.name.2]] w2 (fun e w'=>e = .returned (.int .i64 x)∧Ext w2 w') from hcall)
    obtain ⟨w5,hw5,g5,hg5⟩:=V2 (wr.alloc (.cells #[.string nm,.int .i64 na,.bool br,.slice Al ll cl,.int .i64 wi,.int .i64 ck,.int .i64 cn2,.int .i64 ca,.slice Ac lc cc,.int .i64 h'.kind,.int .i64 h'.at_,.int .i64 h'.lo,.int .i64 h'.hi,.int .i64 h'.most,.slice An' h'.names.length cn',.slice Ap' n' cp',.string h'.name.1,.int .i64 h'.name.2] 131)) (wr.heap.size);have hV:Blk w5 g5 131 #[.string nm,.int .i64 na,.bool br,.slice Al ll cl,.int .i64 wi,.int .i64 ck,.int .i64 cn2,.int .i64 ca,.slice Ac lc cc,.int .i64 h'.kind,.int .i64 h'.at_,.int .i64 h'.lo,.int .i64 h'.hi,.int .i64 h'.most,.slice An' h'.names.length cn',.slice Ap' n' cp',.string h'.name.1,.int .i64 h'.name.2]:=by rw [hw5,hg5]; exact Blk.new _ _ _
    have hE5:Ext wr w5:=by rw [hw5]; exact (Ext.rfl' wr).alloc nL _
    obtain ⟨HE5,HCALL5⟩:=Z2 (hE.trans' hE5) (HCALL.out w5 hE5);obtain ⟨-,-,v2,-,-,-,-,-,-,v9,v10,v11,v12,v13,v14,v15,v16,v17⟩:=X18 hV;obtain ⟨HW5,HG5⟩:=Z2 hw5 hg5;have i0:=nZ k;have i1:(k:Int) < (n:Int):=by omega
    clear hcell hcall HCALL hc q1 q2 q3 q4 hE hEw hx hw5 hg5 hV hE5 hnm_ hna_ hbr_ hll_ hwi_ hck_ hcn2_ hca_ hlc_;go_upto_region 4 with fail
    refine wp_region_lit ?_;refine wpList_plain rfl fun K1 hK1=>?_
    go_simp;refine hK1 _ _ ?_;refine wpList_load_mid rfl 131 _ rfl b (o + k * 18) rfl _ _ HRG.out Tryz.underlying131 rfl Qcv ?_;refine wpList_plain rfl fun K2 hK2=>?_
    go_simp;refine hK2 _ _ ?_;refine Qc rfl 131 _ _ rfl _ #[.string nm,.int .i64 na,.bool br,.slice Al ll cl,.int .i64 wi,.int .i64 ck,.int .i64 cn2,.int .i64 ca,.slice Ac lc cc,.int .i64 h'.kind,.int .i64 h'.at_,.int .i64 h'.lo,.int .i64 h'.hi,.int .i64 h'.most,.slice An' h'.names.length cn',.slice Ap' n' cp',.string h'.name.1,.int .i64 h'.name.2] rfl rfl Qcv rfl (by simp [Value.oneCell']) ?_
    go_upto_region 5 with fail
    rw [← HW5.out,← HG5.out];cases br with
    | true =>
     rw [if_pos rfl] at hck;have HCK:=hide hck;clear hck;go_wp2_with fail
     go_roundw
     case rel=>exact ⟨k + 1,by omega,by go_num,by rw [HCK.out],HE5.out⟩
     case measure=>simp [intOf]; omega
    | false =>
     rw [if_neg (by decide)] at hck
     have HCK:=hide hck;clear hck;go_wp2_with fail
     refine HCALL5.out.mono ?_;rintro e w6 ⟨rfl,hE6⟩;have HE6:=hide (HE5.out.trans' hE6);clear hE6 v2 v9 v10 v11 v12 v13 v14 v15 v16 v17;go_wp2_with fail
     go_roundw
     case rel=>exact ⟨k + 1,by omega,by go_num,by rw [HCK.out,wrap_64],HE6.out⟩
     case measure=>simp [intOf]; omega
   ·obtain rfl:k=n:=by omega
    clear hE;go_wp2_with fail
    go_ret
    exact ⟨Qq HR.out.symm,HE1.out.trans' HE.out⟩
end Go.Proofs.YtanpljalbijfkaaGreat
