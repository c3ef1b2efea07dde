/- . -/
import Derived.Test.YtanpljalbijfkaaGreatQ01
import Derived.Sort.Statements
import Derived.Shelf.SlSorted.Search
import Derived.Test.YtanpljalbijfkaaGreatProg
import Derived.Shelf.SlSortFuncK.WholeK
namespace Go.Proofs.YtanpljalbijfkaaGreat
open Go.RowKit Go.Sort
set_option maxHeartbeats 16000000
def bl (x y:ByteArray):Bool:=Op.bytesLess x.toList y.toList
theorem Qdt:∀ x:List UInt8,Op.bytesLess x x=false
 | []=>rfl
 | a :: x=>by simp [Op.bytesLess,Qdt x]
theorem Qed:∀ x y z:List UInt8,Op.bytesLess x y=true→Op.bytesLess y z=true→Op.bytesLess x z=true
 | _,[],_,h,_=>by cases ‹List UInt8› <;> simp [Op.bytesLess] at h
 | _,_ :: _,[],_,h=>by simp [Op.bytesLess] at h
 | [],_ :: _,_ :: _,_,_=>by simp [Op.bytesLess]
 | a :: x,b :: y,c :: z,h1,h2=>by
  simp only [Op.bytesLess,Bool.or_eq_true,decide_eq_true_eq,Bool.and_eq_true,beq_iff_eq] at h1 h2 ⊢;rcases h1 with h1 | ⟨rfl,h1⟩
  ·rcases h2 with h2 | ⟨rfl,_⟩
   ·exact .inl (UInt8.lt_trans h1 h2)
   ·exact .inl h1
  ·rcases h2 with h2 | ⟨rfl,h2⟩
   ·exact .inl h2
   ·exact .inr ⟨rfl,Qed x y z h1 h2⟩
theorem Qee:∀ x y:List UInt8,Op.bytesLess x y=true∨x=y∨Op.bytesLess y x=true
 | [],[]=>.inr (.inl rfl)
 | [],_ :: _=>.inl (by simp [Op.bytesLess])
 | _ :: _,[]=>.inr (.inr (by simp [Op.bytesLess]))
 | a :: x,b :: y=>by
  simp only [Op.bytesLess,Bool.or_eq_true,decide_eq_true_eq,Bool.and_eq_true,beq_iff_eq,List.cons.injEq];rcases Nat.lt_trichotomy a.toNat b.toNat with h | h | h
  ·exact .inl (.inl (UInt8.lt_iff_toNat_lt.2 h))
  ·have h:=UInt8.toNat_inj.1 h;subst h;rcases Qee x y with h | h | h
   ·exact .inl (.inr ⟨rfl,h⟩)
   ·exact .inr (.inl ⟨rfl,h⟩)
   ·exact .inr (.inr (.inr ⟨rfl,h⟩))
  ·exact .inr (.inr (.inl (UInt8.lt_iff_toNat_lt.2 h)))
theorem bl_irrefl (x:ByteArray):bl x x=false:=Qdt _
theorem Qhp {x y z:ByteArray} (h1:bl x y=true) (h2:bl y z=true):bl x z=true:=Qed _ _ _ h1 h2
theorem Qr2 (x y:ByteArray):bl x y=true∨x=y∨bl y x=true:=by
 rcases Qee x.toList y.toList with h | h | h
 ·exact .inl h
 ·right; left
  have:=Q8 x y
  rw [h] at this;simpa using this.symm
 ·exact .inr (.inr h)
theorem Qu8 {x y:ByteArray} (h:bl x y=true):x≠y:=by
 rintro rfl; rw [bl_irrefl] at h; cases h
def ltN (l:List ByteArray) (a b:Fin l.length):Bool:=if l[a]=l[b] then decide (a.val < b.val) else bl l[a] l[b]
theorem Qfz {l:List ByteArray} {x y z:Fin l.length} (h1:ltN l x y=true) (h2:ltN l y z=true):ltN l x z=true:=by
 unfold ltN at *;by_cases e1:l[x]=l[y] <;> by_cases e2:l[y]=l[z]
 ·rw [if_pos e1] at h1; rw [if_pos e2] at h2; rw [if_pos (e1.trans e2)]; simp at *; omega
 ·rw [if_neg e2] at h2; rw [if_neg (by rw [e1]; exact e2),e1]; exact h2
 ·rw [if_neg e1] at h1; rw [if_neg (by rw [← e2]; exact e1),← e2]; exact h1
 ·rw [if_neg e1] at h1; rw [if_neg e2] at h2;have h3:=Qhp h1 h2;rw [if_neg (Qu8 h3)]; exact h3
theorem Qe6 (l:List ByteArray) (x:Fin l.length):ltN l x x=false:=by simp [ltN]
theorem Qef {l:List ByteArray} {a b:Fin l.length} (h:ltN l a b=false):ltN l b a=true∨a=b:=by
 unfold ltN at *;by_cases e:l[a]=l[b]
 ·rw [if_pos e] at h; rw [if_pos e.symm];simp at h ⊢
  rcases Nat.lt_or_eq_of_le h with h | h
  ·exact .inl h
  ·exact .inr (Fin.ext h.symm)
 ·rw [if_neg e] at h; rw [if_neg (Ne.symm e)];rcases Qr2 l[a] l[b] with h3 | h3 | h3
  ·rw [h] at h3; cases h3
  ·exact absurd h3 e
  ·exact .inl h3
theorem Qtw (l:List ByteArray):SWO (ltN l) where
 irrefl:=Qe6 l
 trans:=fun x y z h1 h2=>Qfz h1 h2
 ntrans:=fun x y z h1 h2=>by
  have h3:ltN l z x=true∨x=z:=by
   rcases Qef h1 with h1 | rfl
   ·rcases Qef h2 with h2 | rfl
    ·exact .inl (Qfz h2 h1)
    ·exact .inl h1
   ·exact Qef h2
  cases h4:ltN l x z with
  | false=>rfl
  | true =>
   rcases h3 with h3 | rfl
   ·have:=Qfz h3 h4; rw [Qe6] at this; cases this
   ·rw [Qe6] at h4; cases h4
def sAt (l:List ByteArray) (p:Nat):ByteArray:=l.getD p ⟨#[]⟩
theorem sAt_eq {l:List ByteArray} {p:Nat} (h:p < l.length):sAt l p=l[p]:=by
 unfold sAt;rw [List.getD_eq_getElem?_getD,List.getElem?_eq_getElem h]; rfl
structure SortedAt (l:List ByteArray) (ps:List Nat):Prop where
 len:ps.length=l.length
 lt:∀ p ∈ ps,p < l.length
 all:∀ p,p < l.length→p ∈ ps
 le:∀ i j (hi:i < j) (hj:j < ps.length),bl (sAt l ps[i]) (sAt l ps[j])=true∨(sAt l ps[i]=sAt l ps[j]∧ps[i]≤ps[j])
structure FirstsTo (l:List ByteArray) (ps:List Nat) (k:Nat) (O:List Nat):Prop where
 first:∀ p ∈ O,p < l.length∧∀ q,q < l.length→sAt l q=sAt l p→p≤q
 up:O.Pairwise fun p q=>bl (sAt l p) (sAt l q)=true
 has:∀ i (_:i < k) (hi:i < ps.length),∃ p ∈ O,sAt l p=sAt l ps[i]
 of:∀ p ∈ O,∃ i,∃ hi:i < ps.length,i < k∧ps[i]=p
 short:O.length≤k
theorem firsts_nil (l:List ByteArray) (ps:List Nat):FirstsTo l ps 0 []:=⟨by simp,List.Pairwise.nil,fun i h=>absurd h (by omega),by simp,Nat.le_refl _⟩
theorem Qmn {l:List ByteArray} {ps:List Nat} {k:Nat} {O:List Nat} (h:FirstsTo l ps k O) (hk:k < ps.length) (h0:0 < k) (he:sAt l ps[k]=sAt l ps[k - 1]):FirstsTo l ps (k + 1) O:=by
 refine ⟨h.first,h.up,fun i hi hi'=>?_,fun p hp=>?_,Nat.le_succ_of_le h.short⟩
 ·by_cases e:i=k
  ·subst e;obtain ⟨p,hp,e⟩:=h.has (i - 1) (by omega) (by omega)
   exact ⟨p,hp,by rw [e,he]⟩
  ·exact h.has i (by omega) hi'
 ·obtain ⟨i,hi,hik,e⟩:=h.of p hp;exact ⟨i,hi,by omega,e⟩
theorem Qoe {l:List ByteArray} {ps:List Nat} {k:Nat} {O:List Nat} (hs:SortedAt l ps) (h:FirstsTo l ps k O) (hk:k < ps.length) (hn:∀ _:0 < k,sAt l ps[k]≠sAt l ps[k - 1]):FirstsTo l ps (k + 1) (O ++ [ps[k]]):=by
 have below:∀ i (hi:i < k),bl (sAt l (ps[i]'(by omega))) (sAt l ps[k])=true:=by
  intro i hi;rcases hs.le i k hi hk with h1 | ⟨h1,_⟩
  ·exact h1
  ·exfalso
   by_cases e:i=k - 1
   ·subst e; exact hn (by omega) h1.symm
   ·rcases hs.le i (k - 1) (by omega) (by omega) with h2 | ⟨h2,_⟩
    ·rcases hs.le (k - 1) k (by omega) hk with h3 | ⟨h3,_⟩
     ·have:=Qhp h2 h3; rw [h1,bl_irrefl] at this; cases this
     ·rw [h1,← h3] at h2; rw [h3] at h2;exact hn (by omega) h3.symm
    ·exact hn (by omega) (by rw [← h1,h2])
 refine ⟨fun p hp=>?_,?_,fun i hi hi'=>?_,fun p hp=>?_,by have:=h.short; simp; omega⟩
 ·rcases List.mem_append.1 hp with hp | hp
  ·exact h.first p hp
  ·obtain rfl:p=ps[k]:=by simpa using hp
   refine ⟨hs.lt _ (List.getElem_mem hk),fun q hq he=>?_⟩
   obtain ⟨j,hj,rfl⟩:=List.getElem_of_mem (hs.all q hq);rcases Nat.lt_trichotomy j k with hjk | rfl | hjk
   ·have:=below j hjk; rw [he,bl_irrefl] at this; cases this
   ·exact Nat.le_refl _
   ·rcases hs.le k j hjk hj with h1 | ⟨_,h1⟩
    ·rw [he,bl_irrefl] at h1; cases h1
    ·exact h1
 ·rw [List.pairwise_append];refine ⟨h.up,by simp,fun p hp q hq=>?_⟩
  obtain rfl:q=ps[k]:=by simpa using hq
  obtain ⟨i,hi,hik,rfl⟩:=h.of p hp;exact below i hik
 ·by_cases e:i=k
  ·subst e; exact ⟨ps[i],by simp,rfl⟩
  ·obtain ⟨p,hp,e⟩:=h.has i (by omega) hi'
   exact ⟨p,by simp [hp],e⟩
 ·rcases List.mem_append.1 hp with hp | hp
  ·obtain ⟨i,hi,hik,e⟩:=h.of p hp;exact ⟨i,hi,by omega,e⟩
  ·obtain rfl:p=ps[k]:=by simpa using hp
   exact ⟨k,hk,by omega,rfl⟩
structure TableOK (l:List ByteArray) (O:List Nat):Prop where
 first:∀ p ∈ O,p < l.length∧∀ q,q < l.length→sAt l q=sAt l p→p≤q
 up:O.Pairwise fun p q=>bl (sAt l p) (sAt l q)=true
 has:∀ q,q < l.length→∃ p ∈ O,sAt l p=sAt l q
 short:O.length≤l.length
theorem Qof {l:List ByteArray} {ps O:List Nat} (hs:SortedAt l ps) (h:FirstsTo l ps ps.length O):TableOK l O :=
 ⟨h.first,h.up,fun q hq=>by
  obtain ⟨i,hi,rfl⟩:=List.getElem_of_mem (hs.all q hq);exact h.has i hi hi,by rw [← hs.len]; exact h.short⟩
end Go.Proofs.YtanpljalbijfkaaGreat
namespace Go.Proofs.YtanpljalbijfkaaGreat
open Go.Shelf
set_option maxHeartbeats 16000000
def Tryz.sl16_ren:Go.Shelf.Ren:=⟨fun | 16=>108 | n=>n,fun | 3=>3 | 35=>114 | 4=>4 | 38=>187 | n=>n,fun | n=>n⟩
theorem Tryz.sl16:Go.Proofs.SlLaysO.n16 Tryz.prog Tryz.sl16_ren:={
 mixed:=by kernel_rfl
 f16:=Tryz.func108.trans (congrArg some (by kernel_rfl))
 t3:=Tryz.underlying3
 a3:=Tryz.isAgg3
 z3:=Tryz.sizeOf3
 v3:=Tryz.zeroValue3
 t4:=Tryz.underlying4
 a4:=Tryz.isAgg4
 z4:=Tryz.sizeOf4
 v4:=Tryz.zeroValue4
 t35:=Tryz.underlying114
 a35:=Tryz.isAgg114
 z35:=Tryz.sizeOf114
 v35:=Tryz.zeroValue114
 t38:=Tryz.underlying187
 a38:=Tryz.isAgg187
 z38:=Tryz.sizeOf187
 v38:=Tryz.zeroValue187 }
end Go.Proofs.YtanpljalbijfkaaGreat
namespace Go.Proofs.YtanpljalbijfkaaGreat
open Go.RowKit Go.Shelf Go.Lib Go.Sort
set_option maxHeartbeats 16000000
def natCells (l:List Nat):List Value:=l.map fun (p:Nat)=>Value.int .i64 (p:Int)
def NatAt (w:World) (B:Nat) (A:Option Addr) (l:List Nat):Prop:=Reads w B 1 A l.length (natCells l)
theorem NatAt.cell {w:World} {B:Nat} {A:Option Addr} {l:List Nat} (h:NatAt w B A l) (hn:0 < l.length) :
  ∃ b o,A=some ⟨b,o,none⟩∧b < B∧∀ k (hk:k < l.length),w.cell? ⟨b,o + k,none⟩=some (.int .i64 (l[k]:Nat)):=by
 obtain ⟨b,o,e,hb,hc⟩:=h.form hn (Nat.lt_succ_self 0);exact ⟨b,o,e,hb,fun k hk=>hc _ _ (by simp [natCells,hk])⟩
theorem NatAt.ext {w w':World} {A:Option Addr} {l:List Nat} (h:NatAt w w.heap.size A l) (hE:Ext w w'):NatAt w' w'.heap.size A l :=
 (Reads.keep h fun _p hp=>hE.cell hp).more hE.size
theorem Blk.new_at' (w:World) (t:TypeId) (cs:Array Value) {g:Nat} (h:g=w.heap.size):Blk (w.alloc (.cells cs t)) g t cs:=by subst h; exact Blk.new w t cs
def TabAt (w:World) (g:Nat) (l:List ByteArray):Prop :=
 ∃ Al cl Ao co O,Blk w g 170 #[.slice Al l.length cl,.slice Ao (List.length O) co]∧StrAt w w.heap.size Al l∧NatAt w w.heap.size Ao O∧TableOK l O∧l.length≤9223372036854775807
theorem TabAt.ext {w w':World} {g:Nat} {l:List ByteArray} (h:TabAt w g l) (hE:Ext w w'):TabAt w' g l:=by
 obtain ⟨Al,cl,Ao,co,O,hB,hs,hn,ho,hl⟩:=h;exact ⟨Al,cl,Ao,co,O,hB.ext hE,hs.ext hE,hn.ext hE,ho,hl⟩
def TabB (w:World) (D:Nat→Prop) (g:Nat) (l:List ByteArray):Prop :=
 ∃ Al cl Ao co O,Blk w g 170 #[.slice Al l.length cl,.slice Ao (List.length O) co]∧StrAt w w.heap.size Al l∧NatAt w w.heap.size Ao O∧TableOK l O∧l.length≤9223372036854775807∧D g∧(∀ a,Al=some a→D a.block)∧∀ a,Ao=some a→D a.block
theorem TabB.tab {w:World} {D:Nat→Prop} {g:Nat} {l:List ByteArray} (h:TabB w D g l):TabAt w g l:=by
 obtain ⟨Al,cl,Ao,co,O,h1,h2,h3,h4,h5,_⟩:=h;exact ⟨Al,cl,Ao,co,O,h1,h2,h3,h4,h5⟩
theorem Qmo {n:Nat} {q:Nat→Bool} (h:∀ a b,a≤b→b < n→q b=true→q a=true):(List.range n).countP q≤n∧∀ j,j < n→q j=decide (j < (List.range n).countP q):=by
 induction n with
 | zero=>simp
 | succ n ih =>
  obtain ⟨h1,h2⟩:=ih fun a b hab hb=>h a b hab (by omega)
  rw [List.range_succ,List.countP_append];cases hq:q n with
  | true =>
   have hall:(List.range n).countP q=n:=by
    have:=List.countP_eq_length (p:=q) (l:=List.range n)
    rw [List.length_range] at this;exact this.2 fun a ha=>h a n (by have:=List.mem_range.1 ha; omega) (by omega) hq
   have hs:List.countP q [n]=1:=by simp [hq]
   rw [hall,hs];refine ⟨Nat.le_refl _,fun j hj=>?_⟩
   rw [h j n (by omega) (by omega) hq]
   simp [hj]
  | false =>
   have hs:List.countP q [n]=0:=by simp [hq]
   rw [hs,Nat.add_zero];refine ⟨by omega,fun j hj=>?_⟩
   by_cases e:j=n
   ·subst e; rw [hq]; simp; omega
   ·exact h2 j (by omega)
def ahd (l:List ByteArray) (O:List Nat) (s:ByteArray) (i:Nat):Bool:=bl (sAt l (O.getD i 0)) s
def Qc9 (l:List ByteArray) (O:List Nat) (s:ByteArray):Nat:=(List.range O.length).countP (ahd l O s)
theorem O_at {O:List Nat} {i:Nat} (h:i < O.length):O.getD i 0=O[i]:=by rw [List.getD_eq_getElem?_getD,List.getElem?_eq_getElem h]; rfl
theorem Qkv {l:List ByteArray} {O:List Nat} {s:ByteArray} (h:TableOK l O):∀ a b,a≤b→b < O.length→ahd l O s b=true→ahd l O s a=true:=by
 intro a b hab hb hq;unfold ahd at *;rw [O_at hb] at hq;rw [O_at (show a < O.length by omega)]
 rcases Nat.lt_or_eq_of_le hab with h1 | rfl
 ·exact Qhp (List.pairwise_iff_getElem.1 h.up a b (by omega) hb h1) hq
 ·exact hq
theorem Qmp {l:List ByteArray} {O:List Nat} {s:ByteArray} (h:TableOK l O) :
  Qc9 l O s≤O.length∧(Qc9 l O s=O.length→findL l s = -1)∧(∀ hc:Qc9 l O s < O.length,(sAt l O[Qc9 l O s]≠s→findL l s = -1)∧(sAt l O[Qc9 l O s]=s→findL l s=(O[Qc9 l O s]:Nat))):=by
 obtain ⟨h1,h2⟩:=Qmo (Qkv (s:=s) h);change Qc9 l O s≤_ at h1
 change ∀ j,j < O.length→_=decide (j < Qc9 l O s) at h2
 have at_:∀ j (hj:j < O.length),bl (sAt l O[j]) s=decide (j < Qc9 l O s):=fun j hj=>by
  have:=h2 j hj
  unfold ahd at this;rwa [O_at hj] at this
 have miss:(∀ j (hj:j < O.length),sAt l O[j]≠s)→findL l s = -1:=by
  intro hno;unfold findL;rw [findIdx_miss];intro q hq he;obtain ⟨p,hp,e⟩:=h.has q hq;obtain ⟨j,hj,rfl⟩:=List.getElem_of_mem hp;exact hno j hj (by rw [e,sAt_eq hq,he])
 refine ⟨h1,fun hc=>miss fun j hj he=>?_,fun hc=>⟨fun hne=>miss fun j hj he=>?_,fun he=>?_⟩⟩
 ·have:=at_ j hj
  rw [he,bl_irrefl] at this;have:=this.symm
  simp at this
  omega
 ·have h3:=at_ j hj;rw [he,bl_irrefl] at h3;have h3:=h3.symm;simp at h3
  have h4:=at_ _ hc;simp at h4
  rcases Nat.lt_or_eq_of_le h3 with h5 | h5
  ·have:=List.pairwise_iff_getElem.1 h.up _ j hc hj h5
   rw [he,h4] at this;cases this
  ·subst h5; exact hne he
 ·unfold findL;have hp:=h.first _ (List.getElem_mem hc)
  rw [Qeo hp.1 (fun j hj hjk hx=>?_) (by rw [← sAt_eq hp.1]; exact he)]
  have:=hp.2 j hj (by rw [sAt_eq hj,hx,he])
  omega
set_option maxRecDepth 100000 in
theorem Qkw (go oo gl ol co cl Bt Bn gt n m:Nat) (W:World) (i p:Nat) (x s:ByteArray)
  (ht:W.cell? ⟨Bt,0,none⟩=some (.pointer (some ⟨gt,0,none⟩))) (hn:W.cell? ⟨Bn,0,none⟩=some (.string s)) (htl:W.cell? ⟨gt,0,none⟩=some (.slice (some ⟨gl,ol,none⟩) n cl)) (hto:W.cell? ⟨gt,1,none⟩=some (.slice (some ⟨go,oo,none⟩) m co))
  (hp:W.cell? ⟨go,oo + i,none⟩=some (.int .i64 (p:Int))) (hx:W.cell? ⟨gl,ol + p,none⟩=some (.string x)) (hi:i < m) (hpn:p < n) :
  Calls Tryz.prog 109 #[.int .i64 i,.pointer (some ⟨Bt,0,none⟩),.pointer (some ⟨Bn,0,none⟩)] W fun e w'=>e = .returned (.bool (!bl x s))∧∃ q,w'=W.drewN q:=by
 obtain ⟨z,hz⟩:=V1 (bl x s);rw [← hz];have hz':Op.bytesLess x.toList s.toList=z:=hz.symm;clear hz;go_enter Tryz.func109,Tryz.ntmps109
 go_wp2_with fail
 go_quiet (fail)
 go_wp2_with fail
 go_ret
 exact ⟨rfl,nq,rfl⟩
def findR (l:List ByteArray) (s:ByteArray):Value:=.tuple #[.int .i64 (if findL l s < 0 then 0 else findL l s),.bool (decide (0≤findL l s))]
theorem search_ext {W0 W:World} {q:Nat} {os:Array Obj} (hW:Ext W W0):Ext W (grow (W0.drewN q) os) :=
 hW.trans' ⟨rfl,rfl,rfl,by simp [grow],fun k hk=>by simp only [grow]; rw [Array.getElem?_append_left (xs:=(W0.drewN q).heap) hk]; rfl⟩
set_option maxRecDepth 100000 in
theorem Qbh (g:Nat) (l:List ByteArray) (s:ByteArray) (w:World) (h:TabAt w g l) (hbig:l.length < 4611686018427387904) :
  Calls Tryz.prog 72 #[.pointer (some ⟨g,0,none⟩),.string s] w (fun e w'=>e = .returned (findR l s)∧Ext w w'):=by
 obtain ⟨Al,cl,Ao,co,O,hB,hs,hno,hok,hln⟩:=h;obtain ⟨hc1,hc2,hc3⟩:=Qmp (s:=s) hok;have hOl:=hok.short;obtain ⟨W0,hW0⟩:=V1 ((w.alloc (.cells #[.pointer (some ⟨g,0,none⟩)] 81)).alloc (.cells #[.string s] 9));have hE0:Ext w W0:=by rw [hW0]; exact ((Ext.rfl' w).alloc nL _).alloc (by simp) _
 have hBt:Blk W0 w.heap.size 81 #[.pointer (some ⟨g,0,none⟩)]:=by rw [hW0]; exact (Blk.new _ _ _).alloc _
 have hBn:Blk W0 (w.heap.size + 1) 9 #[.string s]:=by rw [hW0]; exact Blk.new_at' _ _ _ (by simp)
 have hBg:=hB.ext hE0;have hs0:=hs.ext hE0;have hn0:=hno.ext hE0;have hBt1:=hBt.lt;have hBn1:=hBn.lt;have hBg1:=hBg.lt;have hS:=Any.sort_Search (P:=Tryz.prog) Tryz.sl16 109 #[.pointer (some ⟨w.heap.size,0,none⟩),.pointer (some ⟨w.heap.size + 1,0,none⟩)] O.length (fun i=>!ahd l O s i) W0
  (enters_of Tryz.func109 (by kernel_rfl) rfl) (by omega)
  (fun m os i hi=>by
   have hE:Ext W0 (grow (W0.drewN m) os):=search_ext (Ext.rfl' W0);have hp:O[i] < l.length:=(hok.first _ (List.getElem_mem hi)).1
   obtain ⟨bo,oo,rfl,_,hco⟩:=(hn0.ext hE).cell (by omega)
   obtain ⟨bs,os',rfl,_,hcs⟩:=(hs0.ext hE).cell (by omega)
   refine (Qkw bo oo bs os' co cl w.heap.size (w.heap.size + 1) g l.length O.length _ i O[i] (sAt l O[i]) s ((hBt.ext hE).cell 0) ((hBn.ext hE).cell 0) ((hBg.ext hE).cell 0) ((hBg.ext hE).cell 1) (hco i hi) ((hcs O[i] hp).trans (by rw [sAt_eq hp])) hi hp).mono fun _ _ ⟨he,q,hq⟩=>⟨?_,q,#[],by rw [hq,grow_empty]⟩
   rw [he];unfold ahd;rw [O_at hi])
  (fun a b hab hb hq=>by
   have hq':ahd l O s a=false:=by simpa using hq
   cases hx:ahd l O s b with
   | true=>rw [Qkv hok a b hab hb hx] at hq'; cases hq'
   | false=>rfl)
 have ecn:(fun i=>!(!ahd l O s i))=ahd l O s:=funext fun i=>by simp
 have hS':Calls Tryz.prog 108 #[.int .i64 (O.length:Nat),.func (.func 109) #[] #[.pointer (some ⟨w.heap.size,0,none⟩),.pointer (some ⟨w.heap.size + 1,0,none⟩)]] W0 (fun e w'=>e = .returned (.int .i64 (Qc9 l O s:Nat))∧∃ q os,w'=grow (W0.drewN q) os):=by
  unfold Qc9;rw [← ecn];exact hS
 clear hS ecn;have key:∃ cn:Nat,Calls Tryz.prog 108 #[.int .i64 (O.length:Nat),.func (.func 109) #[] #[.pointer (some ⟨w.heap.size,0,none⟩),.pointer (some ⟨w.heap.size + 1,0,none⟩)]] W0 (fun e w'=>e = .returned (.int .i64 (cn:Nat))∧∃ q os,w'=grow (W0.drewN q) os) ∧
   cn≤O.length∧(cn=O.length→findL l s = -1)∧∀ hc:cn < O.length,(sAt l O[cn]≠s→findL l s = -1)∧(sAt l O[cn]=s→findL l s=(O[cn]:Nat)):=⟨Qc9 l O s,hS',hc1,hc2,hc3⟩
 clear hS' hc1 hc2 hc3;obtain ⟨cn,hS',hc1,hc2,hc3⟩:=key;obtain ⟨HS,HC2,HC3,HE0,HBt,HBn,HBg,HS0⟩:=Z8 hS' hc2 hc3 hE0 hBt hBn hBg hs0;obtain ⟨HN0,HOK⟩:=Z2 hn0 hok;have b0:=hBt.cell 0;have b1:=hBn.cell 0;have b2:=hBg.cell 0;have b3:=hBg.cell 1;have a0:=hB.cell 0;have a1:=hB.cell 1;have lg:=hB.lt;simp only [gA,gH,gS] at b0 b1 b2 b3 a0 a1;obtain ⟨m,hm,n,hn⟩:=V2 (O.length) (l.length);obtain ⟨HM,HNN⟩:=Z2 hm hn;rw [← hm] at HS hc1 b3 a1 hOl;rw [← hn] at b2 a0 hln hbig hOl;clear hS' hc2 hc3 hE0 hBt hBn hBg hs0 hn0 hok hB hs hno hm hn;go_enter Tryz.func72,Tryz.ntmps72
 go_wp2_with fail
 rw [← hW0];refine HS.out.mono ?_;rintro e w1 ⟨rfl,q,os,rfl⟩;have hE1:Ext W0 (grow (W0.drewN q) os):=search_ext (Ext.rfl' W0);obtain ⟨W1,hW1⟩:=V1 (grow (W0.drewN q) os);rw [← hW1] at hE1 ⊢;have c0:=(HBt.out.ext hE1).cell 0;have c1:=(HBn.out.ext hE1).cell 0;have c2:=(HBg.out.ext hE1).cell 0;have c3:=(HBg.out.ext hE1).cell 1;simp only [gA,gH,gS] at c0 c1 c2 c3;rw [← HM.out] at c3;rw [← HNN.out] at c2;obtain ⟨HE1,HS1,HN1⟩:=Z3 (Ext.trans' HE0.out hE1) (HS0.out.ext hE1) (HN0.out.ext hE1);clear hE1 hW1 hW0 b0 b1 b2 b3 HS HBt HBn HBg HS0 HN0;by_cases hc:cn < m
 ·have hcO:cn < O.length:=by rw [← HM.out]; exact hc
  have hp:O[cn] < l.length:=(HOK.out.first _ (List.getElem_mem hcO)).1
  obtain ⟨bo,oo,rfl,_,hco⟩:=HN1.out.cell (by omega)
  obtain ⟨bs,os',rfl,_,hcs⟩:=HS1.out.cell (by omega)
  have d1:=hco cn hcO;have d2:=(hcs O[cn] hp).trans (by rw [sAt_eq hp]:_=some (Value.string (sAt l O[cn])))
  obtain ⟨h3,h4⟩:=HC3.out hcO;rw [← HNN.out] at hp;generalize O[cn]=p at d1 d2 h3 h4 hp
  generalize sAt l p=x at d2 h3 h4
  have hxs:=Q8 x s;have hbc:((cn:Int) == (m:Int))=false:=by simp; omega
  obtain ⟨H3,H4⟩:=Z2 h3 h4;clear h3 h4 hco hcs;by_cases e:x=s
  ·have h5:=H4.out e;have HR:Hid (findR l s = .tuple #[.int .i64 (p:Int),.bool true]):=by
    show findR l s=_
    unfold findR;rw [h5,if_neg (by omega)]
    simp
   subst e;clear h5 hxs;go_wp2_with fail
   go_quiet (fail)
   go_wp2_with fail
   go_ret2
   exact ⟨by rw [HR.out]; rfl,below_drewN HE1.out _⟩
  ·have h5:=H3.out e;have HR:Hid (findR l s = .tuple #[.int .i64 0,.bool false]):=by
    show findR l s=_
    unfold findR;rw [h5];rfl
   have hx':(x.toList == s.toList)=false:=by rw [hxs]; simpa using e
   clear h5 hxs e;go_wp2_with fail
   go_quiet (fail)
   go_wp2_with fail
   go_ret2
   exact ⟨by rw [HR.out]; rfl,below_drewN HE1.out _⟩
 ·obtain rfl:cn=m:=by omega
  have h5:=HC2.out HM.out;have HR:Hid (findR l s = .tuple #[.int .i64 0,.bool false]):=by
   show findR l s=_
   unfold findR;rw [h5];rfl
  clear h5;go_wp2_with fail
  go_quiet (fail)
  go_wp2_with fail
  go_ret2
  exact ⟨by rw [HR.out]; rfl,below_drewN HE1.out _⟩
end Go.Proofs.YtanpljalbijfkaaGreat
namespace Go.Proofs.YtanpljalbijfkaaGreat
open Go.Shelf
set_option maxHeartbeats 16000000
def Tryz.sl6_ren:Go.Shelf.Ren:=⟨fun | 6=>97 | 10=>121 | 11=>122 | 12=>123 | 13=>114 | 14=>124 | 24=>142 | 25=>143 | 26=>153 | 27=>154 | 28=>155 | 29=>156 | 30=>157 | 31=>158 | 32=>159 | 33=>160 | 34=>170 | 35=>171 | 36=>172 | 37=>173 | 38=>174 | 39=>179 | n=>n,fun | 20=>20 | 26=>62 | 35=>196 | 0=>0 | 37=>198 | 3=>3 | 41=>187 | 44=>202 | 49=>214 | 51=>157 | 4=>4 | 54=>220 | 53=>219 | 58=>142 | 5=>5 | 9=>9 | 60=>234 | 64=>232 | 66=>239 | 67=>50 | 17=>17 | 32=>193 | 33=>194 | 82=>256 | 12=>12 | 75=>249 | 76=>250 | 77=>251 | 78=>252 | 79=>253 | 80=>254 | n=>n,fun | n=>n⟩
theorem Tryz.sl6:Go.Proofs.LaysGg.n6 Tryz.prog Tryz.sl6_ren:={
 mixed:=by kernel_rfl
 f6:=Tryz.func97.trans (congrArg some (by kernel_rfl))
 f10:=Tryz.func121.trans (congrArg some (by kernel_rfl))
 f11:=Tryz.func122.trans (congrArg some (by kernel_rfl))
 f12:=Tryz.func123.trans (congrArg some (by kernel_rfl))
 f13:=Tryz.func114.trans (congrArg some (by kernel_rfl))
 f14:=Tryz.func124.trans (congrArg some (by kernel_rfl))
 f24:=Tryz.func142.trans (congrArg some (by kernel_rfl))
 f25:=Tryz.func143.trans (congrArg some (by kernel_rfl))
 f26:=Tryz.func153.trans (congrArg some (by kernel_rfl))
 f27:=Tryz.func154.trans (congrArg some (by kernel_rfl))
 f28:=Tryz.func155.trans (congrArg some (by kernel_rfl))
 f29:=Tryz.func156.trans (congrArg some (by kernel_rfl))
 f30:=Tryz.func157.trans (congrArg some (by kernel_rfl))
 f31:=Tryz.func158.trans (congrArg some (by kernel_rfl))
 f32:=Tryz.func159.trans (congrArg some (by kernel_rfl))
 f33:=Tryz.func160.trans (congrArg some (by kernel_rfl))
 f34:=Tryz.func170.trans (congrArg some (by kernel_rfl))
 f35:=Tryz.func171.trans (congrArg some (by kernel_rfl))
 f36:=Tryz.func172.trans (congrArg some (by kernel_rfl))
 f37:=Tryz.func173.trans (congrArg some (by kernel_rfl))
 f38:=Tryz.func174.trans (congrArg some (by kernel_rfl))
 f39:=Tryz.func179.trans (congrArg some (by kernel_rfl))
 t0:=Tryz.underlying0
 a0:=Tryz.isAgg0
 z0:=Tryz.sizeOf0
 v0:=Tryz.zeroValue0
 i0:=by kernel_rfl
 t3:=Tryz.underlying3
 a3:=Tryz.isAgg3
 z3:=Tryz.sizeOf3
 v3:=Tryz.zeroValue3
 i3:=by kernel_rfl
 t4:=Tryz.underlying4
 a4:=Tryz.isAgg4
 z4:=Tryz.sizeOf4
 v4:=Tryz.zeroValue4
 i4:=by kernel_rfl
 t5:=Tryz.underlying5
 a5:=Tryz.isAgg5
 z5:=Tryz.sizeOf5
 v5:=Tryz.zeroValue5
 i5:=by kernel_rfl
 t9:=Tryz.underlying9
 a9:=Tryz.isAgg9
 z9:=Tryz.sizeOf9
 v9:=Tryz.zeroValue9
 i9:=by kernel_rfl
 t12:=Tryz.underlying12
 a12:=Tryz.isAgg12
 z12:=Tryz.sizeOf12
 v12:=Tryz.zeroValue12
 i12:=by kernel_rfl
 t17:=Tryz.underlying17
 a17:=Tryz.isAgg17
 z17:=Tryz.sizeOf17
 v17:=Tryz.zeroValue17
 i17:=by kernel_rfl
 t20:=Tryz.underlying20
 a20:=Tryz.isAgg20
 z20:=Tryz.sizeOf20
 v20:=Tryz.zeroValue20
 i20:=by kernel_rfl
 t26:=Tryz.underlying62
 a26:=Tryz.isAgg62
 z26:=Tryz.sizeOf62
 v26:=Tryz.zeroValue62
 i26:=by kernel_rfl
 t32:=Tryz.underlying193
 a32:=Tryz.isAgg193
 z32:=Tryz.sizeOf193
 v32:=Tryz.zeroValue193
 i32:=by kernel_rfl
 t33:=Tryz.underlying194
 a33:=Tryz.isAgg194
 z33:=Tryz.sizeOf194
 v33:=Tryz.zeroValue194
 i33:=by kernel_rfl
 t35:=Tryz.underlying196
 a35:=Tryz.isAgg196
 z35:=Tryz.sizeOf196
 v35:=Tryz.zeroValue196
 i35:=by kernel_rfl
 t37:=Tryz.underlying198
 a37:=Tryz.isAgg198
 z37:=Tryz.sizeOf198
 v37:=Tryz.zeroValue198
 i37:=by kernel_rfl
 t41:=Tryz.underlying187
 a41:=Tryz.isAgg187
 z41:=Tryz.sizeOf187
 v41:=Tryz.zeroValue187
 i41:=by kernel_rfl
 t44:=Tryz.underlying202
 a44:=Tryz.isAgg202
 z44:=Tryz.sizeOf202
 v44:=Tryz.zeroValue202
 i44:=by kernel_rfl
 t49:=Tryz.underlying214
 a49:=Tryz.isAgg214
 z49:=Tryz.sizeOf214
 v49:=Tryz.zeroValue214
 i49:=by kernel_rfl
 t51:=Tryz.underlying157
 a51:=Tryz.isAgg157
 z51:=Tryz.sizeOf157
 v51:=Tryz.zeroValue157
 i51:=by kernel_rfl
 t53:=Tryz.underlying219
 a53:=Tryz.isAgg219
 z53:=Tryz.sizeOf219
 v53:=Tryz.zeroValue219
 i53:=by kernel_rfl
 t54:=Tryz.underlying220
 a54:=Tryz.isAgg220
 z54:=Tryz.sizeOf220
 v54:=Tryz.zeroValue220
 i54:=by kernel_rfl
 t58:=Tryz.underlying142
 a58:=Tryz.isAgg142
 z58:=Tryz.sizeOf142
 v58:=Tryz.zeroValue142
 i58:=by kernel_rfl
 t60:=Tryz.underlying234
 a60:=Tryz.isAgg234
 z60:=Tryz.sizeOf234
 v60:=Tryz.zeroValue234
 i60:=by kernel_rfl
 t64:=Tryz.underlying232
 a64:=Tryz.isAgg232
 z64:=Tryz.sizeOf232
 v64:=Tryz.zeroValue232
 i64:=by kernel_rfl
 t66:=Tryz.underlying239
 a66:=Tryz.isAgg239
 z66:=Tryz.sizeOf239
 v66:=Tryz.zeroValue239
 i66:=by kernel_rfl
 t67:=Tryz.underlying50
 a67:=Tryz.isAgg50
 z67:=Tryz.sizeOf50
 v67:=Tryz.zeroValue50
 i67:=by kernel_rfl
 t75:=Tryz.underlying249
 a75:=Tryz.isAgg249
 z75:=Tryz.sizeOf249
 v75:=Tryz.zeroValue249
 i75:=by kernel_rfl
 t76:=Tryz.underlying250
 a76:=Tryz.isAgg250
 z76:=Tryz.sizeOf250
 v76:=Tryz.zeroValue250
 i76:=by kernel_rfl
 t77:=Tryz.underlying251
 a77:=Tryz.isAgg251
 z77:=Tryz.sizeOf251
 v77:=Tryz.zeroValue251
 i77:=by kernel_rfl
 t78:=Tryz.underlying252
 a78:=Tryz.isAgg252
 z78:=Tryz.sizeOf252
 v78:=Tryz.zeroValue252
 i78:=by kernel_rfl
 t79:=Tryz.underlying253
 a79:=Tryz.isAgg253
 z79:=Tryz.sizeOf253
 v79:=Tryz.zeroValue253
 i79:=by kernel_rfl
 t80:=Tryz.underlying254
 a80:=Tryz.isAgg254
 z80:=Tryz.sizeOf254
 v80:=Tryz.zeroValue254
 i80:=by kernel_rfl
 t82:=Tryz.underlying256
 a82:=Tryz.isAgg256
 z82:=Tryz.sizeOf256
 v82:=Tryz.zeroValue256
 i82:=by kernel_rfl }
end Go.Proofs.YtanpljalbijfkaaGreat
