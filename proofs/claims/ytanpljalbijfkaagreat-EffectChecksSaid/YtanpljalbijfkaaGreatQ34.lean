/- . -/
import Derived.Test.YtanpljalbijfkaaGreatQ28
import Derived.Test.YtanpljalbijfkaaGreatQ33
namespace Go.Proofs.YtanpljalbijfkaaGreat
open Go.ChangeShapes Go.WideShapes Go.ChangeAt Go.RowKit Go.Deep
set_option maxHeartbeats 16000000
instance:Inhabited StP:=⟨⟨0,0,⟨#[]⟩⟩⟩
section
variable {H:Type} {enc:TypeId × Value→H} {W:World} {base:Nat} {spare:Nat→Bool} {held:Bool}
set_option maxRecDepth 100000 in
theorem Qt5 {fuel:Nat} {cs:List Value} {x:DataW H × List MemPlace} (h:DataW.trod enc Tryz.prog W base spare held fuel 133 cs=some x):∃ p:Wd × Wd,cs = [.string p.1.1,.int .i64 p.1.2,.string p.2.1,.int .i64 p.2.2]:=by
 obtain ⟨xs,m,_,_,hl,hxl,hx⟩:=DataW.trod_struct Tryz.underlying133 h
 have h2:Tryz.prog.cellsOf 133=4:=by kernel_rfl
 have h1:Tryz.prog.cellsOf 27=2:=by kernel_rfl
 have hl':cs.length=4:=hl.trans h2
 clear hl h2
 obtain ⟨a,b,c,d,rfl⟩:=Qp9 hl'
 have e0:DataW.trod enc Tryz.prog W base spare held m 27 (List.take (Tryz.prog.cellsOf 27) (List.drop 0 [a,b,c,d]))=xs[0]?:=hx 0 _ rfl
 have e1:DataW.trod enc Tryz.prog W base spare held m 27 (List.take (Tryz.prog.cellsOf 27) (List.drop 2 [a,b,c,d]))=xs[1]?:=hx 1 _ rfl
 have hxl':xs.length=2:=hxl
 obtain ⟨x0,hx0⟩:∃ x0,xs[0]? = some x0:=⟨_,List.getElem?_eq_getElem (by omega)⟩
 obtain ⟨x1,hx1⟩:∃ x1,xs[1]? = some x1:=⟨_,List.getElem?_eq_getElem (by omega)⟩
 generalize Tryz.prog.cellsOf 27=k at e0 e1 h1
 subst h1
 obtain ⟨p,hp,_⟩:=Qdh (e0.trans hx0)
 obtain ⟨q,hq,_⟩:=Qdh (e1.trans hx1)
 simp at hp hq
 exact ⟨(p,q),by rw [hp.1,hp.2,hq.1,hq.2]⟩
set_option maxRecDepth 100000 in
theorem Qru {fuel:Nat} {cs:List Value} {x:DataW H × List MemPlace} (h:DataW.trod enc Tryz.prog W base spare held fuel 23 cs=some x) (hw:WOk 23 x.1) :
  ∃ (a:Option Addr) (c:Nat) (os:List (Wd × Wd)),cs = [.slice a os.length c]∧OdsAt W W.heap.size a os∧os.length≤5864062014634:=by
 have h2:Tryz.prog.cellsOf 133=4:=by kernel_rfl
 have hby:Tryz.prog.bytesOf 133=48:=by kernel_rfl
 rcases open_slice Tryz.underlying23 h with ⟨hcs,_⟩ | ⟨a,len,cap,m,n,D,Pl,hcs,_,hlc,hm,hmm,hd,hx⟩
 ·exact ⟨none,0,[],hcs,Reads.none_,by simp⟩
 ·have hlm:len≤m:=by rw [hmm]; split <;> omega
  have hlen:len≤5864062014634:=by
   rw [hd] at hw
   have:=hw.len Tryz.underlying23
   rw [hby,List.length_map,List.length_range] at this
   unfold reachBytes at this
   omega
  rw [h2] at hx
  have hex:∀ i,i < len→∃ q:Wd × Wd,W.cell? (a.add (i * 4))=some (.string q.1.1)∧W.cell? (a.add (i * 4 + 1))=some (.int .i64 q.1.2)∧W.cell? (a.add (i * 4 + 2))=some (.string q.2.1)∧W.cell? (a.add (i * 4 + 3))=some (.int .i64 q.2.2):=by
   intro i hi
   obtain ⟨cs,hc,ht⟩:=hx i (by omega)
   obtain ⟨q,rfl⟩:=Qt5 ht
   obtain ⟨_,_,hat⟩:=World.cells?_some hc
   have c0:=hat 0 (by omega)
   have c1:=hat 1 (by omega)
   have c2:=hat 2 (by omega)
   have c3:=hat 3 (by omega)
   rw [add_add] at c0 c1 c2 c3
   exact ⟨q,by simpa using c0,by simpa using c1,by simpa using c2,by simpa using c3⟩
  obtain ⟨f,hf'⟩:=choose_lt (α:=Wd × Wd) hex
  have hat:∀ i,i < len→lo ((List.range len).map f) i=(f i).1∧hi ((List.range len).map f) i=(f i).2:=fun i hi'=>by
   simp [lo,hi,List.getD_eq_getElem?_getD,List.getElem?_map,List.getElem?_range hi']
  refine ⟨some a,cap,(List.range len).map f,by rw [hcs]; simp,⟨by rw [Qgj],fun hn=>⟨a,rfl,?_,fun j u hu=>?_⟩⟩,by simpa using hlen⟩
  ·have c0:=(hf' 0 (by simpa using hn)).1
   simp only [Nat.zero_mul] at c0
   have:=World.block_lt_of_cell? W _ c0
   simpa [Addr.add] using this
  ·have hj:j < len * 4:=by
    have:=(List.getElem?_eq_some_iff.1 hu).1
    rw [Qgj] at this
    simpa using this
   have hk:=Qoj (by omega) hj
   have hg:=Qiz ((List.range len).map f) (j / 4) (by simpa using hk)
   rw [(hat _ hk).1,(hat _ hk).2] at hg
   have hh:=hf' _ hk
   have e4:j % 4=0∨j % 4=1∨j % 4=2∨j % 4=3:=by omega
   rcases e4 with e | e | e | e
   ·have ej:j=j / 4 * 4:=by omega
    rw [ej] at hu ⊢
    rw [hg.1] at hu
    rw [hh.1,← hu]
   ·have ej:j=j / 4 * 4 + 1:=by omega
    rw [ej] at hu ⊢
    rw [hg.2.1] at hu
    rw [hh.2.1,← hu]
   ·have ej:j=j / 4 * 4 + 2:=by omega
    rw [ej] at hu ⊢
    rw [hg.2.2.1] at hu
    rw [hh.2.2.1,← hu]
   ·have ej:j=j / 4 * 4 + 3:=by omega
    rw [ej] at hu ⊢
    rw [hg.2.2.2] at hu
    rw [hh.2.2.2,← hu]
set_option maxRecDepth 100000 in
theorem Qrv {fuel:Nat} {cs:List Value} {x:DataW H × List MemPlace} (h:DataW.trod enc Tryz.prog W base spare held fuel 90 cs=some x) (hw:WOk 90 x.1) :
  ∃ (q:Wd) (t:Ty) (vt:List Value),cs = [.string q.1,.int .i64 q.2] ++ vt∧TyAt W W.heap.size t vt∧q.1.size≤maxLen∧Q3 t:=by
 obtain ⟨xs,m,_,hx1,hl,hxl,hx⟩:=DataW.trod_struct Tryz.underlying90 h
 have h11:Tryz.prog.cellsOf 90=11:=by kernel_rfl
 have h2:Tryz.prog.cellsOf 27=2:=by kernel_rfl
 have h9:Tryz.prog.cellsOf 29=9:=by kernel_rfl
 have hl':cs.length=2 + 9:=hl.trans h11
 clear hl h11
 obtain ⟨c0,c1,rfl,l0,l1⟩:=Qcw hl'
 obtain ⟨L,hL⟩:=V1 (c0 ++ c1)
 rw [← hL] at hx ⊢
 have e0:DataW.trod enc Tryz.prog W base spare held m 27 (List.take (Tryz.prog.cellsOf 27) (List.drop 0 L))=xs[0]?:=hx 0 _ rfl
 have e1:DataW.trod enc Tryz.prog W base spare held m 29 (List.take (Tryz.prog.cellsOf 29) (List.drop 2 L))=xs[1]?:=hx 1 _ rfl
 rw [h2,Qep (n:=0) (a:=[]) (b:=c0) (c:=c1) (by rw [hL]; rfl) rfl l0] at e0
 rw [h9,Qep (a:=c0) (b:=c1) (c:=[]) (by rw [hL]; simp) l0 l1] at e1
 have hxl':xs.length=2:=hxl
 obtain ⟨x0,hx0⟩:∃ x0,xs[0]? = some x0:=⟨_,List.getElem?_eq_getElem (by omega)⟩
 obtain ⟨x1,hx1'⟩:∃ x1,xs[1]? = some x1:=⟨_,List.getElem?_eq_getElem (by omega)⟩
 rw [hx1] at hw
 have hw1:WOk 29 x1.1:=hw.part (j:=1) Tryz.underlying90 rfl (by rw [List.getElem?_map,hx1']; rfl)
 obtain ⟨q,rfl,n1⟩:=Qdh (e0.trans hx0)
 obtain ⟨t,g1,g2⟩:=Qqa _ _ _ (e1.trans hx1') hw1
 exact ⟨q,t,c1,by rw [hL],g1,n1,g2⟩
set_option maxRecDepth 100000 in
theorem Qpt {fuel:Nat} {cs:List Value} {x:DataW H × List MemPlace} (h:DataW.trod enc Tryz.prog W base spare held fuel 24 cs=some x) (hw:WOk 24 x.1) :
  ∃ (A:Option Addr) (c n:Nat) (nm:Nat→Wd) (ty:Nat→Ty),cs = [.slice A n c]∧NamedAt W W.heap.size A n nm ty∧n≤5864062014634∧∀ i,i < n→(nm i).1.size≤maxLen∧Q3 (ty i):=by
 have h11:Tryz.prog.cellsOf 90=11:=by kernel_rfl
 have hby:Tryz.prog.bytesOf 90=136:=by kernel_rfl
 rcases DataW.trod_slice Tryz.underlying24 h with ⟨hcs,_⟩ | ⟨a,len,cap,elems,rest,n,hmn,hcs,hx6',_,hlc,hcm,hel,hall,_,_⟩
 ·exact ⟨none,0,0,fun _=>wd0,fun _=>.nil,hcs,fun h=>absurd h (by omega),by omega,fun i hi=>absurd hi (by omega)⟩
 ·have hlen:len≤5864062014634:=by
   rw [hx6'] at hw
   have:=hw.len Tryz.underlying24
   rw [hby,List.length_map,List.length_map,hel] at this
   unfold reachBytes at this
   omega
  rw [h11] at hall
  have hex:∀ i,i < len→∃ qt:Wd × Ty,(∃ vt,(∀ j v,([.string qt.1.1,.int .i64 qt.1.2] ++ vt)[j]? = some v→W.cell? (a.add (i * 11 + j))=some v)∧TyAt W W.heap.size qt.2 vt)∧qt.1.1.size≤maxLen∧Q3 qt.2:=by
   intro i hi
   obtain ⟨xe,hxe⟩:∃ xe,elems[i]? = some xe:=⟨_,List.getElem?_eq_getElem (by omega)⟩
   have hb:=(hall i hi).trans hxe
   obtain ⟨cs',hc,ht⟩:=Option.bind_eq_some_iff.1 hb
   have hwe:WOk 90 xe.1:=by
    rw [hx6'] at hw
    exact hw.elem Tryz.underlying24 (List.mem_map.2 ⟨xe,List.mem_of_getElem? hxe,rfl⟩)
   obtain ⟨q,t,vt,rfl,g1,g2,g3⟩:=Qrv ht hwe
   obtain ⟨_,hlc',hat⟩:=World.cells?_some hc
   refine ⟨(q,t),⟨vt,fun j v hv=>?_,g1⟩,g2,g3⟩
   have hj:j < 11:=by
    have h9:=(List.getElem?_eq_some_iff.1 hv).1
    have hvl:vt.length=9:=by obtain ⟨_,_,_,_,_,_,rfl⟩:=g1.form; rfl
    rw [List.length_append,hvl] at h9
    exact h9
   have:=hat j hj
   rw [add_add] at this
   rw [this,hv]
  obtain ⟨f,hf⟩:=choose_lt (α:=Wd × Ty) hex
  refine ⟨some a,cap,len,fun i=>(f i).1,fun i=>(f i).2,hcs,fun h0=>?_,hlen,fun i hi=>(hf i hi).2⟩
  have hcell0:W.cell? (a.add 0)=some (.string (f 0).1.1):=by
   obtain ⟨⟨vt,g1,_⟩,_⟩:=hf 0 h0
   exact g1 0 _ rfl
  obtain ⟨b,o,sp⟩:=a
  have hsp:sp=none:=by
   rcases sp with _ | sp
   ·rfl
   ·simp [Addr.add,World.cell?] at hcell0
    split at hcell0 <;> simp at hcell0
  subst hsp
  have hadd:∀ j,(⟨b,o,none⟩:Addr).add j=⟨b,o + j,none⟩:=fun j=>by
   unfold Addr.add
   split
   ·rename_i h; subst h; rfl
   ·rfl
  refine ⟨b,o,rfl,?_,fun i hi=>?_⟩
  ·have:=World.block_lt_of_cell? W _ hcell0
   simpa [Addr.add] using this
  ·obtain ⟨⟨vt,g1,g2⟩,_⟩:=hf i hi
   refine ⟨vt,fun j v hv=>?_,g2⟩
   have:=g1 j v hv
   rw [hadd] at this
   rw [Nat.add_assoc]
   exact this
set_option maxRecDepth 100000 in
theorem Qvw {r:Reach} {b0:Nat} {v:Value} {d:DataW H} {p:List MemPlace} (hv:Value.okWide Tryz.prog W r b0 31 v) (h:DataW.Trod enc Tryz.prog W base spare held 31 v d p) (hw:WOk 31 d):∃ (s:Sch) (vs:List Value),v = .agg vs.toArray∧SchAt W s vs∧SchSz s:=by
 simp only [Value.okWide,Tryz.underlying31] at hv
 obtain ⟨cs,rfl,_,_⟩:=hv
 obtain ⟨fuel,hf⟩:=h
 obtain ⟨xs,m,_,hx1,hl,hxl,hx⟩:=DataW.trod_struct Tryz.underlying31 hf
 have h12:Tryz.prog.cellsOf 31=12:=by kernel_rfl
 have h1:Tryz.prog.cellsOf 22=1:=by kernel_rfl
 have h2:Tryz.prog.cellsOf 23=1:=by kernel_rfl
 have h3:Tryz.prog.cellsOf 24=1:=by kernel_rfl
 have h9:Tryz.prog.cellsOf 29=9:=by kernel_rfl
 have e:(Value.agg cs).cells.toList=cs.toList:=by simp [Value.cells]
 rw [e] at hl hx
 have hl':cs.toList.length=1 + 11:=hl.trans h12
 clear hl h12 e
 obtain ⟨c0,r0,hc0,l0,m0⟩:=Qcw hl'
 obtain ⟨c1,r1,rfl,l1,m1⟩:=Qcw (n:=1) (m:=10) m0
 obtain ⟨c2,c3,rfl,l2,l3⟩:=Qcw (n:=1) (m:=9) m1
 obtain ⟨L,hL⟩:=V1 (cs.toList)
 rw [← hL] at hx hc0
 have e0:DataW.trod enc Tryz.prog W base spare held m 22 (List.take (Tryz.prog.cellsOf 22) (List.drop 0 L))=xs[0]?:=hx 0 _ rfl
 have e1:DataW.trod enc Tryz.prog W base spare held m 23 (List.take (Tryz.prog.cellsOf 23) (List.drop 1 L))=xs[1]?:=hx 1 _ rfl
 have e2:DataW.trod enc Tryz.prog W base spare held m 24 (List.take (Tryz.prog.cellsOf 24) (List.drop 2 L))=xs[2]?:=hx 2 _ rfl
 have e3:DataW.trod enc Tryz.prog W base spare held m 29 (List.take (Tryz.prog.cellsOf 29) (List.drop 3 L))=xs[3]?:=hx 3 _ rfl
 rw [h1,Qep (n:=0) (a:=[]) (b:=c0) (by rw [hc0]; rfl) rfl l0] at e0
 rw [h2,Qep (a:=c0) (b:=c1) (by rw [hc0]) l0 l1] at e1
 rw [h3,Qep (a:=c0 ++ c1) (b:=c2) (c:=c3) (by rw [hc0]; simp) (by rw [List.length_append,l0,l1]) l2] at e2
 rw [h9,Qep (a:=c0 ++ c1 ++ c2) (b:=c3) (c:=[]) (by rw [hc0]; simp) (by rw [List.length_append,List.length_append,l0,l1,l2]) l3] at e3
 have hxl':xs.length=4:=hxl
 obtain ⟨x0,hx0⟩:∃ x0,xs[0]? = some x0:=⟨_,List.getElem?_eq_getElem (by omega)⟩
 obtain ⟨x1,hx1'⟩:∃ x1,xs[1]? = some x1:=⟨_,List.getElem?_eq_getElem (by omega)⟩
 obtain ⟨x2,hx2⟩:∃ x2,xs[2]? = some x2:=⟨_,List.getElem?_eq_getElem (by omega)⟩
 obtain ⟨x3,hx3⟩:∃ x3,xs[3]? = some x3:=⟨_,List.getElem?_eq_getElem (by omega)⟩
 have hx1'':d=DataW.agg (List.map (fun x=>x.fst) xs):=congrArg Prod.fst hx1
 rw [hx1''] at hw
 have hw0:WOk 22 x0.1:=hw.part (j:=0) Tryz.underlying31 rfl (by rw [List.getElem?_map,hx0]; rfl)
 have hw1:WOk 23 x1.1:=hw.part (j:=1) Tryz.underlying31 rfl (by rw [List.getElem?_map,hx1']; rfl)
 have hw2:WOk 24 x2.1:=hw.part (j:=2) Tryz.underlying31 rfl (by rw [List.getElem?_map,hx2]; rfl)
 have hw3:WOk 29 x3.1:=hw.part (j:=3) Tryz.underlying31 rfl (by rw [List.getElem?_map,hx3]; rfl)
 obtain ⟨A1,k1,ws,rfl,g1,s1⟩:=Qe0 (e0.trans hx0) hw0
 obtain ⟨A2,k2,os,rfl,g2,s2⟩:=Qru (e1.trans hx1') hw1
 obtain ⟨A3,k3,n,nm,ty,rfl,g3,s3,s4⟩:=Qpt (e2.trans hx2) hw2
 obtain ⟨t,g4,s5⟩:=Qqa _ _ _ (e3.trans hx3) hw3
 refine ⟨⟨ws,os,n,nm,ty,t⟩,L,by rw [hL,Array.toArray_toList],⟨A1,k1,A2,k2,A3,k3,c3,by rw [hc0]; rfl,g1,g2,g3,g4⟩,⟨s1,s2,s3,fun i hi=>(s4 i hi).1,fun i hi=>(s4 i hi).2,s5⟩⟩
end
end Go.Proofs.YtanpljalbijfkaaGreat
