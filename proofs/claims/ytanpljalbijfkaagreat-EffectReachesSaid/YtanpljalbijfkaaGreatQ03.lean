/- . -/
import Derived.Test.YtanpljalbijfkaaGreatQ02
import Derived.Shelf.GgSortFunc.Tiny
import Derived.Shelf.GgSortFunc.Whole
import Derived.Deep.RegionHeld3
import Derived.OwnWalk
import Derived.Deep.CutBlock
namespace Go.Proofs.YtanpljalbijfkaaGreat
open Go.RowKit Go.Shelf Go.Lib Go.Sort
set_option maxHeartbeats 16000000
set_option maxRecDepth 100000 in
theorem Qp0 (g gl ol c cl Ba Bt gt n:Nat) (l:List ByteArray) (W:World) (G:Nat→Nat) (_hln:l.length=n) (_hn:n < 4611686018427387904)
  (ha:W.cell? ⟨Ba,0,none⟩=some (.slice (some ⟨g,0,none⟩) n c)) (ht:W.cell? ⟨Bt,0,none⟩=some (.pointer (some ⟨gt,0,none⟩))) (htl:W.cell? ⟨gt,0,none⟩=some (.slice (some ⟨gl,ol,none⟩) n cl))
  (hG:∀ t,t < n→W.cell? ⟨g,t,none⟩=some (.int .i64 (G t))) (hGl:∀ t,t < n→G t < n) (hl:∀ p,p < n→W.cell? ⟨gl,ol + p,none⟩=some (.string (sAt l p))) (i j:Nat) (hi:i < n) (hj:j < n) :
  Calls Tryz.prog 98 #[.int .i64 i,.int .i64 j,.pointer (some ⟨Ba,0,none⟩),.pointer (some ⟨Bt,0,none⟩)] W fun e w' =>
   e = .returned (.bool (if sAt l (G i)=sAt l (G j) then decide (G i < G j) else bl (sAt l (G i)) (sAt l (G j))))∧∃ q,w'=W.drewN q:=by
 have ci:=hG i hi;have cj:=hG j hj;have si:=hl _ (hGl i hi);have sj:=hl _ (hGl j hj);have bi:=hGl i hi;have bj:=hGl j hj;clear hG hGl hl;generalize G i=a at ci si bi ⊢
 generalize G j=b at cj sj bj ⊢
 generalize sAt l a=x at si ⊢
 generalize sAt l b=y at sj ⊢
 have hxy:=Q8 x y;by_cases e:x=y
 ·rw [if_pos e];have h1:(x.toList == y.toList)=true:=by rw [hxy]; simpa using e
  have h2:(!(x.toList == y.toList))=false:=by rw [h1]; rfl
  subst e;clear hxy h1 h2;go_enter Tryz.func98,Tryz.ntmps98
  go_wp2_with fail
  go_quiet (fail)
  go_wp2_with fail
  go_quiet (fail)
  go_wp2_with fail
  go_ret
  exact ⟨Qb (by simp),_,rfl⟩
 ·rw [if_neg e];have h1:(x.toList == y.toList)=false:=by rw [hxy]; simpa using e
  clear hxy e;obtain ⟨z,hz⟩:=V1 (bl x y);rw [← hz];have hz':Op.bytesLess x.toList y.toList=z:=hz.symm;clear hz;go_enter Tryz.func98,Tryz.ntmps98
  go_wp2_with fail
  go_quiet (fail)
  go_wp2_with fail
  go_quiet (fail)
  go_wp2_with fail
  go_quiet (fail)
  go_wp2_with fail
  go_ret
  exact ⟨rfl,_,by rw [World.drewN_drewN,World.drewN_drewN]⟩
noncomputable def snT:TypeInfo:=(Tryz.prog.info? 58).get (by kernel_rfl)
noncomputable def snE:TypeInfo:=(Tryz.prog.info? 3).get (by kernel_rfl)
theorem snK (n:Nat) (h2:2≤n):Lib.swapperK n snE 2=5:=by
 have a:snE.hasPointers=false:=by kernel_rfl
 have b:snE.bytes=8:=by kernel_rfl
 have c:(n == 0)=false:=by simp; omega
 have d:(n == 1)=false:=by simp; omega
 simp [Lib.swapperK,a,b,c,d]
def encN {n:Nat} (x:Fin n):Value:=.int .i64 (x.val:Int)
def Qp1 (l:List ByteArray) (A:Option Addr) (w:World) (e:Ending) (w':World):Prop :=
 e = .returned (.tuple #[])∧∃ ps,SortedAt l ps∧NatAt w' w'.heap.size A ps∧w.grownBy w' (A.map (·.block))
theorem Qia {n:Nat} [Inhabited (Fin n)] {w:World} {g m:Nat} {os:Array Obj} (d:Array (Fin n)):w.grownBy (grow (putRow encN (Sort.ahead w m) g 0 d) os) (some g):=by
 refine ⟨rfl,rfl,rfl,?_,fun k hk hne=>?_⟩
 ·simp [grow,putRow,mapBlock,Sort.ahead]
 ·have hne':g≠k:=fun e=>hne (by rw [e])
  have h1:(grow (putRow encN (Sort.ahead w m) g 0 d) os).heap[k]? = (putRow encN (Sort.ahead w m) g 0 d).heap[k]?:=by
   simp only [grow];rw [Array.getElem?_append_left];simpa [putRow,mapBlock,Sort.ahead] using hk
  rw [h1];simp [putRow,mapBlock,Sort.ahead,Array.getElem?_modify,hne']
theorem Qg8 {α:Type} (d:Array α) (n:Nat) (h:d.size=n):d.extract 0 n=d:=by subst h; exact Array.extract_size ..
theorem Qp2 (g gl ol c cl Ba Bt gt n:Nat) (l:List ByteArray) (w:World) (hln:l.length=n) (h2:2≤n) (hn:n < 4611686018427387904)
  (ha:w.cell? ⟨Ba,0,none⟩=some (.slice (some ⟨g,0,none⟩) n c)) (ht:w.cell? ⟨Bt,0,none⟩=some (.pointer (some ⟨gt,0,none⟩))) (htl:w.cell? ⟨gt,0,none⟩=some (.slice (some ⟨gl,ol,none⟩) n cl))
  (hl:∀ p,p < n→w.cell? ⟨gl,ol + p,none⟩=some (.string (sAt l p)))
  (lBa:Ba < w.heap.size) (lBt:Bt < w.heap.size) (lgt:gt < w.heap.size) (lgl:gl < w.heap.size) (lg:g < w.heap.size) (n1:Ba≠g) (n2:Bt≠g) (n3:gt≠g) (n4:gl≠g)
  (hall:∀ t,t < n→w.cell? ⟨g,t,none⟩=some (.int .i64 (t:Int))∧w.frozen? ⟨g,t,none⟩=false) :
  Calls Tryz.prog 97 #[.iface 58 (.slice (some ⟨g,0,none⟩) n c),.func (.func 98) #[] #[.pointer (some ⟨Ba,0,none⟩),.pointer (some ⟨Bt,0,none⟩)]] w (Qp1 l (some ⟨g,0,none⟩) w):=by
 subst hln;haveI:Inhabited (Fin l.length):=⟨⟨0,by omega⟩⟩
 let d:Array (Fin l.length):=Array.ofFn id
 have hds:d.size=l.length:=by simp [d]
 have hdat:∀ t (h:t < l.length),d[t]! = ⟨t,h⟩:=fun t h=>by
  rw [getElem!_pos d t (by rw [hds]; exact h)]
  simp [d]
 have hH:Holds encN w g 0 d:=fun j hj=>by
  rw [hds] at hj;rw [hdat j hj,Nat.zero_add];exact hall j hj
 have hless:LessReads Tryz.prog 98 #[.pointer (some ⟨Ba,0,none⟩),.pointer (some ⟨Bt,0,none⟩)] encN (ltN l) g 0 d.size w:=by
  intro m os dk hs i j hi hj;rw [hds] at hs hi hj;have e:sortWorld encN w g 0 m dk os=putRow encN (grow (Sort.ahead w m) os) g 0 dk:=by
   unfold sortWorld; rw [putRow_grow _ (Sort.ahead w m) _ g 0 _ lg]
  have hHg:Holds encN (grow (Sort.ahead w m) os) g 0 d:=holds_grow _ _ _ _ _ _ lg (holds_ahead _ _ _ _ _ _ hH);have other:∀ p:Addr,p.block≠g→p.block < w.heap.size→(sortWorld encN w g 0 m dk os).cell? p=w.cell? p:=fun p h1 h2=>by
   rw [e,cell?_putRow_other _ _ _ 0 dk _ (.inl h1),cell?_grow _ _ _ (by exact h2)]; rfl
  have h:=Qp0 g gl ol c cl Ba Bt gt l.length l (sortWorld encN w g 0 m dk os) (fun t=>(dk[t]!).val) rfl hn ((other ⟨Ba,0,none⟩ n1 lBa).trans ha) ((other ⟨Bt,0,none⟩ n2 lBt).trans ht) ((other ⟨gt,0,none⟩ n3 lgt).trans htl)
   (fun t htn=>by rw [e]; have:=(holds_putRow encN (grow (Sort.ahead w m) os) g 0 d dk hHg (by rw [hs,hds]) t (by rw [hs]; exact htn)).1; rw [Nat.zero_add] at this; exact this)
   (fun t _=>(dk[t]!).isLt) (fun p hp=>(other ⟨gl,ol + p,none⟩ n4 lgl).trans (hl p hp)) i j hi hj
  refine h.mono fun _ _ ⟨he,q,hq⟩=>⟨?_,q,hq⟩
  rw [he];congr 2
  unfold ltN;rw [sAt_eq (dk[i]!).isLt,sAt_eq (dk[j]!).isLt];rfl
 have h:=Any.sort_Slice_sorted Tryz.sl6 58 3 snT snE (by kernel_rfl) (by kernel_rfl) (by kernel_rfl) (by kernel_rfl) 2 (fun _=>by kernel_rfl) (by kernel_rfl) (fun _=>by kernel_rfl) encN (fun _=>rfl) (ltN l) (Qtw l) 98 _
  (enters_of Tryz.func98 (by kernel_rfl) rfl) g 0 c d (by rw [hds]; exact h2) (by rw [hds]; exact hn) 148 (by rw [snK _ (by rw [hds]; exact h2)]; kernel_rfl) true
  (fun args W=>run_callFunc_extern Tryz.func148 (by kernel_rfl) (by kernel_rfl) (by kernel_rfl) (e:=Extern.ReflectliteSwapper.swap true) (by kernel_rfl) args W) w hless hH lg
 rw [hds] at h;refine h.mono ?_;rintro e w' ⟨rfl,d',m,os,hp,hs,rfl⟩;obtain ⟨hp1,_,hp3⟩:=hp;have hd':d'.size=l.length:=by rw [hp1,hds]
 rw [Qg8 d' _ hd',Qg8 d _ hds] at hp3;refine ⟨rfl,d'.toList.map Fin.val,⟨by simp [hd'],?_,?_,?_⟩,?_,Qia d'⟩
 ·intro p hp;obtain ⟨x,_,rfl⟩:=List.mem_map.1 hp;exact x.isLt
 ·intro p hp;have:(⟨p,hp⟩:Fin l.length) ∈ d'.toList:=by
   rw [hp3.mem_iff];have hpd:d[p]'(by rw [hds]; exact hp)=⟨p,hp⟩:=by simp [d]
   rw [← hpd];simp
  exact List.mem_map.2 ⟨_,this,rfl⟩
 ·intro i j hij hj;have hj':j < d'.size:=by simpa using hj
  have hi':i < d'.size:=by omega
  have hso:=hs i j (Nat.zero_le _) hij (by omega)
  rw [getElem!_pos d' i hi',getElem!_pos d' j hj'] at hso;have hlt:ltN l d'[j] d'[i]=false:=by simpa using hso
  simp only [List.getElem_map,Array.getElem_toList];rw [sAt_eq d'[i].isLt,sAt_eq d'[j].isLt];rcases Qef hlt with h3 | h3
  ·unfold ltN at h3;by_cases e:l[d'[i]]=l[d'[j]]
   ·rw [if_pos e] at h3;simp at h3
    exact .inr ⟨e,by omega⟩
   ·rw [if_neg e] at h3;exact .inl h3
  ·right
   rw [h3];exact ⟨rfl,Nat.le_refl _⟩
 ·have hHn:=holds_grow encN _ os g 0 d' (by simpa [putRow,mapBlock,Sort.ahead] using lg) (holds_putRow encN _ g 0 d d' (holds_ahead _ _ m _ _ _ hH) hp1)
  refine ⟨by simp [natCells],fun _=>⟨_,rfl,by simp [grow,putRow,mapBlock,Sort.ahead]; omega,fun j u hu=>?_⟩⟩
  have hj:j < d'.size:=by
   have:=(List.getElem?_eq_some_iff.1 hu).1
   simpa [natCells] using this
  have e:(⟨g,0,none⟩:Addr).add j=⟨g,j,none⟩:=by unfold Addr.add; split <;> simp_all
  rw [e];have:=(hHn j hj).1
  rw [Nat.zero_add] at this;rw [this,← hu,getElem!_pos d' j hj];simp [natCells,encN,hj]
end Go.Proofs.YtanpljalbijfkaaGreat
namespace Go.Proofs.YtanpljalbijfkaaGreat
open Go.RowKit
set_option maxHeartbeats 16000000
theorem Qal {t:TypeId} {a b:Nat} {v:Value} {s:Nat} (h:(Tryz.prog.info? t).map (fun i=>(i.size,i.bytes,i.zero,(i.zero.map (·.cells.size))))=some (a,b,some v,some s)) :
  ∃ i,Tryz.prog.info? t=some i∧i.zero=some v∧i.size=a∧i.bytes=b:=by
 cases hi:Tryz.prog.info? t with
 | none=>simp [hi] at h
 | some i =>
  simp [hi] at h
  exact ⟨i,rfl,h.2.2.1,h.1,h.2.1⟩
theorem Qdu:∃ i,Tryz.prog.info? 9=some i∧i.zero=some (.string ⟨#[]⟩)∧i.size=1∧i.bytes=16 :=
 Qal (a:=1) (b:=16) (v:=.string ⟨#[]⟩) (s:=1) (by kernel_rfl)
theorem info_int:∃ i,Tryz.prog.info? 3=some i∧i.zero=some (.int .i64 0)∧i.size=1∧i.bytes=8 :=
 Qal (a:=1) (b:=8) (v:=.int .i64 0) (s:=1) (by kernel_rfl)
theorem Qa0 (w:World) {ops:Array Oper} {rest:List Oper} {o:Oper} {a:Act} {Q:Exit→Act→World→Prop} (hgd:o.guard=none) (s x:Operand)
  (ho:o.op = .call { callee:=.builtin .append,args:=#[s,x],argTypes:=#[63,63] })
  (base:Nat) (v:Value) (n:Nat) (l:List ByteArray) (hs:a.eval s=v) (g:Nat) (u:ByteArray) (c:Nat) (hx:a.eval x = .slice (some ⟨g,0,none⟩) 1 c)
  (hown:w.ownsRow base 9 1 v n (Qg l)) (hr:Reads w (g + 1) 1 (some ⟨g,0,none⟩) 1 [.string u]) (hn:n≤1073741823) (hbase:base≤w.heap.size)
  (h:∀ A' c' w',w'.ownsRow base 9 1 (.slice A' (n + 1) c') (n + 1) (Qg (l ++ [u]))→w.grownBy w' v.ownBlock→(Value.ownBlock (.slice A' (n + 1) c')=v.ownBlock∨Value.ownBlock (.slice A' (n + 1) c')=some w.heap.size)→wpList Tryz.prog ops Q rest (a.put o.dst (.slice A' (n + 1) c')) w'):wpList Tryz.prog ops Q (o :: rest) a w:=by
 obtain ⟨i0,hi,hz,hs2,hb⟩:=Qdu;refine Qcc w hgd s x 63 ho base 9 i0 _ 16 Tryz.underlying63 hi hz hs2 hb rfl v n (Qg l) hs g (.string u) c hx rfl hn (by decide) hown hr hbase ?_
 rw [Qbj] at h;exact h
theorem grown_ext' {w wr w0 w3:World} {base size n:Nat} {e:TypeId} {v:Value} {xs:List Value} (hE:Ext w wr) (h1:Ext wr w0) (hg:w0.grownBy w3 v.ownBlock) (hO:wr.ownsRow base e size v n xs) (hb:w.heap.size≤base):Ext w w3:=by
 have h:=hE.trans' h1;refine ⟨hg.os.trans h.os,hg.tape.trans h.tape,hg.output.trans h.output,Nat.le_trans h.size hg.size,fun k' hk'=>(hg.block k' (by have:=h.size; omega) ?_).trans (h.block k' hk')⟩
 intro e;have:=(hO.lt k' e.symm).1
 omega
end Go.Proofs.YtanpljalbijfkaaGreat
namespace Go.Proofs.YtanpljalbijfkaaGreat
open Go.RowKit Go.Shelf Go.Lib Go.Sort
set_option maxHeartbeats 16000000
structure NMem (w wr:World) (l:List ByteArray) (n g1 gt Bt g Ba c1:Nat) (V:Value) (F:Nat→Value):Prop where
 ext:Ext w wr
 o1:w.heap.size≤g1
 o2:g1 < gt
 o3:gt < Bt
 o4:Bt < g
 o5:g < Ba
 o6:Ba < wr.heap.size
 texts:∀ p,p < n→wr.cell? ⟨g1,p,none⟩=some (.string (sAt l p))
 tab:Blk wr gt 170 #[.slice (some ⟨g1,0,none⟩) n c1,V]
 tvar:Blk wr Bt 81 #[.pointer (some ⟨gt,0,none⟩)]
 avar:Blk wr Ba 58 #[.slice (some ⟨g,0,none⟩) n n]
 row:∀ p,p < n→wr.cell? ⟨g,p,none⟩=some (F p)
section
variable {w wr w':World} {l:List ByteArray} {n g1 gt Bt g Ba c1:Nat} {V:Value} {F:Nat→Value}
theorem Qdv {b j:Nat} (h:w'.heap[b]? = wr.heap[b]?):w'.cell? ⟨b,j,none⟩=wr.cell? ⟨b,j,none⟩:=World.cell?_of_block h
theorem NMem.keep (h:NMem w wr l n g1 gt Bt g Ba c1 V F) (hE:Ext w w') (hs:wr.heap.size≤w'.heap.size) (hk:∀ b,b≤Ba→w'.heap[b]? = wr.heap[b]?):NMem w w' l n g1 gt Bt g Ba c1 V F:=by
 obtain ⟨_,o1,o2,o3,o4,o5,o6,t,a,b,c,d⟩:=h;exact ⟨hE,o1,o2,o3,o4,o5,by omega,fun p hp=>(Qdv (hk g1 (by omega))).trans (t p hp),(hk gt (by omega)).trans a,(hk Bt (by omega)).trans b,(hk Ba (by omega)).trans c,
  fun p hp=>(Qdv (hk g (by omega))).trans (d p hp)⟩
theorem NMem.congr (h:NMem w wr l n g1 gt Bt g Ba c1 V F) {F':Nat→Value} (e:∀ p,p < n→F p=F' p):NMem w wr l n g1 gt Bt g Ba c1 V F':=by
 obtain ⟨e0,o1,o2,o3,o4,o5,o6,t,a,b,c,d⟩:=h;exact ⟨e0,o1,o2,o3,o4,o5,o6,t,a,b,c,fun p hp=>(d p hp).trans (by rw [e p hp])⟩
theorem NMem.grown (h:NMem w wr l n g1 gt Bt g Ba c1 V F) {w0 w4:World} {base size m:Nat} {e:TypeId} {v:Value} {xs:List Value} (h1:Ext wr w0) (hg:w0.grownBy w4 v.ownBlock) (hO:wr.ownsRow base e size v m xs) (hb:Ba < base):NMem w w4 l n g1 gt Bt g Ba c1 V F:=by
 have o1:=h.o1; have o2:=h.o2; have o3:=h.o3; have o4:=h.o4; have o5:=h.o5; have o6:=h.o6;refine h.keep (grown_ext' h.ext h1 hg hO (by omega)) (Nat.le_trans h1.size hg.size) fun b hb'=>?_
 refine (hg.block b (by have:=h1.size; omega) ?_).trans (h1.block b (by omega))
 intro e;have:=(hO.lt b e.symm).1
 omega
theorem own_cell1 {w:World} {base:Nat} {e:TypeId} {A:Option Addr} {n c:Nat} {xs:List Value} (h:w.ownsRow base e 1 (.slice A n c) n xs) (hn:0 < n) :
  ∃ g,A=some ⟨g,0,none⟩∧base≤g∧g < w.heap.size∧(∀ j,j < n→w.cell? ⟨g,j,none⟩=xs[j]?)∧∀ j,w.frozen? ⟨g,j,none⟩=false:=by
 rcases h.2 with ⟨_,h0⟩ | ⟨g,cap,cur,hv,hg,hb,_⟩
 ·omega
 ·injection hv with h1 h2 h3
  subst h1; subst h3;exact ⟨g,rfl,hg,(Array.getElem?_eq_some_iff.1 hb).1,fun j hj=>h.cellAt j (by omega),fun j=>h.frozenAt j⟩
theorem NMem.later (h:NMem w wr l n g1 gt Bt g Ba c1 V F) (hE:Ext wr w'):NMem w w' l n g1 gt Bt g Ba c1 V F :=
 h.keep (h.ext.trans' hE) hE.size fun b hb=>hE.block b (by have:=h.o6; omega)
theorem NMem.set (h:NMem w wr l n g1 gt Bt g Ba c1 V F) (k:Nat) (u:Value) (hk:k < n):NMem w (wr.setCell ⟨g,k,none⟩ u) l n g1 gt Bt g Ba c1 V (fun p=>if p=k then u else F p):=by
 obtain ⟨e,o1,o2,o3,o4,o5,o6,t,a,b,c,d⟩:=h;refine ⟨e.setCell (by show w.heap.size≤g; omega) _,o1,o2,o3,o4,o5,by simpa using o6,fun p hp=>?_,a.far (by show gt≠g; omega) _,b.far (by show Bt≠g; omega) _,c.far (by show Ba≠g; omega) _,fun p hp=>?_⟩
 ·exact (World.cell?_setCell_other wr _ _ u (by intro e; injection e with e; omega)).trans (t p hp)
 ·by_cases e:p=k
  ·subst e;rw [if_pos rfl];exact World.cell?_setCell_same _ _ _ (d p hp)
  ·rw [if_neg e];exact (World.cell?_setCell_other wr _ _ u (by intro e'; injection e' with _ e'; omega)).trans (d p hp)
theorem NMem.setTab (h:NMem w wr l n g1 gt Bt g Ba c1 V F) (u:Value):NMem w (wr.setCell ⟨gt,1,none⟩ u) l n g1 gt Bt g Ba c1 u F:=by
 obtain ⟨e,o1,o2,o3,o4,o5,o6,t,a,b,c,d⟩:=h;refine ⟨e.setCell (by show w.heap.size≤gt; omega) _,o1,o2,o3,o4,o5,by simpa using o6,fun p hp=>?_,a.set_ 1 u,b.far (by show Bt≠gt; omega) _,c.far (by show Ba≠gt; omega) _,fun p hp=>?_⟩
 ·exact (World.cell?_setCell_other wr _ _ u (by intro e; injection e with e; omega)).trans (t p hp)
 ·exact (World.cell?_setCell_other wr _ _ u (by intro e; injection e with e; omega)).trans (d p hp)
end
theorem Qdw (w:World) {ops:Array Oper} {rest:List Oper} {o:Oper} {a:Act} {Q:Exit→Act→World→Prop} (hgd:o.guard=none) (s x:Operand)
  (ho:o.op = .call { callee:=.builtin .append,args:=#[s,x],argTypes:=#[63,63] })
  (base:Nat) (v:Value) (n:Nat) (l:List ByteArray) (hs:a.eval s=v) (B:Nat) (A:Option Addr) (m c:Nat) (news:List ByteArray) (hx:a.eval x = .slice A m c)
  (hown:w.ownsRow base 9 1 v n (Qg l)) (hr:Reads w B 1 A m (Qg news)) (hn:n + m≤8796093022208) (hbase:base≤w.heap.size)
  (h:∀ A' c' w',w'.ownsRow base 9 1 (.slice A' (n + m) c') (n + m) (Qg (l ++ news))→w.grownBy w' v.ownBlock→(Value.ownBlock (.slice A' (n + m) c')=v.ownBlock∨Value.ownBlock (.slice A' (n + m) c')=some w.heap.size)→wpList Tryz.prog ops Q rest (a.put o.dst (.slice A' (n + m) c')) w'):wpList Tryz.prog ops Q (o :: rest) a w:=by
 obtain ⟨i0,hi,hz,hs2,hb⟩:=Qdu;refine Qp w hgd s x 63 ho base 9 i0 _ 1 16 Tryz.underlying63 hi hz hs2 hb rfl (by decide) v n (Qg l) hs hown B A m c (Qg news) hx hr (fun u hu=>by
  unfold Qg at hu;obtain ⟨y,_,rfl⟩:=List.mem_map.1 hu;rfl) (by unfold maxLen; omega) (by omega) hbase ?_
 rw [← Qbj];exact h
theorem Qfq (w:World) {ops:Array Oper} {o:Oper} {a:Act} {K:Act→World→Prop} {Q:Exit→Act→World→Prop} {E:Prop} (hgd:o.guard=none) (s x:Operand)
  (ho:o.op = .call { callee:=.builtin .append,args:=#[s,x],argTypes:=#[58,58] })
  (base:Nat) (v:Value) (n:Nat) (l:List Nat) (hs:a.eval s=v) (g:Nat) (u:Nat) (c:Nat) (hx:a.eval x = .slice (some ⟨g,0,none⟩) 1 c)
  (hown:w.ownsRow base 3 1 v n (natCells l)) (hr:Reads w (g + 1) 1 (some ⟨g,0,none⟩) 1 [.int .i64 (u:Int)]) (hn:n≤1073741823) (hbase:base≤w.heap.size)
  (h:∀ A' c' w',w'.ownsRow base 3 1 (.slice A' (n + 1) c') (n + 1) (natCells (l ++ [u]))→w.grownBy w' v.ownBlock→K (a.put o.dst (.slice A' (n + 1) c')) w') :
  if Region.wanted o (yielded ops a.tmps)=true then Oper.wp Tryz.prog o a w K Q else E:=by
 obtain ⟨i0,hi,hz,hs2,hb⟩:=info_int;refine Qec w hgd s x 58 ho base 3 i0 _ 1 8 Tryz.underlying58 hi hz hs2 hb rfl (by decide) v n (natCells l) hs hown (g + 1) _ 1 c [.int .i64 (u:Int)] hx hr (fun y hy=>by rw [List.mem_singleton.1 hy]; rfl) (by unfold maxLen; omega) (by omega) hbase ?_
 intro v' w' h2 h3 _;have hv:∃ A' c',v' = .slice A' (n + 1) c':=by
  rcases h2.2 with ⟨e,h0⟩ | ⟨g,cap,cur,e,_⟩
  ·omega
  ·exact ⟨_,_,e⟩
 obtain ⟨A',c',hv⟩:=hv;rw [hv] at h2 ⊢;refine h A' c' w' ?_ h3;have:natCells (l ++ [u])=natCells l ++ [.int .i64 (u:Int)]:=by simp [natCells]
 rw [this];exact h2
def Qkx (l:List ByteArray) (w:World) (e:Ending) (w':World):Prop:=∃ g,e = .returned (.pointer (some ⟨g,0,none⟩))∧TabAt w' g l∧Ext w w'
def NewBPost (l:List ByteArray) (w:World) (e:Ending) (w':World):Prop:=∃ g,e = .returned (.pointer (some ⟨g,0,none⟩))∧TabB w' (fun i=>w.heap.size≤i) g l∧Ext w w'
theorem NewBPost.new {l:List ByteArray} {w:World} {e:Ending} {w':World} (h:NewBPost l w e w'):Qkx l w e w':=by
 obtain ⟨g,h1,h2,h3⟩:=h;exact ⟨g,h1,h2.tab,h3⟩
theorem own_base {w:World} {base size n c:Nat} {e:TypeId} {A:Option Addr} {xs:List Value} (h:w.ownsRow base e size (.slice A n c) n xs):∀ a,A=some a→base≤a.block:=by
 intro a ha;rcases h.2 with ⟨hv,_⟩ | ⟨g,cap,cur,hv,hb,_⟩
 ·injection hv with h1; rw [ha] at h1; cases h1
 ·injection hv with h1; rw [ha] at h1; injection h1 with h1; rw [h1]; exact hb
theorem Qp3 {w wr:World} {l:List ByteArray} {n g1 gt Bt g Ba c1:Nat} {V:Value} (h:NMem w wr l n g1 gt Bt g Ba c1 V (fun p=>.int .i64 (p:Int))) (hln:l.length=n) (h0:0 < n) (hn:n≤1000000) (hfz:∀ p,p < n→wr.frozen? ⟨g,p,none⟩=false) :
  Calls Tryz.prog 97 #[.iface 58 (.slice (some ⟨g,0,none⟩) n n),.func (.func 98) #[] #[.pointer (some ⟨Ba,0,none⟩),.pointer (some ⟨Bt,0,none⟩)]] wr (fun e w'=>e = .returned (.tuple #[])∧∃ ps,SortedAt l ps∧NMem w w' l n g1 gt Bt g Ba c1 V (fun p=>.int .i64 (ps.getD p 0:Nat))):=by
 have b0:=h.avar.cell 0;have b1:=h.tvar.cell 0;have b2:=h.tab.cell 0;simp only [gA,gH] at b0 b1 b2;have:=h.o1; have:=h.o2; have:=h.o3; have:=h.o4; have:=h.o5; have:=h.o6
 by_cases h2:2≤n
 ·refine (Qp2 g g1 0 n c1 Ba Bt gt n l wr hln h2 (by omega) b0 b1 b2 (fun p hp=>by rw [Nat.zero_add]; exact h.texts p hp) (by omega) (by omega) (by omega) (by omega) (by omega) (by omega) (by omega) (by omega) (by omega) (fun t ht=>⟨h.row t ht,hfz t ht⟩)).mono ?_
  rintro e w' ⟨rfl,ps,hps,hN,hg⟩;refine ⟨rfl,ps,hps,?_⟩;have hk:∀ b,b < wr.heap.size→b≠g→w'.heap[b]? = wr.heap[b]?:=fun b hb hne=>hg.block b hb (by simpa using hne)
  obtain ⟨bo,oo,e,_,hc⟩:=hN.cell (by rw [hps.len]; omega)
  injection e with e
  injection e with e1 e2
  subst e1 e2;refine ⟨⟨hg.os.trans h.ext.os,hg.tape.trans h.ext.tape,hg.output.trans h.ext.output,Nat.le_trans h.ext.size hg.size,fun b hb=>(hk b (by omega) (by omega)).trans (h.ext.block b hb)⟩,h.o1,h.o2,h.o3,h.o4,h.o5,by have:=hg.size; omega,
   fun p hp=>(Qdv (hk g1 (by omega) (by omega))).trans (h.texts p hp),(hk gt (by omega) (by omega)).trans h.tab,(hk Bt (by omega) (by omega)).trans h.tvar,(hk Ba (by omega) (by omega)).trans h.avar,fun p hp=>?_⟩
  have hpl:p < ps.length:=by rw [hps.len]; omega
  rw [O_at hpl,← hc p hpl,Nat.zero_add]
 ·obtain rfl:n=1:=by omega
  have ht:=Any.sort_Slice_tiny Tryz.sl6 58 3 snT snE (by kernel_rfl) (by kernel_rfl) (by kernel_rfl) (by kernel_rfl) 2 (fun _=>by kernel_rfl)
   (some ⟨g,0,none⟩) 1 1 (by omega) 145 (by kernel_rfl) (.func 98) #[] #[.pointer (some ⟨Ba,0,none⟩),.pointer (some ⟨Bt,0,none⟩)] wr
  refine ht.mono ?_;rintro e w' ⟨rfl,os,rfl⟩;have hE:Ext wr (grow wr os):=⟨rfl,rfl,rfl,by simp [grow],fun k hk=>by simp only [grow]; rw [Array.getElem?_append_left hk]⟩
  refine ⟨rfl,[0],⟨by simp [hln],by simp [hln],fun p hp=>by simp; omega,fun i j hi hj=>by simp at hj; omega⟩,?_⟩
  have h':=h.later hE;exact ⟨h'.ext,h'.o1,h'.o2,h'.o3,h'.o4,h'.o5,h'.o6,h'.texts,h'.tab,h'.tvar,h'.avar,fun p hp=>by
   obtain rfl:p=0:=by omega
   exact h'.row 0 hp⟩
def Qun (w:World) (l:List ByteArray) (n g1 gt Ba c1:Nat) (ps:List Nat) (k:Nat) (wx:World):Prop :=
 ∃ (Ao:Option Addr) (co:Nat) (O:List Nat) (m:Nat),NMem w wx l n g1 gt (gt + 1) (gt + 1 + 1) Ba c1 (.slice Ao m co) (fun p=>.int .i64 (ps.getD p 0:Nat))∧wx.ownsRow (Ba + 1) 3 1 (.slice Ao m co) m (natCells O)∧Hid (FirstsTo l ps k O∧m=O.length)
set_option maxRecDepth 100000 in
set_option maxHeartbeats 4000000 in
theorem Qmq (A : Option Addr) (c n : Nat) (l : List ByteArray) (w : World) (h : StrAt w w.heap.size A l) (hln : l.length = n) (h0 : 0 < n) (hn : n ≤ 1000000) :
    Calls Tryz.prog 62 #[.slice A n c] w (NewBPost l w) := by
  obtain ⟨i0, hi, hz0, hz1, hz2⟩ := info_int;have hR : Reads w w.heap.size 1 A n (Qg l) := by rw [← hln]; exact h
  have HLN := hide hln;have HR := hide hR;clear h hR hln;go_enter Tryz.func62, Tryz.ntmps62
  go_wp2_with (at_builtin; refine Qdw _ rfl _ _ rfl w.heap.size _ 0 [] rfl w.heap.size A n c l rfl (World.ownsRow_nil _ _ _ _) HR.out (by omega) (Nat.le_refl _) ?_)
  intro A1 c1 w1 hown hgrow _;obtain ⟨g1, rfl, ho1, ho2, hcl, _⟩ := own_cell1 hown h0;have hE1 := ext_of_grown hgrow;have htx : ∀ p, p < n → w1.cell? ⟨g1, p, none⟩ = some (.string (sAt l p)) := fun p hp => by
    have hpl : p < l.length := by rw [HLN.out]; exact hp
    rw [hcl p hp, sAt_eq hpl];simp [Qg, hpl]
  have HTX := hide htx;have HE1 := hide hE1;clear hown hgrow hcl hE1 htx;go_wp2_with (at_make; refine wpList_make_full _ rfl _ _ 58 rfl w1.heap.size 3 i0 (.int .i64 0) 1 Tryz.underlying58 hi hz0 hz1 _ _ _ _ n rfl rfl rfl rfl ?c1 ?c2 (by simp; omega) ?_)
  case c1 => rw [hz2]; omega
  case c2 => unfold maxLen; omega
  intro w2 hown2 hgrow2;have hE2 := ext_of_grown hgrow2;have hg2 := (hown2.lt (w1.heap.size + 1 + 1) rfl).2;have hN0 : NMem w (w2.alloc (.cells #[.slice (some ⟨w1.heap.size + 1 + 1, 0, none⟩) n n] 58)) l n g1 w1.heap.size (w1.heap.size + 1) (w1.heap.size + 1 + 1) w2.heap.size c1 (.slice none 0 0) (fun p => .int .i64 ((if p < 0 then p else 0 : Nat) : Int)) := by
    have hX1 : Ext w1 w2 := Ext.trans' (((Ext.rfl' w1).alloc (Nat.le_refl _) _).alloc (by simp) _) hE2
    have hX2 : Ext w1 (w2.alloc (.cells #[.slice (some ⟨w1.heap.size + 1 + 1, 0, none⟩) n n] 58)) := hX1.alloc hX1.size _;have hX3 : Ext w2 (w2.alloc (.cells #[.slice (some ⟨w1.heap.size + 1 + 1, 0, none⟩) n n] 58)) := (Ext.rfl' w2).alloc (Nat.le_refl _) _;refine ⟨HE1.out.trans' hX2, ho1, ho2, by omega, by omega, hg2, by simp, fun p hp => (hX2.cell (p := ⟨g1, p, none⟩) ho2).trans (HTX.out p hp), ?_, ?_, Blk.new _ _ _, fun p hp => ?_⟩
    · exact (((Blk.new w1 170 #[.slice (some ⟨g1, 0, none⟩) n c1, .slice none 0 0]).alloc _).ext hE2).ext hX3
    · exact ((Blk.new_at' (w1.alloc (.cells #[.slice (some ⟨g1, 0, none⟩) n c1, .slice none 0 0] 170)) 81 #[.pointer (some ⟨w1.heap.size, 0, none⟩)] (by simp)).ext hE2).ext hX3
    · refine (hX3.cell (p := ⟨w1.heap.size + 1 + 1, p, none⟩) hg2).trans ?_
      rw [hown2.cellAt p (by omega)]
      simp [madeCells, hp, Nat.mod_one]
  have hfz : ∀ p, p < n → (w2.alloc (.cells #[.slice (some ⟨w1.heap.size + 1 + 1, 0, none⟩) n n] 58)).frozen? ⟨w1.heap.size + 1 + 1, p, none⟩ = false := fun p _ => by
    have hX3 : Ext w2 (w2.alloc (.cells #[.slice (some ⟨w1.heap.size + 1 + 1, 0, none⟩) n n] 58)) := (Ext.rfl' w2).alloc (Nat.le_refl _) _;exact (hX3.frozen (p := ⟨w1.heap.size + 1 + 1, p, none⟩) hg2).trans (hown2.frozenAt p)
  have HN0 := hide hN0;have HFZ := hide hfz;clear hown2 hgrow2 hE2 hN0 hfz;obtain ⟨gt, hgt⟩ : ∃ x, x = w1.heap.size := ⟨_, rfl⟩;obtain ⟨Ba, hBa⟩ : ∃ x, x = w2.heap.size := ⟨_, rfl⟩;rw [← hgt] at HN0 HFZ hg2 ho2 ⊢;rw [← hBa] at HN0 hg2;have HBA := hide hBa;clear hgt hBa;go_wp2_with fail
  rw [← HBA.out];go_loopw [17] (fun i wr => ∃ k : Nat, k ≤ n ∧ i = .int .i64 k ∧ NMem w wr l n g1 gt (gt + 1) (gt + 1 + 1) Ba c1 (.slice none 0 0) (fun p => .int .i64 ((if p < k then p else 0 : Nat) : Int)) ∧ Hid (∀ p, p < n → wr.frozen? ⟨gt + 1 + 1, p, none⟩ = false)) (fun i _ => n - (intOf i).toNat)
  case atStart => exact ⟨0, Nat.zero_le _, rfl, HN0.out, HFZ.out⟩
  case round =>
    obtain ⟨k, hk, rfl, hN, HF⟩ := hrel;have HN := hide hN;have b0 := hN.avar.cell 0;simp only [List.getElem?_toArray, List.getElem?_cons_zero] at b0;have o6 := hN.o6;clear hN;by_cases hlt : k < n
    · have d1 := HN.out.row k hlt
      have d2 := HF.out k hlt;rw [if_neg (by omega)] at d1
      go_wp2_with fail
      go_roundw
      case rel =>
        refine ⟨k + 1, by omega, by go_num, (HN.out.set k (.int .i64 (k : Int)) hlt).congr fun p hp => ?_, fun p hp => by rw [World.frozen?_setCell]; exact HF.out p hp⟩
        by_cases e : p = k
        · subst e; rw [if_pos rfl, if_pos (by omega)]
        · rw [if_neg e]
          by_cases e2 : p < k
          · rw [if_pos e2, if_pos (by omega)]
          · rw [if_neg e2, if_neg (by omega)]
      case measure => simp [intOf]; omega
    · obtain rfl : n = k := by omega
      have hM := HN.out.congr (F' := fun p => .int .i64 (p : Int)) fun p hp => by rw [if_pos hp]
      have HS := hide (Qp3 hM HLN.out h0 hn HF.out);clear hM HN HF;go_wp2_with fail
      refine HS.out.mono ?_;rintro e w3 ⟨rfl, ps, hps, hM3⟩;have HPS := hide hps;have HM3 := hide hM3;have b0 := hM3.avar.cell 0;simp only [List.getElem?_toArray, List.getElem?_cons_zero] at b0;clear hps hM3 HS;go_wp2_with fail
      go_loopw [31] (fun i wr => ∃ k : Nat, k ≤ n ∧ i = .int .i64 k ∧ Qun w l n g1 gt Ba c1 ps k wr) (fun i _ => n - (intOf i).toNat)
      case atStart => exact ⟨0, Nat.zero_le _, rfl, none, 0, [], 0, HM3.out, World.ownsRow_nil _ _ _ _, ⟨firsts_nil l ps, rfl⟩⟩
      case round =>
        obtain ⟨k, hk, rfl, Ao, co, O, m, hM, hO, HF⟩ := hrel;have HM := hide hM;have HO := hide hO;have o6' := hM.o6;have hmk : m ≤ k := by rw [HF.out.2]; exact HF.out.1.short
        clear hM hO;by_cases hlt : k < n
        · have hkp : k < ps.length := by rw [HPS.out.len, HLN.out]; exact hlt
          have hpk : ps.getD k 0 = ps[k] := O_at hkp;have hpn : ps.getD k 0 < n := by rw [hpk, ← HLN.out]; exact HPS.out.lt _ (List.getElem_mem hkp)
          have d1 := HM.out.row k hlt;have d2 := HM.out.texts _ hpn;have hnew : ∀ _ : (∀ _ : 0 < k, sAt l ps[k] ≠ sAt l ps[k - 1]), FirstsTo l ps (k + 1) (O ++ [ps.getD k 0]) := fun h => by rw [hpk]; exact Qoe HPS.out HF.out.1 hkp h
          have hskip : ∀ _ : 0 < k, sAt l ps[k] = sAt l ps[k - 1] → FirstsTo l ps (k + 1) O := fun h e => Qmn HF.out.1 hkp h e
          rw [← hpk] at hnew hskip;obtain ⟨p, hp⟩ : ∃ p, p = ps.getD k 0 := ⟨_, rfl⟩;rw [← hp] at d1 d2 hpn hnew hskip;obtain ⟨x, hx⟩ : ∃ x, x = sAt l p := ⟨_, rfl⟩;rw [← hx] at d2 hnew hskip;have b1 := HM.out.tvar.cell 0;have b2 := HM.out.tab.cell 0;have b3 := HM.out.avar.cell 0;simp only [List.getElem?_toArray, List.getElem?_cons_zero] at b1 b2 b3;have HP := hide hp;have HX := hide hx;have HPK := hide hpk;have HNEW := hide hnew;have HSKIP := hide hskip;clear hp hx hpk hnew hskip;go_upto_block 3 with fail
          go_cut [] (fun wx => Qun w l n g1 gt Ba c1 ps (k + 1) wx)
          case first =>
            rcases Nat.eq_zero_or_pos k with hk0 | hk0
            · have HFN := hide (HNEW.out (fun h => absurd h (by omega)))
              subst hk0;go_wp2_with fail
              go_quiet (fail)
              clear b1 b2 b3 d1 d2;have HMq := hide (HM.out.later (below_drewN (Ext.rfl' wr) nq));have HOq := hide (own_ext HO.out (below_drewN (Ext.rfl' wr) nq));obtain ⟨wq, hwq⟩ : ∃ wq, wq = wr.drewN nq := ⟨_, rfl⟩;rw [← hwq] at HMq HOq ⊢;clear hwq;have b1 := HMq.out.tvar.cell 0;have b2 := HMq.out.tab.cell 1;have f2 := HMq.out.tab.free 1;have o7 := HMq.out.o6;have lgt := HMq.out.tab.lt;have lBt := HMq.out.tvar.lt;simp only [List.getElem?_toArray, List.getElem?_cons_zero, List.getElem?_cons_succ] at b1 b2;go_wp2_with fail
              go_region_law (first
                | (refine Qfq _ rfl _ _ rfl (Ba + 1) (.slice Ao m co) m O rfl wq.heap.size p _ rfl (by first | exact (HOq.out.alloc _).drew | exact (HOq.out.drew).alloc _) (by first | exact reads_at _ _ _ _ rfl | exact (reads_at _ _ _ _ rfl).drew) (by omega) (by simp; omega) ?_
                   intro A3 c3 w4 hown4 hgrow4;have HM4 := hide (HMq.out.grown (Ext.drew' ((Ext.rfl' wq).alloc (Nat.le_refl _) _)) hgrow4 HOq.out (Nat.lt_succ_self _));have HO4 := hide hown4;have b3 := HM4.out.tvar.cell 0;have b4 := HM4.out.tab.cell 1;have f4 := HM4.out.tab.free 1;simp only [List.getElem?_toArray, List.getElem?_cons_zero, List.getElem?_cons_succ] at b3 b4;clear hown4 hgrow4))
              all_goals
                go_wp2_with fail
                go_meet
                refine ⟨A3, c3, O ++ [p], m + 1, HM4.out.setTab _, own_far HO4.out (by intro e; have h1 := (HO4.out.lt gt e).1; have h2 := HMq.out.o3; have h3 := HMq.out.o4; have h4 := HMq.out.o5; omega) _, ⟨?_, by have := HF.out.2; simp; omega⟩⟩
                exact HFN.out
            · obtain ⟨j, rfl⟩ : ∃ j, k = j + 1 := ⟨k - 1, by omega⟩
              have hjp : j < ps.length := by omega
              have hqk : ps.getD j 0 = ps[j] := O_at hjp;have hqn : ps.getD j 0 < n := by rw [hqk, ← HLN.out]; exact HPS.out.lt _ (List.getElem_mem hjp)
              have d3 := HM.out.row j (by omega)
              have d4 := HM.out.texts _ hqn;have hy : sAt l (ps[j + 1 - 1]'(by omega)) = sAt l (ps.getD j 0) := by rw [hqk]; rfl
              obtain ⟨q, hq⟩ : ∃ q, q = ps.getD j 0 := ⟨_, rfl⟩;obtain ⟨y, hyy⟩ : ∃ y, y = sAt l (ps.getD j 0) := ⟨_, rfl⟩;rw [← hyy] at hy d4;rw [← hq] at hqn d3 d4;have HY := hide hy;have hj1 : ((j : Int) + 1 == 0) = false := by simp; omega
              have hw : IntKind.i64.wrap ((j : Int) + 1 - 1) = (j : Int) := by rw [Int.add_sub_cancel]; exact IntWalk.i64_in _ (by omega)
              clear hy hq hyy hqk;have hxy := Q8 x y;by_cases e : x = y
              · have HFN := hide (HSKIP.out (Nat.succ_pos j) (by rw [HY.out]; exact e))
                subst e;clear hxy;go_wp2_with fail
                go_quiet (fail)
                go_wp2_with fail
                go_meet
                exact ⟨Ao, co, O, m, HM.out.later (below_drewN (Ext.rfl' wr) nq), own_ext HO.out (below_drewN (Ext.rfl' wr) nq), ⟨HFN.out, HF.out.2⟩⟩
              · have HFN := hide (HNEW.out (fun _ => by rw [HY.out]; exact e))
                have hne : (x.toList == y.toList) = false := by rw [hxy]; simpa using e
                clear hxy e;go_wp2_with fail
                go_quiet (fail)
                clear d3 d4 hne hw hj1;clear b1 b2 b3 d1 d2;have HMq := hide (HM.out.later (below_drewN (Ext.rfl' wr) nq));have HOq := hide (own_ext HO.out (below_drewN (Ext.rfl' wr) nq));obtain ⟨wq, hwq⟩ : ∃ wq, wq = wr.drewN nq := ⟨_, rfl⟩;rw [← hwq] at HMq HOq ⊢;clear hwq;have b1 := HMq.out.tvar.cell 0;have b2 := HMq.out.tab.cell 1;have f2 := HMq.out.tab.free 1;have o7 := HMq.out.o6;have lgt := HMq.out.tab.lt;have lBt := HMq.out.tvar.lt;simp only [List.getElem?_toArray, List.getElem?_cons_zero, List.getElem?_cons_succ] at b1 b2;go_wp2_with fail
                go_region_law (first
                  | (refine Qfq _ rfl _ _ rfl (Ba + 1) (.slice Ao m co) m O rfl wq.heap.size p _ rfl (by first | exact (HOq.out.alloc _).drew | exact (HOq.out.drew).alloc _) (by first | exact reads_at _ _ _ _ rfl | exact (reads_at _ _ _ _ rfl).drew) (by omega) (by simp; omega) ?_
                     intro A3 c3 w4 hown4 hgrow4;have HM4 := hide (HMq.out.grown (Ext.drew' ((Ext.rfl' wq).alloc (Nat.le_refl _) _)) hgrow4 HOq.out (Nat.lt_succ_self _));have HO4 := hide hown4;have b3 := HM4.out.tvar.cell 0;have b4 := HM4.out.tab.cell 1;have f4 := HM4.out.tab.free 1;simp only [List.getElem?_toArray, List.getElem?_cons_zero, List.getElem?_cons_succ] at b3 b4;clear hown4 hgrow4))
                all_goals
                  go_wp2_with fail
                  go_meet
                  refine ⟨A3, c3, O ++ [p], m + 1, HM4.out.setTab _, own_far HO4.out (by intro e; have h1 := (HO4.out.lt gt e).1; have h2 := HMq.out.o3; have h3 := HMq.out.o4; have h4 := HMq.out.o5; omega) _, ⟨?_, by have := HF.out.2; simp; omega⟩⟩
                  exact HFN.out
          case rest =>
            clear b1 b2 b3 d1 d2;go_wp2_with fail
            go_roundw
            case rel => exact ⟨k + 1, by omega, by go_num, hcut⟩
            case measure => simp [intOf]; omega
        · obtain rfl : n = k := by omega
          have b1 := HM.out.tvar.cell 0;simp only [List.getElem?_toArray, List.getElem?_cons_zero] at b1;have ht : TabB wr (fun i => w.heap.size ≤ i) gt l := by
            have hM := HM.out;have hO := Reads.of_own HO.out;have hF := HF.out.1;have hm := HF.out.2;have hl := HLN.out;have hpl := HPS.out.len;subst hm;rw [← hl] at hM;have ob := own_base HO.out;refine ⟨some ⟨g1, 0, none⟩, c1, Ao, co, O, hM.tab, ⟨by simp [Qg], fun _ => ⟨_, rfl, by show g1 < _; have h1 := hM.o2; have h2 := hM.o3; have h3 := hM.o4; have h4 := hM.o5; have h5 := hM.o6; omega, fun j u hu => ?_⟩⟩, hO, ?_, by omega, by have h1 := hM.o1; have h2 := hM.o2; omega, fun a ha => by injection ha with ha; rw [← ha]; exact hM.o1, fun a ha => by have := ob a ha; have h1 := hM.o1; have h2 := hM.o2; have h3 := hM.o3; have h4 := hM.o4; have h5 := hM.o5; omega⟩
            · have e : (⟨g1, 0, none⟩ : Addr).add j = ⟨g1, j, none⟩ := by unfold Addr.add; split <;> simp_all
              have hj : j < l.length := by
                have := (List.getElem?_eq_some_iff.1 hu).1;simpa [Qg] using this
              rw [e, hM.texts j hj, ← hu, sAt_eq hj];simp [Qg, hj]
            · refine Qof HPS.out ?_
              rw [hpl, hl];exact hF
          have HT := hide ht;have HEW := hide HM.out.ext;clear ht HF;go_wp2_with fail
          go_ret
          exact ⟨gt, rfl, HT.out, HEW.out⟩
set_option maxRecDepth 100000 in
theorem Qky (A:Option Addr) (c:Nat) (w:World) :
  Calls Tryz.prog 62 #[.slice A 0 c] w (NewBPost [] w):=by
 obtain ⟨i0,hi,hz0,hz1,hz2⟩:=info_int;go_enter Tryz.func62,Tryz.ntmps62
 go_wp2_with (at_builtin; refine Qdw _ rfl _ _ rfl w.heap.size _ 0 [] rfl w.heap.size A 0 c [] rfl (World.ownsRow_nil _ _ _ _) ⟨rfl,fun h=>absurd h (by omega)⟩ (by omega) nL ?_)
 intro A1 c1 w1 hown hgrow _;obtain ⟨HE1,HOB⟩:=Z2 (ext_of_grown hgrow) (own_base hown);clear hown hgrow;go_wp2_with (at_make; refine wpList_make_full _ rfl _ _ 58 rfl w1.heap.size 3 i0 (.int .i64 0) 1 Tryz.underlying58 hi hz0 hz1 _ _ _ _ 0 rfl rfl rfl rfl ?c1 ?c2 (by simp; omega) ?_)
 case c1=>rw [hz2]; omega
 case c2=>unfold maxLen; omega
 intro w2 hown2 hgrow2;have hE2:=ext_of_grown hgrow2;have hX1:Ext w1 w2:=Ext.trans' (((Ext.rfl' w1).alloc nL _).alloc (by simp) _) hE2
 obtain ⟨HT,HV,HX⟩:=Z3 (((Blk.new w1 170 #[.slice A1 0 c1,.slice none 0 0]).alloc (.cells #[.pointer (some ⟨w1.heap.size,0,none⟩)] 81)).ext hE2) ((Blk.new_at' (g:=w1.heap.size + 1) (w1.alloc (.cells #[.slice A1 0 c1,.slice none 0 0] 170)) 81 #[.pointer (some ⟨w1.heap.size,0,none⟩)] (by simp)).ext hE2) hX1
 have hown2g:=(hown2.lt (w1.heap.size + 1 + 1) rfl).2;clear hown2 hgrow2 hE2 hX1;obtain ⟨HG,HA,HXA⟩:=Z3 (hown2g) (Blk.new w2 58 #[.slice (some ⟨w1.heap.size + 1 + 1,0,none⟩) 0 0]) ((Ext.rfl' w2).alloc nL (.cells #[.slice (some ⟨w1.heap.size + 1 + 1,0,none⟩) 0 0] 58));go_wp2_with fail
 obtain ⟨w3,hw3⟩:=V1 (w2.alloc (.cells #[.slice (some ⟨w1.heap.size + 1 + 1,0,none⟩) 0 0] 58));rw [← hw3] at HA HXA ⊢;clear hw3;go_loopw [17] (fun i wr=>i = .int .i64 0∧w3=wr) (fun _ _=>0)
 case atStart=>exact ⟨rfl,rfl⟩
 case round =>
  obtain ⟨rfl,rfl⟩:=hrel;have a0:=HA.out.cell 0;simp only [gA,gH] at a0;have HS:=hide (Any.sort_Slice_tiny Tryz.sl6 58 3 snT snE (by kernel_rfl) (by kernel_rfl) (by kernel_rfl) (by kernel_rfl) 2 (fun _=>by kernel_rfl)
   (some ⟨w1.heap.size + 1 + 1,0,none⟩) 0 0 (by omega) 144 (by kernel_rfl) (.func 98) #[] #[.pointer (some ⟨w2.heap.size,0,none⟩),.pointer (some ⟨w1.heap.size + 1,0,none⟩)] w3)
  go_wp2_with fail
  refine HS.out.mono ?_;rintro e w4 ⟨rfl,os,rfl⟩;have hE4:Ext w3 (grow w3 os):=⟨rfl,rfl,rfl,by simp [grow],fun k hk=>by simp only [grow]; rw [Array.getElem?_append_left hk]⟩
  obtain ⟨w4,hw4⟩:=V1 (grow w3 os);rw [← hw4] at hE4 ⊢;have a1:=(HA.out.ext hE4).cell 0;have v1:=((HV.out.ext HXA.out).ext hE4).cell 0;simp only [gA,gH] at a1 v1;obtain ⟨HT4,HE4⟩:=Z2 ((HT.out.ext HXA.out).ext hE4) (((HE1.out.trans' HX.out).trans' HXA.out).trans' hE4);clear hw4 hE4 a0 HS;go_wp2_with fail
  go_loopw [31] (fun i wr=>i = .int .i64 0∧w4=wr) (fun _ _=>0)
  case atStart=>exact ⟨rfl,rfl⟩
  case round =>
   obtain ⟨rfl,rfl⟩:=hrel;go_wp2_with fail
   go_ret
   exact ⟨w1.heap.size,rfl,⟨A1,c1,none,0,[],HT4.out,⟨rfl,fun h=>absurd h (by simp)⟩,⟨rfl,fun h=>absurd h (by simp)⟩,⟨by simp,List.Pairwise.nil,fun q hq=>by simp at hq,Nat.le_refl _⟩,by simp,HE1.out.size,HOB.out,fun a ha=>by cases ha⟩,HE4.out⟩
theorem Qg9 (A:Option Addr) (c n:Nat) (l:List ByteArray) (w:World) (h:StrAt w w.heap.size A l) (hln:n=l.length) (hn:n≤1000000) :
  Calls Tryz.prog 62 #[.slice A n c] w (NewBPost l w):=by
 rcases Nat.eq_zero_or_pos n with h0 | h0
 ·subst h0;obtain rfl:l = []:=List.length_eq_zero_iff.1 hln.symm;exact Qky A c w
 ·exact Qmq A c n l w h hln.symm h0 hn
theorem Qib (A:Option Addr) (c n:Nat) (l:List ByteArray) (w:World) (h:StrAt w w.heap.size A l) (hln:n=l.length) (hn:n≤1000000) :
  Calls Tryz.prog 62 #[.slice A n c] w (Qkx l w) :=
 (Qg9 A c n l w h hln hn).mono fun _ _ h=>h.new
end Go.Proofs.YtanpljalbijfkaaGreat
