/- . -/
import Derived.Test.YtanpljalbijfkaaGreatQ21
import Derived.Deep.RegionHeld3
namespace Go.Proofs.YtanpljalbijfkaaGreat
open Go.RowKit
set_option maxHeartbeats 16000000
def XN (gp:Nat) (A:Option Addr) (i:Nat):Prop:=i=gp∨∃ a,A=some a∧a.block=i
structure NSt (wK:World) (gp:Nat) (gl gt n cn:Nat) (An:Option Addr) (w:World) (A:Option Addr) (c:Nat) (L:List NodeP) (U:Nat→Prop):Prop where
 mv:Mv (fun i=>i=gp) wK w
 plan:Blk w gp 83 #[.pointer (some ⟨gl,0,none⟩),.slice A L.length c,.int .i64 0,.pointer (some ⟨gt,0,none⟩),.slice An n cn]
 row:∃ xs,w.ownsRow wK.heap.size 66 7 (.slice A L.length c) L.length xs∧∀ k (hk:k < L.length),ElAt w L[k] U ((xs.drop (k * 7)).take 7)
 free:∀ i,U i→i < w.heap.size∧¬ XN gp A i
def NStep (wK:World) (gp gl gt n cn:Nat) (An:Option Addr) (w:World) (A:Option Addr) (U:Nat→Prop) (L':List NodeP) (w':World):Prop :=
 ∃ A' c' U',NSt wK gp gl gt n cn An w' A' c' L' U'∧Mv (XN gp A) w w'∧(∀ a,A'=some a→A=some a∨w.heap.size≤a.block)∧∀ i,U' i→U i∨w.heap.size≤i
section
variable {wK w w' w2:World} {gp gl gt n cn c:Nat} {An A:Option Addr} {L:List NodeP} {U:Nat→Prop}
theorem NSt.ownA (h:NSt wK gp gl gt n cn An w A c L U):∀ a,A=some a→wK.heap.size≤a.block∧a.block < w.heap.size:=by
 obtain ⟨xs,ho,_⟩:=h.row
 intro a ha
 refine ⟨Qcj ho a ha,?_⟩
 rcases ho.2 with ⟨hv,_⟩ | ⟨g,cap,cur,hv,hb,hh,_⟩
 ·injection hv with h1; rw [ha] at h1; cases h1
 ·injection hv with h1; rw [ha] at h1; injection h1 with h1; rw [h1]
  rcases Nat.lt_or_ge g w.heap.size with hlt | hge
  ·exact hlt
  ·rw [Array.getElem?_eq_none hge] at hh; cases hh
theorem NSt.keep (h:NSt wK gp gl gt n cn An w A c L U) {Y:Nat→Prop} (hm:Mv Y w w') (hY:∀ i,Y i→wK.heap.size≤i) (hgp:¬ Y gp) (hA:∀ a,A=some a→¬ Y a.block) (hU:∀ i,U i→¬ Y i):NSt wK gp gl gt n cn An w' A c L U:=by
 obtain ⟨h1,h2,⟨xs,h3,h4⟩,h5⟩:=h
 refine ⟨h1.trans' hm fun i hi _ hy=>absurd hi (Nat.not_lt.2 (hY i hy)),hm.blk h2 hgp,⟨xs,hm.own h3 fun g hg=>?_,fun k hk=>(h4 k hk).mv hm fun i hi=>⟨hU i hi,hi⟩⟩,fun i hi=>⟨Nat.lt_of_lt_of_le (h5 i hi).1 hm.size,(h5 i hi).2⟩⟩
 rcases h3.2 with ⟨hv,_⟩ | ⟨g',cap,cur,hv,_⟩
 ·rw [hv] at hg; cases hg
 ·injection hv with hv1
  have e:g'=g:=by rw [hv1] at hg; simpa [Value.ownBlock] using hg
  have:=hA _ hv1
  rw [← e]; exact this
theorem NSt.ext (h:NSt wK gp gl gt n cn An w A c L U) (hE:Ext w w'):NSt wK gp gl gt n cn An w' A c L U :=
 h.keep (Y:=fun _=>False) (Mv.of_ext hE) (fun _ hh=>hh.elim) (fun hh=>hh) (fun _ _ hh=>hh) (fun _ _ hh=>hh)
theorem NStep.refl (h:NSt wK gp gl gt n cn An w A c L U):NStep wK gp gl gt n cn An w A U L w :=
 ⟨A,c,U,h,Mv.rfl' _ _,fun _ ha=>.inl ha,fun _ hi=>.inl hi⟩
theorem NStep.ext {L':List NodeP} (h:NStep wK gp gl gt n cn An w A U L' w') (hE:Ext w' w2):NStep wK gp gl gt n cn An w A U L' w2:=by
 obtain ⟨A',c',U',h1,h2,h3,h4⟩:=h
 exact ⟨A',c',U',h1.ext hE,h2.ext hE,h3,h4⟩
theorem XN.trans {A':Option Addr} (hA:∀ a,A'=some a→A=some a∨w.heap.size≤a.block):∀ i,i < w.heap.size→¬ XN gp A i→¬ XN gp A' i:=by
 intro i hi hx hx'
 rcases hx' with h | ⟨a,ha,h⟩
 ·exact hx (.inl h)
 ·rcases hA a ha with h1 | h1
  ·exact hx (.inr ⟨a,h1,h⟩)
  ·omega
end
theorem Qal {A:Option Addr} {n c g:Nat} (h:(Value.slice A n c).ownBlock=some g):∃ a,A=some a∧a.block=g:=by
 cases A with
 | none=>cases h
 | some a=>exact ⟨a,rfl,by simpa [Value.ownBlock] using h⟩
theorem Qkz {w:World} {base size n c:Nat} {e:TypeId} {A:Option Addr} {xs:List Value} (h:w.ownsRow base e size (.slice A n c) n xs):∀ a,A=some a→a=⟨a.block,0,none⟩:=by
 intro a ha
 rcases h.2 with ⟨hv,_⟩ | ⟨g,cap,cur,hv,hb,_⟩
 ·injection hv with h1; rw [ha] at h1; cases h1
 ·injection hv with h1; rw [ha] at h1; injection h1 with h1; rw [h1]
theorem own_set {w:World} {base size n cap g j:Nat} {e:TypeId} {xs:List Value} (h:w.ownsRow base e size (.slice (some ⟨g,0,none⟩) n cap) n xs) (u:Value):(w.setCell ⟨g,j,none⟩ u).ownsRow base e size (.slice (some ⟨g,0,none⟩) n cap) n (xs.set j u):=by
 obtain ⟨hl,h2⟩:=h
 refine ⟨by rw [List.length_set]; exact hl,?_⟩
 rcases h2 with ⟨hv,_⟩ | ⟨g',cap',cur,hv,hb,hh,hn,hc,hs,ht⟩
 ·cases hv
 ·injection hv with h1 _ h3
  injection h1 with h1
  injection h1 with h1
  subst h1; subst h3
  refine .inr ⟨g,cap,cur.setIfInBounds j u,rfl,hb,Blk.set_ (show Blk w g e cur from hh) j u,hn,hc,by rw [Array.size_setIfInBounds]; exact hs,?_⟩
  rw [Array.toList_setIfInBounds,List.take_set,ht]
theorem Qes (xs:List Value) (k j:Nat) (hj:j < 7):((xs.drop (k * 7)).take 7)[j]? = xs[k * 7 + j]?:=by
 rw [List.getElem?_take_of_lt hj,List.getElem?_drop]
theorem Qiz {xs vs:List Value} {n k:Nat} (hx:xs.length=n * 7) (hk:k < n):(((xs ++ vs).drop (k * 7)).take 7)=((xs.drop (k * 7)).take 7):=by
 apply List.ext_getElem?
 intro j
 rcases Nat.lt_or_ge j 7 with hj | hj
 ·rw [Qes _ _ _ hj,Qes _ _ _ hj,List.getElem?_append_left (by omega)]
 ·rw [List.getElem?_take_eq_none hj,List.getElem?_take_eq_none hj]
theorem Qi0 {xs vs:List Value} {n:Nat} (hx:xs.length=n * 7) (hv:vs.length=7):(((xs ++ vs).drop (n * 7)).take 7)=vs:=by
 rw [← hx,List.drop_left,← hv,List.take_length]
theorem Qjv {xs:List Value} {k me j:Nat} {u:Value} (hj:j < 7) (hk:k≠me):(((xs.set (me * 7 + j) u).drop (k * 7)).take 7)=((xs.drop (k * 7)).take 7):=by
 apply List.ext_getElem?
 intro i
 rcases Nat.lt_or_ge i 7 with hi | hi
 ·rw [Qes _ _ _ hi,Qes _ _ _ hi,List.getElem?_set_ne (by omega)]
 ·rw [List.getElem?_take_eq_none hi,List.getElem?_take_eq_none hi]
theorem Qk0 {xs:List Value} {me j:Nat} {u:Value} (hj:j < 7):(((xs.set (me * 7 + j) u).drop (me * 7)).take 7)=((xs.drop (me * 7)).take 7).set j u:=by
 rw [List.drop_set,if_neg (by omega),Nat.add_sub_cancel_left,List.take_set]
section
variable {wK w w' wX:World} {gp gl gt n cn c c':Nat} {An A A':Option Addr} {L:List NodeP} {U V:Nat→Prop}
theorem NSt.push {xs vs:List Value} {nd:NodeP} (h:NSt wK gp gl gt n cn An w A c L U) (hel:∀ k (hk:k < L.length),ElAt w L[k] U ((xs.drop (k * 7)).take 7)) (hx:xs.length=L.length * 7) (hX:Ext w wX)
  (hO:w'.ownsRow wK.heap.size 66 7 (.slice A' (L.length + 1) c') (L.length + 1) (xs ++ vs)) (hg:wX.grownBy w' (Value.slice A L.length c).ownBlock)
  (hb:Value.ownBlock (.slice A' (L.length + 1) c')=(Value.slice A L.length c).ownBlock∨Value.ownBlock (.slice A' (L.length + 1) c')=some wX.heap.size)
  (hnd:ElAt w' nd V vs) (hV:∀ i,V i→i < w'.heap.size∧i≠gp∧w.heap.size≤i∧i < wX.heap.size) (hgpK:gp < wK.heap.size) :
  NSt wK gp gl gt n cn An (w'.setCell ⟨gp,1,none⟩ (.slice A' (L.length + 1) c')) A' c' (L ++ [nd]) (fun i=>U i∨V i)∧Mv (XN gp A) w (w'.setCell ⟨gp,1,none⟩ (.slice A' (L.length + 1) c'))∧∀ a,A'=some a→A=some a∨w.heap.size≤a.block:=by
 have hmX:Mv (fun i=>∃ a,A=some a∧a.block=i) wX w':=Mv.of_grown hg fun g hg'=>Qal hg'
 have hmw:Mv (fun i=>∃ a,A=some a∧a.block=i) w w':=(Mv.of_ext hX).trans hmX
 have hAK:=h.ownA
 have hbase:=Qcj hO
 have hrel:∀ a,A'=some a→A=some a∨w.heap.size≤a.block:=by
  intro a ha
  rcases hb with hb | hb
  ·rw [ha] at hb
   obtain ⟨a2,ha2,e2⟩:=Qal (A:=A) (g:=a.block) (n:=L.length) (c:=c) hb.symm
   left
   obtain ⟨xs0,ho0,_⟩:=h.row
   rw [Qkz hO a ha,← e2,← Qkz ho0 a2 ha2]
   exact ha2
  ·right
   rw [ha] at hb
   have:a.block=wX.heap.size:=by simpa [Value.ownBlock] using hb
   rw [this]; exact hX.size
 have hm1:Mv (XN gp A) w (w'.setCell ⟨gp,1,none⟩ (.slice A' (L.length + 1) c')):=(hmw.more (Y:=XN gp A) fun i _ hi=>.inr hi).set (.inr (.inl rfl)) _
 have hgp':gp < w.heap.size:=Nat.lt_of_lt_of_le hgpK h.mv.size
 have hnA:¬ ∃ a,A=some a∧a.block=gp:=fun ⟨a,ha,e⟩=>by have:=hAK a ha; omega
 have hP':=hmw.blk h.plan hnA
 have hset:Mv (fun i=>i=gp) w' (w'.setCell ⟨gp,1,none⟩ (.slice A' (L.length + 1) c')):=(Mv.rfl' (fun i=>i=gp) w').set (.inr rfl) _
 have hUa:∀ i,U i→¬ (∃ a,A=some a∧a.block=i)∧U i:=fun i hi=>⟨fun hh=>(h.free i hi).2 (.inr hh),hi⟩
 have hgU:∀ i,U i→¬ i=gp:=fun i hi e=>(h.free i hi).2 (.inl e)
 refine ⟨⟨?_,?_,⟨xs ++ vs,?_,?_⟩,?_⟩,hm1,hrel⟩
 ·refine h.mv.trans' hm1 fun i hi _ hx=>?_
  rcases hx with hx | ⟨a,ha,e⟩
  ·contradiction
  ·have:=hAK a ha; omega
 ·have:=hP'.set_ 1 (.slice A' (L.length + 1) c')
  rw [List.length_append]
  exact this
 ·rw [List.length_append]
  refine hset.own hO fun g hg' e=>?_
  obtain ⟨a,ha,e2⟩:=Qal hg'
  have:=hbase a ha
  omega
 ·intro k hk
  rw [List.length_append,List.length_singleton] at hk
  rcases Nat.lt_or_ge k L.length with hk1 | hk1
  ·rw [List.getElem_append_left hk1,Qiz hx hk1]
   exact (((hel k hk1).mv hmw hUa).mv hset fun i hi=>⟨hgU i hi,.inl hi⟩)
  ·obtain rfl:k=L.length:=by omega
   rw [List.getElem_append_right nL,Qi0 hx hnd.len]
   simp only [Nat.sub_self,gD]
   exact hnd.mv hset fun i hi=>⟨(hV i hi).2.1,.inr hi⟩
 ·intro i hi
  have hs:(w'.setCell ⟨gp,1,none⟩ (.slice A' (L.length + 1) c')).heap.size=w'.heap.size:=size_setCell' _ _ _
  rw [hs]
  rcases hi with hi | hi
  ·refine ⟨Nat.lt_of_lt_of_le (h.free i hi).1 hmw.size,fun hx=>?_⟩
   rcases hx with hx | ⟨a,ha,e⟩
   ·exact hgU i hi hx
   ·rcases hrel a ha with h1 | h1
    ·exact (h.free i hi).2 (.inr ⟨a,h1,e⟩)
    ·have:=(h.free i hi).1; omega
  ·obtain ⟨v1,v2,v3,v4⟩:=hV i hi
   refine ⟨v1,fun hx=>?_⟩
   rcases hx with hx | ⟨a,ha,e⟩
   ·exact v2 hx
   ·rcases hb with hb | hb
    ·rw [ha] at hb
     obtain ⟨a2,ha2,e2⟩:=Qal hb.symm
     have:=hAK a2 ha2
     omega
    ·rw [ha] at hb
     have:a.block=wX.heap.size:=by simpa [Value.ownBlock] using hb
     omega
theorem NSt.edges {me:Nat} {es:List EdgeP} {Ae:Option Addr} {ce g cap:Nat} (h:NSt wK gp gl gt n cn An w (some ⟨g,0,none⟩) cap L U) (hme:me < L.length) (_h0:L[me].edges = []) (he:EdgesAt w w.heap.size Ae es) (hV:∀ a,Ae=some a→a.block < w.heap.size∧a.block≠gp∧a.block≠g) :
  NSt wK gp gl gt n cn An (w.setCell ⟨g,me * 7 + 6,none⟩ (.slice Ae es.length ce)) (some ⟨g,0,none⟩) cap (L.set me { L[me] with edges:=es }) (fun i=>U i∨∃ a,Ae=some a∧a.block=i):=by
 obtain ⟨xs,hO,hel⟩:=h.row
 have hAK:=h.ownA _ rfl
 have hset:Mv (fun i=>i=g) w (w.setCell ⟨g,me * 7 + 6,none⟩ (.slice Ae es.length ce)):=(Mv.rfl' (fun i=>i=g) w).set (.inr rfl) _
 have hUg:∀ i,U i→¬ i=g:=fun i hi e=>(h.free i hi).2 (.inr ⟨_,rfl,e.symm⟩)
 have hgpg:¬ gp=g:=fun e=>by
  have hp:=h.plan
  rcases hO.2 with ⟨hv,_⟩ | ⟨g',cap',cur,hv,_,hh,_⟩
  ·cases hv
  ·injection hv with h1 _ _; injection h1 with h1; injection h1 with h1
   rw [← h1,← e] at hh
   unfold Blk at hp
   rw [hp] at hh
   injection hh with hh; injection hh with _ hh
   exact absurd hh (by decide)
 refine ⟨?_,?_,⟨xs.set (me * 7 + 6) (.slice Ae es.length ce),?_,?_⟩,?_⟩
 ·exact h.mv.trans' hset fun i hi _ e=>by have:=hAK.1; simp only at this; omega
 ·rw [List.length_set]; exact hset.blk h.plan hgpg
 ·rw [List.length_set]; exact own_set hO _
 ·intro k hk
  rw [List.length_set] at hk
  have hkk:=(hel k hk).mv hset fun i hi=>⟨hUg i hi,(.inl hi:U i∨∃ a,Ae=some a∧a.block=i)⟩
  by_cases e:me=k
  ·subst e
   rw [List.getElem_set_self,Qk0 (by omega)]
   obtain ⟨A1,c1,A2,c2,hvs,q1,q2,q3,q4⟩:=hkk
   refine ⟨A1,c1,Ae,ce,?_,q1,Reads.mv he hset fun a ha e=>?_,q3,fun a ha=>.inr ⟨a,ha,rfl⟩⟩
   ·rw [hvs]; rfl
   ·exact (hV a ha).2.2 e
  ·rw [List.getElem_set_ne e,Qjv (by omega) (fun e'=>e e'.symm)]
   exact hkk
 ·intro i hi
  rw [size_setCell']
  rcases hi with hi | ⟨a,ha,rfl⟩
  ·exact h.free i hi
  ·refine ⟨(hV a ha).1,fun hx=>?_⟩
   rcases hx with hx | ⟨a2,ha2,e⟩
   ·exact (hV a ha).2.1 hx
   ·injection ha2 with ha2
    exact (hV a ha).2.2 (by rw [← e,← ha2])
end
theorem Qp3:∃ i,Tryz.prog.info? 66=some i∧i.zero=some (.agg #[.int .i64 0,.int .i64 0,.int .i64 0,.int .i64 0,.int .i64 0,.slice none 0 0,.slice none 0 0])∧i.size=7∧i.bytes=88 :=
 Qbr (a:=7) (b:=88) (v:=.agg #[.int .i64 0,.int .i64 0,.int .i64 0,.int .i64 0,.int .i64 0,.slice none 0 0,.slice none 0 0]) (s:=7) (by kernel_rfl)
theorem Qjj:∃ i,Tryz.prog.info? 70=some i∧i.zero=some (.agg #[.string ⟨#[]⟩,.bool false,.int .i64 0,.int .i64 0,.int .i64 0,.int .i64 0,.int .i64 0,.int .i64 0,.int .i64 0,.int .i64 0])∧i.size=10∧i.bytes=88 :=
 Qbr (a:=10) (b:=88) (v:=.agg #[.string ⟨#[]⟩,.bool false,.int .i64 0,.int .i64 0,.int .i64 0,.int .i64 0,.int .i64 0,.int .i64 0,.int .i64 0,.int .i64 0]) (s:=10) (by kernel_rfl)
structure NCtx (s:Sch) (w0 wK:World) (gb gl gp gt n3 c3 cn:Nat) (A3 An:Option Addr) (xs:List Value) (mm:Int):Prop where
 hB:BldAt wK gb A3 n3 c3 xs gl gp mm
 hne:gb≠gp
 hE:Ext w0 wK
 hgp:w0.heap.size≤gp
 hgpK:gp < wK.heap.size
 hL:LatAt w0 gl s.ws s.os
 ok:LatOk s
 tab:TabB wK (fun i=>i≠gp) gt s.names
 named:NatAt wK wK.heap.size An (Qbp s s.n)
 hAn:∀ a,An=some a→a.block≠gp
 few:s.n≤64
section
variable {s:Sch} {w0 wK:World} {gb gl gp gt n3 c3 cn:Nat} {A3 An:Option Addr} {xs:List Value} {mm:Int}
theorem NCtx.bld (h:NCtx s w0 wK gb gl gp gt n3 c3 cn A3 An xs mm) {w:World} (hm:Mv (fun i=>i=gp) wK w):BldAt w gb A3 n3 c3 xs gl gp mm:=h.hB.mv hm h.hne
theorem NCtx.old (h:NCtx s w0 wK gb gl gp gt n3 c3 cn A3 An xs mm) {w:World} (hm:Mv (fun i=>i=gp) wK w):Ext w0 w:=hm.below h.hE fun i hi=>by rw [hi]; exact h.hgp
theorem NCtx.lat (h:NCtx s w0 wK gb gl gp gt n3 c3 cn A3 An xs mm) {w:World} (hm:Mv (fun i=>i=gp) wK w):LatAt w gl s.ws s.os:=h.hL.ext (h.old hm)
theorem NCtx.tb (h:NCtx s w0 wK gb gl gp gt n3 c3 cn A3 An xs mm) {w:World} (hm:Mv (fun _i=>_i=gp) wK w):TabAt w gt s.names:=(h.tab.mv hm fun _i hi=>hi).tab
theorem NCtx.nmd (h:NCtx s w0 wK gb gl gp gt n3 c3 cn A3 An xs mm) {w:World} (hm:Mv (fun i=>i=gp) wK w):NatAt w w.heap.size An (Qbp s s.n):=Reads.mv h.named hm h.hAn
end
def Qic (s:Sch) (w0 wK:World) (gb gl gp gt cn:Nat) (An:Option Addr) (t:Ty):Prop:=∀ (w:World) (A:Option Addr) (c:Nat) (L:List NodeP) (U:Nat→Prop) (vs:List Value),
 NSt wK gp gl gt s.n cn An w A c L U→L.length + Q6 t≤2000→TyAt w0 w0.heap.size t vs →
 Calls Tryz.prog 36 #[.pointer (some ⟨gb,0,none⟩),.agg vs.toArray] w (fun e w'=>e = .returned (.int .i64 (s.nodeI t L.length:Nat))∧NStep wK gp gl gt s.n cn An w A U (L ++ s.nodesOf t L.length) w')
def Sch.edgeX (s:Sch) (q:PtH) (t:Ty) (len:Nat):EdgeP :=
 { name:=q.name.1,bare:=q.bare,at_:=q.name.2,tgt:=if q.bare=true then -1 else (s.nodeI t len:Nat),label:=ofI s.ws s.os q.label,wide:=if q.wide=0 then 3 else q.wide,coarse:=q.ck,n:=q.cn,seen:=ofI s.ws s.os q.cl,cat:=q.cat }
theorem NStep.local_ {wK w w5 w6 w7:World} {gp gl gt n cn c:Nat} {An A:Option Addr} {L L':List NodeP} {U:Nat→Prop} (hst:NSt wK gp gl gt n cn An w A c L U) (hgp:gp < wK.heap.size) (hE:Ext w w5) (h:NStep wK gp gl gt n cn An w5 A U L' w6) (hm:Mv (fun i=>w.heap.size≤i∧i < w5.heap.size) w6 w7):NStep wK gp gl gt n cn An w A U L' w7:=by
 obtain ⟨A',c',U',k1,k2,k3,k4⟩:=h
 have hKw:=hst.mv.size
 refine ⟨A',c',U',k1.keep hm (fun i hi=>Nat.le_trans hKw hi.1) (fun hh=>by omega) (fun a ha hh=>?_) (fun i hi hh=>?_),((Mv.of_ext hE).trans k2).trans' hm fun i hi _ hh=>by omega,fun a ha=>?_,fun i hi=>?_⟩
 ·rcases k3 a ha with h1 | h1
  ·have:=(hst.ownA a h1).2; omega
  ·omega
 ·rcases k4 i hi with h1 | h1
  ·have:=(hst.free i h1).1; omega
  ·omega
 ·exact (k3 a ha).imp id fun h1=>Nat.le_trans hE.size h1
 ·exact (k4 i hi).imp id fun h1=>Nat.le_trans hE.size h1
theorem Qc5:(Tryz.prog.info? 70).map (·.size)=some 10:=by kernel_rfl
theorem Qeb {w:World} {g:Nat} {t:TypeId} {l:List Value} (h:Blk w g t l.toArray):w.rangeAt g 0 l:=by
 intro j v hv
 rw [Nat.zero_add,h.cell j,gA]
 exact hv
theorem Qrl {g:Nat} {t:TypeId} (zs:List Value):∀ (xs ys:List Value) (w:World),Blk w g t (xs ++ ys).toArray→ys.length=zs.length→Blk (w.setCells g xs.length zs) g t (xs ++ zs).toArray:=by
 induction zs with
 | nil=>intro xs ys w h hl; rw [List.eq_nil_of_length_eq_zero hl] at h; exact h
 | cons z r ih =>
  intro xs ys w h hl
  cases ys with
  | nil=>cases hl
  | cons y s =>
   have h1:=h.set_ xs.length z
   have e:(xs ++ y :: s).toArray.setIfInBounds xs.length z=((xs ++ [z]) ++ s).toArray:=by simp
   have h2:Blk (w.setCell ⟨g,xs.length,none⟩ z) g t ((xs ++ [z]) ++ s).toArray:=by rw [← e]; simpa using h1
   have h3:=ih (xs ++ [z]) s _ h2 (by simpa using hl)
   rw [List.length_append] at h3
   have e2:(xs ++ [z]) ++ r=xs ++ z :: r:=by simp
   rw [e2] at h3
   exact h3
theorem Qga {g:Nat} {t:TypeId} {w:World} (zs ys:List Value) (h:Blk w g t ys.toArray) (hl:ys.length=zs.length):Blk (w.setCells g 0 zs) g t zs.toArray:=Qrl zs [] ys w h hl
theorem Mv.setCells {X:Nat→Prop} {a b:World} (h:Mv X a b) {g:Nat} (hg:X g) (vs:List Value):∀ (o:Nat),Mv X a (b.setCells g o vs):=by
 induction vs generalizing b with
 | nil=>intro o; exact h
 | cons v r ih=>intro o; exact ih (h.set (.inr hg) v) (o + 1)
theorem Blk.setL {w:World} {g:Nat} {t:TypeId} {l:List Value} (h:Blk w g t l.toArray) (i:Nat) (u:Value):Blk (w.setCell ⟨g,i,none⟩ u) g t (l.set i u).toArray:=by
 have:=h.set_ i u
 rwa [gE] at this
theorem Qk1 {g:Nat} {w2:World} {fn:Func} {p:Tmp} {a:Act} {R:Ending→World→Prop} {cs:Array Value} (hB:Blk w2 g 70 cs) (h10:cs.size=10) (hfn:fn.results=#[.cell p 70]) (hp:a.tmps.getD p undef = .pointer (some ⟨g,0,none⟩)) (hd:a.defers = [])
  (hR:R (.returned (.agg cs)) w2):bodyPost Tryz.prog fn R .ret a w2 :=
 bodyPost_ret (results_cell_row hfn _ _ g 70 cs (0,0) _ hp hB Tryz.underlying70 rfl (by rw [h10]; kernel_rfl)) hd hR
set_option maxRecDepth 100000 in
set_option maxHeartbeats 20000000 in
theorem Qrm (s : Sch) (w0 wK : World) (gb gl gp gt n3 c3 cn : Nat) (A3 An : Option Addr) (xs : List Value) (mm : Int) (hC : NCtx s w0 wK gb gl gp gt n3 c3 cn A3 An xs mm) (q : PtH) (t : Ty) (hs1 : Qo q.label) (hs2 : Qo q.cl) (w : World) (A : Option Addr) (c : Nat) (L : List NodeP) (U : Nat → Prop) (vs : List Value)
    (hst : NSt wK gp gl gt s.n cn An w A c L U) (hlen : q.bare = false → L.length + Q6 t ≤ 2000) (hP : PartAt w0 w0.heap.size q t vs) (hnode : q.bare = false → Qic s w0 wK gb gl gp gt cn An t) :
    Calls Tryz.prog 76 #[.pointer (some ⟨gb, 0, none⟩), .agg vs.toArray] w (fun e w' => e = .returned (.agg (Qaj (s.edgeX q t L.length)).toArray) ∧ NStep wK gp gl gt s.n cn An w A U (L ++ if q.bare = true then [] else s.nodesOf t L.length) w') := by
  have hE0 := hC.old hst.mv
  have hBw := hC.bld hst.mv
  obtain ⟨Al, cl, Ac, cc, vt, rfl, hl, hc, hT⟩ := hP
  have hv1 := fun w1 (hE : Ext w w1) => Qjf gb gl gp n3 c3 A3 xs mm s Al cl _ q.label w1 (hBw.ext hE) ((hC.lat hst.mv).ext hE) hC.ok ((hl.ext hE0).ext hE) rfl (by have := hs1.1; omega)
  have hv2 := fun w1 (hE : Ext w w1) => Qjf gb gl gp n3 c3 A3 xs mm s Ac cc _ q.cl w1 (hBw.ext hE) ((hC.lat hst.mv).ext hE) hC.ok ((hc.ext hE0).ext hE) rfl (by have := hs2.1; omega)
  have hnd := fun (hb : q.bare = false) w1 (hs : NSt wK gp gl gt s.n cn An w1 A c L U) => hnode hb w1 A c L U vt hs (hlen hb) hT
  obtain ⟨y0, y1, y2, y3, y4, y5, y6, y7, y8, rfl⟩ : ∃ y0 y1 y2 y3 y4 y5 y6 y7 y8 : Value, vt = [y0, y1, y2, y3, y4, y5, y6, y7, y8] := by obtain ⟨y0, y1, y2, y3, y4, y5, y6, y7, y8, e⟩ := hT.nine; exact ⟨y0, y1, y2, y3, y4, y5, y6, y7, y8, e⟩
  have hX : s.edgeX q t L.length = { name := q.name.1, bare := q.bare, at_ := q.name.2, tgt := if q.bare = true then -1 else (s.nodeI t L.length : Nat), label := ofI s.ws s.os q.label, wide := if q.wide = 0 then 3 else q.wide, coarse := q.ck, n := q.cn, seen := ofI s.ws s.os q.cl, cat := q.cat } := rfl
  obtain ⟨EX, hEX⟩ : ∃ x, x = s.edgeX q t L.length := ⟨_, rfl⟩
  rw [← hEX] at hX ⊢
  obtain ⟨v1, hv1_⟩ : ∃ x, x = ofI s.ws s.os q.label := ⟨_, rfl⟩
  obtain ⟨v2, hv2_⟩ : ∃ x, x = ofI s.ws s.os q.cl := ⟨_, rfl⟩
  obtain ⟨NI, hNI⟩ : ∃ x, x = s.nodeI t L.length := ⟨_, rfl⟩
  obtain ⟨NL, hNL⟩ : ∃ x, x = s.nodesOf t L.length := ⟨_, rfl⟩
  rw [← hv1_, ← hv2_, ← hNI] at hX
  rw [← hv1_] at hv1
  rw [← hv2_] at hv2
  rw [← hNI, ← hNL] at hnd
  rw [← hNL]
  unfold ptV
  obtain ⟨nm, hnm_⟩ : ∃ x, x = q.name.1 := ⟨_, rfl⟩
  obtain ⟨na, hna_⟩ : ∃ x, x = q.name.2 := ⟨_, rfl⟩
  obtain ⟨br, hbr_⟩ : ∃ x, x = q.bare := ⟨_, rfl⟩
  obtain ⟨ll, hll_⟩ : ∃ x, x = q.label.length := ⟨_, rfl⟩
  obtain ⟨wi, hwi_⟩ : ∃ x, x = q.wide := ⟨_, rfl⟩
  obtain ⟨ck, hck_⟩ : ∃ x, x = q.ck := ⟨_, rfl⟩
  obtain ⟨cn2, hcn2_⟩ : ∃ x, x = q.cn := ⟨_, rfl⟩
  obtain ⟨ca, hca_⟩ : ∃ x, x = q.cat := ⟨_, rfl⟩
  obtain ⟨lc, hlc_⟩ : ∃ x, x = q.cl.length := ⟨_, rfl⟩
  rw [← hnm_, ← hna_, ← hbr_, ← hwi_, ← hck_, ← hcn2_, ← hca_] at hX
  rw [← hbr_] at hnd
  rw [← hll_] at hv1
  rw [← hlc_] at hv2
  rw [← hnm_, ← hna_, ← hbr_, ← hll_, ← hwi_, ← hck_, ← hcn2_, ← hca_, ← hlc_]
  have HV1 := Qa hv1
  have HV2 := Qa hv2
  have HND := Qa hnd
  have HX := Qa hX
  have HST := Qa hst
  have HGPK := Qa hC.hgpK
  obtain ⟨w1, hw1⟩ : ∃ wZ, wZ = w.alloc (.cells #[.string nm, .int .i64 na, .bool br, .slice Al ll cl, .int .i64 wi, .int .i64 ck, .int .i64 cn2, .int .i64 ca, .slice Ac lc cc, y0, y1, y2, y3, y4, y5, y6, y7, y8] 131) := ⟨_, rfl⟩
  obtain ⟨g1, hg1⟩ : ∃ gZ, gZ = w.heap.size := ⟨_, rfl⟩
  have hV : Blk w1 g1 131 #[.string nm, .int .i64 na, .bool br, .slice Al ll cl, .int .i64 wi, .int .i64 ck, .int .i64 cn2, .int .i64 ca, .slice Ac lc cc, y0, y1, y2, y3, y4, y5, y6, y7, y8] := by rw [hw1, hg1]; exact Blk.new _ _ _
  have hVE : Ext w w1 := by rw [hw1]; exact (Ext.rfl' w).alloc (Nat.le_refl _) _
  have Hw1 := Qa hw1
  have Hg1 := Qa hg1
  obtain ⟨w2, hw2⟩ : ∃ wZ, wZ = w1.alloc (.cells #[.string ⟨#[]⟩, .bool false, .int .i64 0, .int .i64 0, .int .i64 0, .int .i64 0, .int .i64 0, .int .i64 0, .int .i64 0, .int .i64 0] 70) := ⟨_, rfl⟩
  obtain ⟨g2, hg2⟩ : ∃ gZ, gZ = w1.heap.size := ⟨_, rfl⟩
  have hR : Blk w2 g2 70 #[.string ⟨#[]⟩, .bool false, .int .i64 0, .int .i64 0, .int .i64 0, .int .i64 0, .int .i64 0, .int .i64 0, .int .i64 0, .int .i64 0] := by rw [hw2, hg2]; exact Blk.new _ _ _
  have hRE : Ext w1 w2 := by rw [hw2]; exact (Ext.rfl' w1).alloc (Nat.le_refl _) _
  have Hw2 := Qa hw2
  have Hg2 := Qa hg2
  have Hg2' := Qa (show g2 = g1 + 1 by rw [hg2, hw1, World.size_alloc, ← hg1])
  have HE2 := Qa (hVE.trans' hRE)
  have HV := Qa (hV.ext hRE)
  have HR := Qa hR
  have hlo1 : w.heap.size ≤ g1 := by omega
  have hlo2 : w.heap.size ≤ g2 := by have := hVE.size; omega
  have hg12 : g1 < w2.heap.size := (hV.ext hRE).lt
  have hg22 : g2 < w2.heap.size := hR.lt
  show Calls Tryz.prog 76 #[.pointer (some ⟨gb, 0, none⟩), .agg #[.string nm, .int .i64 na, .bool br, .slice Al ll cl, .int .i64 wi, .int .i64 ck, .int .i64 cn2, .int .i64 ca, .slice Ac lc cc, y0, y1, y2, y3, y4, y5, y6, y7, y8]] w _
  have t0 := HV.out.cell 0
  have t1 := HV.out.cell 1
  have t2 := HV.out.cell 2
  have t3 := HV.out.cell 3
  have t4 := HV.out.cell 4
  have t5 := HV.out.cell 5
  have t6 := HV.out.cell 6
  have t7 := HV.out.cell 7
  have t8 := HV.out.cell 8
  simp only [List.getElem?_toArray, List.getElem?_cons_zero, List.getElem?_cons_succ] at t0 t1 t2 t3 t4 t5 t6 t7 t8
  have HT := Qa (show ∀ w', Ext w2 w' → Blk w' g1 131 #[.string nm, .int .i64 na, .bool br, .slice Al ll cl, .int .i64 wi, .int .i64 ck, .int .i64 cn2, .int .i64 ca, .slice Ac lc cc, y0, y1, y2, y3, y4, y5, y6, y7, y8] from fun w' hE => HV.out.ext hE)
  clear hw1 hg1 hw2 hg2 hV hVE hR hRE hv1 hv2 hnd hX hst hC hs1 hs2 hlen hnode hE0 hBw hl hc hT hEX hv1_ hv2_ hNI hNL hnm_ hna_ hbr_ hll_ hwi_ hck_ hcn2_ hca_ hlc_
  go_enter Tryz.func76, Tryz.ntmps76
  go_upto_region 1 with fail
  rw [← Hw1.out, ← Hg1.out, ← Hw2.out, ← Hg2'.out]
  go_cut [5] (fun v wx => ∃ g5, v = .pointer (some ⟨g5, 0, none⟩) ∧ w2.heap.size ≤ g5 ∧ Blk wx g5 70 #[.string nm, .bool br, .int .i64 na, .int .i64 (-1), .int .i64 v1, .int .i64 wi, .int .i64 0, .int .i64 0, .int .i64 0, .int .i64 0] ∧ Ext w2 wx)
  case first =>
    have hone : ∀ v ∈ ([.string nm, .bool br, .int .i64 na, .int .i64 (-1), .int .i64 v1, .int .i64 wi, .int .i64 0, .int .i64 0, .int .i64 0, .int .i64 0] : List Value), v.oneCell' = true := by intro v hv; simp at hv; rcases hv with rfl | rfl | rfl | rfl | rfl | rfl | rfl | rfl | rfl | rfl <;> rfl
    have hinf : (Tryz.prog.info? 70).map (·.size) = some (#[.string nm, .bool br, .int .i64 na, .int .i64 (-1), .int .i64 v1, .int .i64 wi, .int .i64 0, .int .i64 0, .int .i64 0, .int .i64 0] : Array Value).size := by kernel_rfl
    have HCL := Qa (show ∀ w', Ext w2 w' → w'.cell? ⟨g1, 0, none⟩ = some (.string nm) ∧ w'.cell? ⟨g1, 1, none⟩ = some (.int .i64 na) ∧ w'.cell? ⟨g1, 2, none⟩ = some (.bool br) ∧ w'.cell? ⟨g1, 3, none⟩ = some (.slice Al ll cl) ∧ w'.cell? ⟨g1, 4, none⟩ = some (.int .i64 wi) from fun w' hE => have hB1 := HT.out w' hE; ⟨hB1.cell 0, hB1.cell 1, hB1.cell 2, hB1.cell 3, hB1.cell 4⟩)
    go_region_held3 (fun w' => w'.cell? ⟨g1, 0, none⟩ = some (.string nm) ∧ w'.cell? ⟨g1, 1, none⟩ = some (.int .i64 na) ∧ w'.cell? ⟨g1, 2, none⟩ = some (.bool br) ∧ w'.cell? ⟨g1, 3, none⟩ = some (.slice Al ll cl) ∧ w'.cell? ⟨g1, 4, none⟩ = some (.int .i64 wi)) (first | (with_reducible exact hS) | (with_reducible exact HCL.out _ (((((((((((HEz.out).setCell (Nat.le_refl _) _).setCell (Nat.le_refl _) _).setCell (Nat.le_refl _) _).setCell (Nat.le_refl _) _).setCell (Nat.le_refl _) _).setCell (Nat.le_refl _) _).setCell (Nat.le_refl _) _).setCell (Nat.le_refl _) _).setCell (Nat.le_refl _) _).setCell (Nat.le_refl _) _)) | (with_reducible exact HCL.out _ (HEz.out.alloc HEz.out.size _)) | (with_reducible exact HCL.out _ (Ext.drew' (Ext.rfl' w2))) | go_keep)
      ((first
        | (go_at_call 111
           refine (HV1.out _ (by first | exact HE2.out.drew' | exact (HE2.out.drew').alloc HE2.out.size _)).mono ?_
           rintro e wz ⟨rfl, hEz⟩
           have HEz := Qa (show Ext w2 wz by first | exact ((Ext.rfl' w2).drew').trans' hEz | exact Ext.trans' (((Ext.rfl' w2).drew').alloc (Nat.le_refl _) _) hEz)
           (first
             | (have hB2 := Blk.ext (show Blk (w2.alloc (.cells (#[.string ⟨#[]⟩, .bool false, .int .i64 0, .int .i64 0, .int .i64 0, .int .i64 0, .int .i64 0, .int .i64 0, .int .i64 0, .int .i64 0] : Array Value) 70)).drew w2.heap.size 70 (#[.string ⟨#[]⟩, .bool false, .int .i64 0, .int .i64 0, .int .i64 0, .int .i64 0, .int .i64 0, .int .i64 0, .int .i64 0, .int .i64 0] : Array Value) from Blk.new w2 _ _) hEz
                have k0 := hB2.cell 0
                have kf0 := hB2.free 0
                have k1 := hB2.cell 1
                have kf1 := hB2.free 1
                have k2 := hB2.cell 2
                have kf2 := hB2.free 2
                have k3 := hB2.cell 3
                have kf3 := hB2.free 3
                have k4 := hB2.cell 4
                have kf4 := hB2.free 4
                have k5 := hB2.cell 5
                have kf5 := hB2.free 5
                have k6 := hB2.cell 6
                have kf6 := hB2.free 6
                have k7 := hB2.cell 7
                have kf7 := hB2.free 7
                have k8 := hB2.cell 8
                have kf8 := hB2.free 8
                have k9 := hB2.cell 9
                have kf9 := hB2.free 9
                simp only [List.getElem?_toArray, List.getElem?_cons_zero, List.getElem?_cons_succ] at k0 k1 k2 k3 k4 k5 k6 k7 k8 k9
                have HB2 := Qa hB2
                clear hB2)
             | skip)
           have hS := HCL.out wz HEz.out
           clear hEz)))
    · go_wp2_with fail
      go_meet
      exact ⟨wz.heap.size, rfl, HEz.out.size, Blk.new _ _ _, HEz.out.alloc HEz.out.size _⟩
    · go_wp2_with fail
      go_meet
      have hb := ((((((((((HB2.out).setL 0 (.string nm)).setL 1 (.bool br)).setL 2 (.int .i64 na)).setL 3 (.int .i64 (-1))).setL 4 (.int .i64 v1)).setL 5 (.int .i64 wi)).setL 6 (.int .i64 0)).setL 7 (.int .i64 0)).setL 8 (.int .i64 0)).setL 9 (.int .i64 0)
      simp only [List.set_cons_zero, List.set_cons_succ] at hb
      have hx : Ext w2 _ := ((((((((((HEz.out).setCell (p := ⟨w2.heap.size, 0, none⟩) (Nat.le_refl _) (.string nm)).setCell (p := ⟨w2.heap.size, 1, none⟩) (Nat.le_refl _) (.bool br)).setCell (p := ⟨w2.heap.size, 2, none⟩) (Nat.le_refl _) (.int .i64 na)).setCell (p := ⟨w2.heap.size, 3, none⟩) (Nat.le_refl _) (.int .i64 (-1))).setCell (p := ⟨w2.heap.size, 4, none⟩) (Nat.le_refl _) (.int .i64 v1)).setCell (p := ⟨w2.heap.size, 5, none⟩) (Nat.le_refl _) (.int .i64 wi)).setCell (p := ⟨w2.heap.size, 6, none⟩) (Nat.le_refl _) (.int .i64 0)).setCell (p := ⟨w2.heap.size, 7, none⟩) (Nat.le_refl _) (.int .i64 0)).setCell (p := ⟨w2.heap.size, 8, none⟩) (Nat.le_refl _) (.int .i64 0)).setCell (p := ⟨w2.heap.size, 9, none⟩) (Nat.le_refl _) (.int .i64 0)
      refine ⟨w2.heap.size, rfl, Nat.le_refl _, ?_, ?_⟩
      · with_reducible exact hb
      · with_reducible exact hx
  case rest =>
    rename World => wx
    obtain ⟨g5, rfl, hlo5, hB5, hE5⟩ := hcut
    have c5 := hB5.cell 5
    have cf5 := hB5.free 5
    simp only [List.getElem?_toArray, List.getElem?_cons_zero, List.getElem?_cons_succ] at c5
    have HB5 := Qa hB5
    have HE5 := Qa hE5
    clear hB5 hE5 t0 t1 t2 t3 t4 t5 t6 t7 t8
    have HCL4 := Qa (show ∀ w', Ext w2 w' → w'.cell? ⟨g1, 5, none⟩ = some (.int .i64 ck) ∧ w'.cell? ⟨g1, 6, none⟩ = some (.int .i64 cn2) ∧ w'.cell? ⟨g1, 7, none⟩ = some (.int .i64 ca) ∧ w'.cell? ⟨g1, 8, none⟩ = some (.slice Ac lc cc) from fun w' hE => have hB1 := HT.out w' hE; ⟨hB1.cell 5, hB1.cell 6, hB1.cell 7, hB1.cell 8⟩)
    obtain ⟨wd, hwd⟩ : ∃ wd : Int, wd = if wi = 0 then 3 else wi := ⟨_, rfl⟩
    have HWD := Qa hwd
    clear hwd
    go_upto_if 23 with fail
    go_cut [] (fun wy => Blk wy g5 70 #[.string nm, .bool br, .int .i64 na, .int .i64 (-1), .int .i64 v1, .int .i64 wd, .int .i64 0, .int .i64 0, .int .i64 0, .int .i64 0] ∧ Ext w2 wy)
    case first =>
      by_cases hwi : wi = 0
      · have hb : (wi == 0) = true := by rw [hwi]; rfl
        have hwd := HWD.out
        rw [if_pos hwi] at hwd
        have HWD3 := Qa hwd
        clear hwd hwi
        go_wp2_with fail
        go_meet
        exact ⟨by rw [HWD3.out]; exact HB5.out.set_ 5 _, HE5.out.setCell (p := ⟨g5, 5, none⟩) hlo5 _⟩
      · have hb : (wi == 0) = false := by simpa using hwi
        have hwd := HWD.out
        rw [if_neg hwi] at hwd
        have HWD3 := Qa hwd
        clear hwd hwi
        go_wp2_with fail
        go_meet
        exact ⟨by rw [HWD3.out]; exact HB5.out, HE5.out⟩
    case rest =>
      rename World => w3
      obtain ⟨hB3, hE3⟩ := hcut
      have HB3 := Qa hB3
      have HE3 := Qa hE3
      clear hB3 hE3 c5 cf5
      go_upto_region 4 with fail
      go_region_held3 (fun w' => w'.cell? ⟨g1, 5, none⟩ = some (.int .i64 ck) ∧ w'.cell? ⟨g1, 6, none⟩ = some (.int .i64 cn2) ∧ w'.cell? ⟨g1, 7, none⟩ = some (.int .i64 ca) ∧ w'.cell? ⟨g1, 8, none⟩ = some (.slice Ac lc cc)) (first | (with_reducible exact hS) | (with_reducible exact HCL4.out _ ((HEz.out).setCell (p := ⟨g5, 6, none⟩) hlo5 _)) | (with_reducible exact HCL4.out _ (((HEz.out).setCell (p := ⟨g5, 6, none⟩) hlo5 _).setCell (p := ⟨g5, 7, none⟩) hlo5 _)) | (with_reducible exact HCL4.out _ ((((HEz.out).setCell (p := ⟨g5, 6, none⟩) hlo5 _).setCell (p := ⟨g5, 7, none⟩) hlo5 _).setCell (p := ⟨g5, 9, none⟩) hlo5 _)) | (with_reducible exact HCL4.out _ (((((HEz.out).setCell (p := ⟨g5, 6, none⟩) hlo5 _).setCell (p := ⟨g5, 7, none⟩) hlo5 _).setCell (p := ⟨g5, 9, none⟩) hlo5 _).setCell (p := ⟨g5, 8, none⟩) hlo5 _)) | (with_reducible exact HCL4.out _ (Ext.drew' HE3.out)) | go_keep)
        ((first
          | (go_at_call 111
             refine (HV2.out _ ((HE2.out.trans' HE3.out).drew')).mono ?_
             rintro e wz ⟨rfl, hEz⟩
             have hE3z := ((Ext.rfl' w3).drew').trans' hEz
             have HEz := Qa (HE3.out.trans' hE3z)
             have hBz := HB3.out.ext hE3z
             have k6 := hBz.cell 6
             have kf6 := hBz.free 6
             have k7 := hBz.cell 7
             have kf7 := hBz.free 7
             have k8 := hBz.cell 8
             have kf8 := hBz.free 8
             have k9 := hBz.cell 9
             have kf9 := hBz.free 9
             simp only [List.getElem?_toArray, List.getElem?_cons_zero, List.getElem?_cons_succ] at k6 k7 k8 k9
             have HBz := Qa hBz
             have hS := HCL4.out wz HEz.out
             clear hEz hE3z hBz)))
      have hX6 : Ext w2 ((((wz.setCell ⟨g5, 6, none⟩ (.int .i64 ck)).setCell ⟨g5, 7, none⟩ (.int .i64 cn2)).setCell ⟨g5, 9, none⟩ (.int .i64 ca)).setCell ⟨g5, 8, none⟩ (.int .i64 v2)) := ((((HEz.out.setCell (p := ⟨g5, 6, none⟩) hlo5 _).setCell (p := ⟨g5, 7, none⟩) hlo5 _).setCell (p := ⟨g5, 9, none⟩) hlo5 _).setCell (p := ⟨g5, 8, none⟩) hlo5 _)
      have hB6 := (((HBz.out.setL 6 (.int .i64 ck)).setL 7 (.int .i64 cn2)).setL 9 (.int .i64 ca)).setL 8 (.int .i64 v2)
      simp only [List.set_cons_zero, List.set_cons_succ] at hB6
      go_upto_region 5 with fail
      obtain ⟨w6, hw6⟩ : ∃ z, z = ((((wz.setCell ⟨g5, 6, none⟩ (.int .i64 ck)).setCell ⟨g5, 7, none⟩ (.int .i64 cn2)).setCell ⟨g5, 9, none⟩ (.int .i64 ca)).setCell ⟨g5, 8, none⟩ (.int .i64 v2)) := ⟨_, rfl⟩
      rw [← hw6] at hX6 hB6 ⊢
      have HX6 := Qa hX6
      have hT6 := HT.out w6 hX6
      have hF2 := HR.out.ext hX6
      have u2 := hT6.cell 2
      have u9 := hT6.cell 9
      have u10 := hT6.cell 10
      have u11 := hT6.cell 11
      have u12 := hT6.cell 12
      have u13 := hT6.cell 13
      have u14 := hT6.cell 14
      have u15 := hT6.cell 15
      have u16 := hT6.cell 16
      have u17 := hT6.cell 17
      simp only [List.getElem?_toArray, List.getElem?_cons_zero, List.getElem?_cons_succ] at u2 u9 u10 u11 u12 u13 u14 u15 u16 u17
      have HN6 := Qa (HST.out.ext (HE2.out.trans' hX6))
      have HS6 := Qa hX6.size
      clear hw6 hX6 hT6
      cases br with
      | true =>
        have hx := HX.out
        rw [if_pos rfl, ← HWD.out] at hx
        have HXE := Qa hx
        have hF5 := hB6
        clear hx hB6 HX HND
        have hrg := Qeb hF5
        have hth := Qc9 hF2 (o := 0) (m := (#[.string nm, .bool true, .int .i64 na, .int .i64 (-1), .int .i64 v1, .int .i64 wd, .int .i64 ck, .int .i64 cn2, .int .i64 v2, .int .i64 ca] : Array Value).size) (Nat.le_refl _)
        have hbf := Qga [.string nm, .bool true, .int .i64 na, .int .i64 (-1), .int .i64 v1, .int .i64 wd, .int .i64 ck, .int .i64 cn2, .int .i64 v2, .int .i64 ca] [.string ⟨#[]⟩, .bool false, .int .i64 0, .int .i64 0, .int .i64 0, .int .i64 0, .int .i64 0, .int .i64 0, .int .i64 0, .int .i64 0] hF2 rfl
        have HBF := Qa hbf
        have HRG5 := Qa hrg
        have HTH2 := Qa hth
        clear hF5 hF2 hrg hth hbf
        go_upto_region 7 with fail
        refine wp_region_lit ?_
        refine wpList_load_mid rfl 70 _ rfl g5 0 rfl _ _ HRG5.out Tryz.underlying70 rfl Qc5 ?_
        refine wpList_store_mid rfl 70 _ _ rfl g2 0 #[.string nm, .bool true, .int .i64 na, .int .i64 (-1), .int .i64 v1, .int .i64 wd, .int .i64 ck, .int .i64 cn2, .int .i64 v2, .int .i64 ca] rfl rfl HTH2.out (by kernel_rfl) (by simp [Value.oneCell']) ?_
        go_wp2_with fail
        refine Qk1 (g := g2) HBF.out rfl rfl rfl rfl ⟨by rw [HXE.out]; rfl, ?_⟩
        (try rw [if_pos rfl])
        (try rw [List.append_nil])
        have hmv := Mv.setCells (X := fun i => w.heap.size ≤ i ∧ i < w6.heap.size) (g := g2) (Mv.rfl' _ w6) ⟨hlo2, Nat.lt_of_lt_of_le hg22 HS6.out⟩ [.string nm, .bool true, .int .i64 na, .int .i64 (-1), .int .i64 v1, .int .i64 wd, .int .i64 ck, .int .i64 cn2, .int .i64 v2, .int .i64 ca] 0
        have hee := HE2.out.trans' HX6.out
        have h1 := NStep.refl HN6.out
        have h0 := HST.out
        have h2 := NStep.local_ h0 HGPK.out hee h1 hmv
        with_reducible exact h2
      | false =>
        have hx := HX.out
        rw [if_neg (by decide), ← HWD.out] at hx
        have HXE := Qa hx
        have HC6 := Qa (HND.out rfl w6 HN6.out)
        have HB6 := Qa hB6
        have HF2 := Qa hF2
        clear hx hB6 hF2 HX HND
        go_wp2_with fail
        refine HC6.out.mono ?_
        rintro e w7 ⟨rfl, hN7⟩
        have hm7 : Mv (XN gp A) w6 w7 := by obtain ⟨_, _, _, _, h, _⟩ := hN7; exact h
        have hk := HST.out.mv.size
        have hxl : ∀ i, w.heap.size ≤ i → ¬ XN gp A i := fun i hi hx => by
          rcases hx with hx | ⟨a, ha, hx⟩
          · have := HGPK.out; omega
          · have := (HST.out.ownA a ha).2; omega
        have hw2l : w.heap.size ≤ g5 := Nat.le_trans HE2.out.size hlo5
        have hB7 := hm7.blk HB6.out (hxl g5 hw2l)
        have hF7 := hm7.blk HF2.out (hxl g2 hlo2)
        have hg25 : g2 ≠ g5 := by have := hg22; omega
        have hs5 : g5 < w6.heap.size := HB6.out.lt
        have HG5 := Qa hs5
        have d3 := hB7.cell 3
        have df3 := hB7.free 3
        simp only [List.getElem?_toArray, List.getElem?_cons_zero, List.getElem?_cons_succ] at d3
        have hB8 := hB7.setL 3 (.int .i64 (NI : Int))
        simp only [List.set_cons_zero, List.set_cons_succ] at hB8
        have hF8 : Blk (w7.setCell ⟨g5, 3, none⟩ (.int .i64 (NI : Int))) g2 70 #[.string ⟨#[]⟩, .bool false, .int .i64 0, .int .i64 0, .int .i64 0, .int .i64 0, .int .i64 0, .int .i64 0, .int .i64 0, .int .i64 0] := hF7.far hg25 _
        have HN7 := Qa hN7
        clear hN7 hm7 hB7 hF7 u2 u9 u10 u11 u12 u13 u14 u15 u16 u17
        go_upto_region 7 with fail
        obtain ⟨w8, hw8⟩ : ∃ z, z = w7.setCell ⟨g5, 3, none⟩ (.int .i64 (NI : Int)) := ⟨_, rfl⟩
        have HM8 := Qa (show Mv (fun i => w.heap.size ≤ i ∧ i < w6.heap.size) w7 w8 by rw [hw8]; exact (Mv.rfl' _ _).set (g := g5) (.inr ⟨hw2l, hs5⟩) _)
        rw [← hw8] at hB8 hF8 ⊢
        have hF5 := hB8
        have hF2 := hF8
        clear hw8 hB8 hF8 d3 df3 hk hxl hw2l hg25 hs5
        have hrg := Qeb hF5
        have hth := Qc9 hF2 (o := 0) (m := (#[.string nm, .bool false, .int .i64 na, .int .i64 (NI : Int), .int .i64 v1, .int .i64 wd, .int .i64 ck, .int .i64 cn2, .int .i64 v2, .int .i64 ca] : Array Value).size) (Nat.le_refl _)
        have hbf := Qga [.string nm, .bool false, .int .i64 na, .int .i64 (NI : Int), .int .i64 v1, .int .i64 wd, .int .i64 ck, .int .i64 cn2, .int .i64 v2, .int .i64 ca] [.string ⟨#[]⟩, .bool false, .int .i64 0, .int .i64 0, .int .i64 0, .int .i64 0, .int .i64 0, .int .i64 0, .int .i64 0, .int .i64 0] hF2 rfl
        have HBF := Qa hbf
        have HRG5 := Qa hrg
        have HTH2 := Qa hth
        clear hF5 hF2 hrg hth hbf
        refine wp_region_lit ?_
        refine wpList_load_mid rfl 70 _ rfl g5 0 rfl _ _ HRG5.out Tryz.underlying70 rfl Qc5 ?_
        refine wpList_store_mid rfl 70 _ _ rfl g2 0 #[.string nm, .bool false, .int .i64 na, .int .i64 (NI : Int), .int .i64 v1, .int .i64 wd, .int .i64 ck, .int .i64 cn2, .int .i64 v2, .int .i64 ca] rfl rfl HTH2.out (by kernel_rfl) (by simp [Value.oneCell']) ?_
        rename_i Kz hKz
        obtain ⟨w9, hw9⟩ : ∃ z, z = w8.setCells g2 0 [.string nm, .bool false, .int .i64 na, .int .i64 (NI : Int), .int .i64 v1, .int .i64 wd, .int .i64 ck, .int .i64 cn2, .int .i64 v2, .int .i64 ca] := ⟨_, rfl⟩
        have hmv := Mv.setCells (X := fun i => w.heap.size ≤ i ∧ i < w6.heap.size) (g := g2) HM8.out ⟨hlo2, Nat.lt_of_lt_of_le hg22 HS6.out⟩ [.string nm, .bool false, .int .i64 na, .int .i64 (NI : Int), .int .i64 v1, .int .i64 wd, .int .i64 ck, .int .i64 cn2, .int .i64 v2, .int .i64 ca] 0
        have hb9 := HBF.out
        rw [← hw9] at hmv hb9
        have HMV := Qa hmv
        have HB9 := Qa hb9
        show wpList _ _ _ _ _ (w8.setCells g2 0 [.string nm, .bool false, .int .i64 na, .int .i64 (NI : Int), .int .i64 v1, .int .i64 wd, .int .i64 ck, .int .i64 cn2, .int .i64 v2, .int .i64 ca])
        rw [← hw9]
        clear hw9 hmv hb9
        refine wpList_nil ?_
        refine hKz _ _ ?_
        go_wp2_with fail
        refine Qk1 (g := g2) HB9.out rfl rfl rfl rfl ⟨by rw [HXE.out]; rfl, ?_⟩
        (try rw [if_neg (by decide)])
        (try rw [List.append_nil])
        have hee := HE2.out.trans' HX6.out
        have h1 := HN7.out
        have h0 := HST.out
        have h2 := NStep.local_ h0 HGPK.out hee h1 HMV.out
        with_reducible exact h2
def Sch.Known (s:Sch):Ty→Prop
 | .nil=>True
 | .mk h n p t=>(h.kind=9→0≤findL s.names h.name.1)∧∀ i,i < n→(p i).bare=false→Sch.Known s (t i)
theorem Sch.edgeX_eq (s:Sch) (me me':Nat) (p:Nat→PtH) (t:Nat→Ty) (k:Nat):s.edgeX (p k) (t k) (me + 1 + (s.kidsTo p t me' k).length)=s.edgeP me p t k:=by
 unfold Sch.edgeX Sch.edgeP
 congr 1
 unfold Sch.toI Sch.nodeI
 rw [Sch.kidsTo_length]
 by_cases hb:(p k).bare=true
 ·rw [if_pos hb,if_pos hb]
 ·rw [if_neg hb,if_neg hb]
  by_cases hk:(t k).kd=9
  ·rw [if_pos hk,if_pos hk]
  ·rw [if_neg hk,if_neg hk]
def Qca (s:Sch) (me:Nat) (p:Nat→PtH) (t:Nat→Ty) (k:Nat):List EdgeP:=(List.range k).map (s.edgeP me p t)
theorem Qgp (s:Sch) (me:Nat) (p:Nat→PtH) (t:Nat→Ty) (k:Nat):(Qca s me p t k).length=k:=by simp [Qca]
theorem Qp4 (s:Sch) (me:Nat) (p:Nat→PtH) (t:Nat→Ty) (k:Nat):Qca s me p t (k + 1)=Qca s me p t k ++ [s.edgeP me p t k]:=by
 unfold Qca
 rw [List.range_succ,List.map_append]
 rfl
theorem Qi1 (s:Sch) (me:Nat) (p:Nat→PtH) (t:Nat→Ty) (k:Nat):Qy (Qca s me p t (k + 1))=Qy (Qca s me p t k) ++ Qaj (s.edgeP me p t k):=by
 rw [Qp4,Qg6]
 congr 1
def nd0 (h:TyH):NodeP:=⟨h.kind,h.at_,h.lo,h.hi,h.most,nms h.names,[]⟩
theorem Qs2 {α:Type} (L K:List α) (a b:α):(L ++ a :: K).set L.length b=L ++ b :: K:=by
 rw [List.set_append_right _ _ nL,Nat.sub_self]
 rfl
theorem Qp5 (s:Sch) (h:TyH) (n:Nat) (p:Nat→PtH) (t:Nat→Ty) (L:List NodeP) (hk:h.kind≠9):L ++ s.nodesOf (.mk h n p t) L.length=L ++ { nd0 h with edges:=Qca s L.length p t n } :: s.kidsTo p t (L.length + 1) n:=by
 rw [Sch.nodesOf_own s L.length hk]
 rfl
theorem Qp6 (s:Sch) (h:TyH) (p:Nat→PtH) (t:Nat→Ty) (L:List NodeP) (k:Nat):(L ++ nd0 h :: s.kidsTo p t (L.length + 1) k) ++ (if (p k).bare=true then [] else s.nodesOf (t k) (L ++ nd0 h :: s.kidsTo p t (L.length + 1) k).length)=L ++ nd0 h :: s.kidsTo p t (L.length + 1) (k + 1):=by
 rw [Sch.kidsTo_succ,List.append_assoc,List.cons_append]
 congr 3
 rw [List.length_append,List.length_cons,show L.length + ((s.kidsTo p t (L.length + 1) k).length + 1)=L.length + 1 + (s.kidsTo p t (L.length + 1) k).length by omega]
theorem Qg8 (s:Sch) (h:TyH) (p:Nat→PtH) (t:Nat→Ty) (L:List NodeP) (k:Nat):(L ++ nd0 h :: s.kidsTo p t (L.length + 1) k).length=L.length + 1 + (s.kidsTo p t (L.length + 1) k).length:=by
 rw [List.length_append,List.length_cons]; omega
theorem Qp7 {h:TyH} {n:Nat} {p:Nat→PtH} {t:Nat→Ty} {s:Sch} {L:List NodeP} (hk:h.kind≠9) (hlen:L.length + Q6 (.mk h n p t)≤2000) {k:Nat} (hkn:k < n) (hb:(p k).bare=false):(L ++ nd0 h :: s.kidsTo p t (L.length + 1) k).length + Q6 (t k)≤2000:=by
 rw [Qg8,Sch.kidsTo_length]
 rw [Qdx hk] at hlen
 have:=Qbz (f:=fun i=>if (p i).bare=true then 0 else Q6 (t i)) hkn
 rw [if_neg (show ¬ (p k).bare=true by rw [hb]; decide)] at this
 omega
set_option maxRecDepth 100000 in
theorem Qrn (s:Sch) (w0 wK:World) (gb gl gp gt n3 c3 cn:Nat) (A3 An:Option Addr) (xs:List Value) (mm:Int) (hC:NCtx s w0 wK gb gl gp gt n3 c3 cn A3 An xs mm) (h:TyH) (n:Nat) (p:Nat→PtH) (t:Nat→Ty) (hk:h.kind=9) (hkn:0≤findL s.names h.name.1) (h0:0 < s.n):Qic s w0 wK gb gl gp gt cn An (.mk h n p t):=by
 intro w A c L U vs hst _ hT
 obtain ⟨Ai,ci,Ap,cp,rfl,_,_⟩:=hT.open_
 rw [Sch.nodesOf_ref s L.length hk,List.append_nil]
 have hI:s.nodeI (.mk h n p t) L.length=s.start (s.find h.name.1):=if_pos hk
 rw [hI]
 have HB:=Qa (hC.bld hst.mv)
 have HP:=Qa hst.plan
 have hFx:=fun w1 (hE:Ext w w1)=>(show Calls Tryz.prog 72 #[.pointer (some ⟨gt,0,none⟩),.string h.name.1] w1 (fun e w'=>e = .returned (.tuple #[.int .i64 (s.find h.name.1:Nat),.bool true])∧Ext w1 w') by
  have:=Qbq gt s.names h.name.1 w1 ((hC.tb hst.mv).ext hE) (by have:=hC.few; simp [Sch.names]; omega)
  rw [Qe4,decide_eq_true hkn] at this
  exact this)
 obtain ⟨b,o,rfl,hb,hc⟩:=(hC.nmd hst.mv).cell (by rw [Qcg]; exact h0)
 have hlt:=Qeq h0 h.name.1
 have hcell:=hc (s.find h.name.1) (by rw [Qcg]; exact hlt)
 have hel:(Qbp s s.n)[s.find h.name.1]'(by rw [Qcg]; exact hlt)=s.start (s.find h.name.1):=by simp [Qbp]
 rw [hel] at hcell
 obtain ⟨x,hx,fi,hfi⟩:=V2 (h.name.1) (s.find h.name.1)
 rw [← hfi] at hcell hFx hlt ⊢
 obtain ⟨st,hst_⟩:=V1 (s.start fi)
 rw [← hst_] at hcell ⊢
 rw [← hx] at hFx
 unfold tyV
 rw [← hx]
 have hk':(h.kind == 9)=true:=by rw [hk]; rfl
 obtain ⟨HFx,HST,HCL⟩:=Z3 hFx hst hcell
 have i0:=nZ fi
 have i1:(fi:Int) < (s.n:Int):=by omega
 obtain ⟨w1,g1,hw1,hg1,Hw1,Hg1,hT1,hT1E⟩:=T0 w 29 #[.int .i64 h.kind,.int .i64 h.at_,.int .i64 h.lo,.int .i64 h.hi,.int .i64 h.most,.slice Ai h.names.length ci,.slice Ap n cp,.string x,.int .i64 h.name.2]
 obtain ⟨t0,-,-,-,-,-,-,t7⟩:=X8 hT1
 obtain ⟨HE1,HP1,HB1,HT1,HBS⟩:=Z5 hT1E (HP.out.ext hT1E) (HB.out.ext hT1E) hT1 hb
 clear hw1 hg1 hT1 hT1E hC hst hcell hfi hst_ hx hFx hT hc hel hI hkn hlt h0 hk hb
 go_enter Tryz.func36,Tryz.ntmps36
 go_upto_region 1 with fail
 rw [← Hw1.out,← Hg1.out]
 go_wp2_with fail
 clear t0 t7
 refine Qdc (by kernel_rfl) (by kernel_rfl) w1 (Ext.rfl' _) ?_
 intro I _ f hf hc
 have q3:∀ n,(f n).cell? ⟨gp,3,none⟩=some (.pointer (some ⟨gt,0,none⟩)):=fun n=>(HP1.out.ext (hf n)).cell 3
 have q13:∀ n,(f n).cell? ⟨gb,13,none⟩=some (.pointer (some ⟨gp,0,none⟩)):=fun n=>(HB1.out.ext (hf n)).c13
 have q7:∀ n,(f n).cell? ⟨g1,7,none⟩=some (.string x):=fun n=>(HT1.out.ext (hf n)).cell 7
 obtain ⟨H1,HG⟩:=Z2 (fun n=>Qir hf hc (HFx.out (f n) (HE1.out.trans' (hf n)))) hf
 clear hf hc
 repeat (go_big_quiet_step ((go_at_call 72; with_reducible exact H1.out _)))
 refine wpQuiet_nil ?_
 rintro _ ⟨nq,rfl⟩
 have hEq:=HE1.out.trans' (HG.out nq)
 obtain ⟨w3,hw3⟩:=V1 (f nq)
 have b13:=q13 nq
 have p4:=(HP1.out.ext (HG.out nq)).cell 4
 have cc:=(hEq.cell (p:=⟨b,o + fi,none⟩) HBS.out).trans HCL.out
 rw [← hw3] at hEq b13 p4 cc ⊢
 simp only [gA,gH,gS] at p4
 have HEQ:=Qa hEq
 clear q3 q13 q7 hw3 hEq
 go_wp2_with fail
 go_ret
 exact ⟨rfl,NStep.ext (NStep.refl HST.out) HEQ.out⟩
theorem Qsk (e:EdgeP) (w:World):(Instr.buildSlice 64 1 #[(0,.agg (Qaj e).toArray)]).run Tryz.prog w = .ok (.slice (some ⟨w.heap.size,0,none⟩) 1 1) (w.alloc (.cells (Qaj e).toArray 70)):=by
 unfold Qaj
 kernel_rfl
theorem Qn9 {ops:Array Oper} {rest:List Oper} {o:Oper} {a:Act} {w:World} {Q:Exit→Act→World→Prop} (hgd:o.guard=none) (x:Operand) (ho:o.op = .buildSlice 64 1 #[(0,x)]) (e:EdgeP) (hx:a.eval x = .agg (Qaj e).toArray)
  (h:wpList Tryz.prog ops Q rest (a.put o.dst (.slice (some ⟨w.heap.size,0,none⟩) 1 1)) (w.alloc (.cells (Qaj e).toArray 70))):wpList Tryz.prog ops Q (o :: rest) a w :=
 wpList_plain hgd fun K hK=>by
  unfold Oper.wp execOp
  simp only [ho,List.map_toArray,List.map_cons,List.map_nil,hx,Sem.run_bind,Qsk e w,Result.andThen_ok]
  exact hK _ _ h
theorem Qgq (w:World) (t:TypeId) (l:List Value) (n:Nat) (hl:l.length=n) (g:Nat) (hg:g=w.heap.size):Reads (w.alloc (.cells l.toArray t)) (g + 1) n (some ⟨g,0,none⟩) 1 l:=by
 subst hg
 refine ⟨by rw [hl,Nat.one_mul],fun _=>⟨_,rfl,by simp,fun j u hu=>?_⟩⟩
 have e:(⟨w.heap.size,0,none⟩:Addr).add j=⟨w.heap.size,j,none⟩:=by unfold Addr.add; split <;> simp_all
 rw [e,World.cell?_alloc_new]
 simpa using hu
theorem Qp8 (e:EdgeP):∀ u ∈ Qaj e,u.oneCell'=true:=by
 intro u hu
 simp [Qaj] at hu
 rcases hu with rfl | rfl | rfl | rfl | rfl | rfl | rfl | rfl | rfl | rfl <;> rfl
theorem Qid (w:World) {ops:Array Oper} {rest:List Oper} {o:Oper} {a:Act} {Q:Exit→Act→World→Prop} (hgd:o.guard=none) (s x:Operand)
  (ho:o.op = .call { callee:=.builtin .append,args:=#[s,x],argTypes:=#[64,64] })
  (base:Nat) (v:Value) (n:Nat) (xs:List Value) (hs:a.eval s=v) (B:Nat) (A:Option Addr) (c:Nat) (news:List Value) (hx:a.eval x = .slice A 1 c)
  (hown:w.ownsRow base 70 10 v n xs) (hr:Reads w B 10 A 1 news) (h1:∀ u ∈ news,u.oneCell'=true) (hn:n≤1000000) (hbase:base≤w.heap.size)
  (h:∀ A' c' w',w'.ownsRow base 70 10 (.slice A' (n + 1) c') (n + 1) (xs ++ news)→w.grownBy w' v.ownBlock→(Value.ownBlock (.slice A' (n + 1) c')=v.ownBlock∨Value.ownBlock (.slice A' (n + 1) c')=some w.heap.size)→wpList Tryz.prog ops Q rest (a.put o.dst (.slice A' (n + 1) c')) w'):wpList Tryz.prog ops Q (o :: rest) a w:=by
 obtain ⟨i0,hi,hz,hs2,hb⟩:=Qjj
 exact Q7 w hgd s x 64 ho base 70 i0 _ 10 88 Tryz.underlying64 hi hz hs2 hb rfl (by decide) v n xs hs hown B A 1 c news hx hr h1 (by unfold maxLen; omega) (by omega) hbase h
theorem Qg9 (w:World) {ops:Array Oper} {rest:List Oper} {o:Oper} {a:Act} {Q:Exit→Act→World→Prop} (hgd:o.guard=none) (s x:Operand)
  (ho:o.op = .call { callee:=.builtin .append,args:=#[s,x],argTypes:=#[63,63] })
  (base:Nat) (v:Value) (n:Nat) (l:List ByteArray) (hs:a.eval s=v) (g:Nat) (u:ByteArray) (c:Nat) (hx:a.eval x = .slice (some ⟨g,0,none⟩) 1 c)
  (hown:w.ownsRow base 9 1 v n (Qi l)) (hr:Reads w (g + 1) 1 (some ⟨g,0,none⟩) 1 [.string u]) (hn:n≤5864062014634) (hbase:base≤w.heap.size)
  (h:∀ A' c' w',w'.ownsRow base 9 1 (.slice A' (n + 1) c') (n + 1) (Qi (l ++ [u]))→w.grownBy w' v.ownBlock→(Value.ownBlock (.slice A' (n + 1) c')=v.ownBlock∨Value.ownBlock (.slice A' (n + 1) c')=some w.heap.size)→wpList Tryz.prog ops Q rest (a.put o.dst (.slice A' (n + 1) c')) w'):wpList Tryz.prog ops Q (o :: rest) a w:=by
 obtain ⟨i0,hi,hz,hs2,hb⟩:=Qex
 rw [Qcq] at h
 exact Q7 w hgd s x 63 ho base 9 i0 _ 1 16 Tryz.underlying63 hi hz hs2 hb rfl (by decide) v n (Qi l) hs hown (g + 1) _ 1 c [.string u] hx hr (fun y hy=>by rw [List.mem_singleton.1 hy]; rfl) (by unfold maxLen; omega) (by omega) hbase h
theorem Qi2 (w:World) {o:Oper} {a:Act} {K:Act→World→Prop} {Q:Exit→Act→World→Prop} (s x:Operand)
  (ho:o.op = .call { callee:=.builtin .append,args:=#[s,x],argTypes:=#[80,80] })
  (base:Nat) (v:Value) (n:Nat) (xs:List Value) (hs:a.eval s=v) (B:Nat) (A:Option Addr) (c:Nat) (news:List Value) (hx:a.eval x = .slice A 1 c)
  (hown:w.ownsRow base 66 7 v n xs) (hr:Reads w B 7 A 1 news) (h1:∀ u ∈ news,u.oneCell'=true) (hn:n≤1000000) (hbase:base≤w.heap.size)
  (h:∀ A' c' w',w'.ownsRow base 66 7 (.slice A' (n + 1) c') (n + 1) (xs ++ news)→w.grownBy w' v.ownBlock→(Value.ownBlock (.slice A' (n + 1) c')=v.ownBlock∨Value.ownBlock (.slice A' (n + 1) c')=some w.heap.size)→K (a.put o.dst (.slice A' (n + 1) c')) w'):o.wp Tryz.prog a w K Q:=by
 obtain ⟨i0,hi,hz,hs2,hb⟩:=Qp3
 refine Qbo w s x 80 ho base 66 i0 _ 7 88 Tryz.underlying80 hi hz hs2 hb rfl (by decide) v n xs hs hown B A 1 c news hx hr h1 (by unfold maxLen; omega) (by omega) hbase ?_
 intro v' w' h2 h3 h4
 have hv:∃ A' c',v' = .slice A' (n + 1) c':=by
  rcases h2.2 with ⟨e,h0⟩ | ⟨g,cap,cur,e,_⟩
  ·omega
  ·exact ⟨_,_,e⟩
 obtain ⟨A',c',hv⟩:=hv
 rw [hv] at h2 h4 ⊢
 exact h A' c' w' h2 h3 h4
theorem Qie {w:World} {base size n c:Nat} {e:TypeId} {A:Option Addr} {xs:List Value} (h:w.ownsRow base e size (.slice A n c) n xs):∀ a,A=some a→base≤a.block∧a.block < w.heap.size:=by
 intro a ha
 rcases h.2 with ⟨hv,_⟩ | ⟨g,cap,cur,hv,hb,hh,_⟩
 ·injection hv with h1; rw [ha] at h1; cases h1
 ·injection hv with h1; rw [ha] at h1; injection h1 with h1; rw [h1]
  refine ⟨hb,?_⟩
  rcases Nat.lt_or_ge g w.heap.size with hlt | hge
  ·exact hlt
  ·rw [Array.getElem?_eq_none hge] at hh; cases hh
theorem NSt.push_node {w8 wX w4:World} {gp gl gt n cn c m co c4:Nat} {An A Ao A4:Option Addr} {L:List NodeP} {U:Nat→Prop} {base:Nat} {wK w:World} {h:TyH} {xs:List Value} (hS:NSt wK gp gl gt n cn An w A c L U) (hrow:w.ownsRow wK.heap.size 66 7 (.slice A L.length c) L.length xs) (hel:∀ k (hk:k < L.length),ElAt w L[k] U ((xs.drop (k * 7)).take 7)) (hgpK:gp < wK.heap.size)
  (hE:Ext w w8) (hOn:w8.ownsRow base 9 1 (.slice Ao m co) m (Qi (nms h.names))) (hbase:w.heap.size≤base) (hm:m=h.names.length) (hX:Ext w8 wX)
  (hO4:w4.ownsRow wK.heap.size 66 7 (.slice A4 (L.length + 1) c4) (L.length + 1) (xs ++ [.int .i64 h.kind,.int .i64 h.at_,.int .i64 h.lo,.int .i64 h.hi,.int .i64 h.most,.slice Ao m co,.slice none 0 0])) (hg:wX.grownBy w4 (Value.slice A L.length c).ownBlock)
  (hb:Value.ownBlock (.slice A4 (L.length + 1) c4)=(Value.slice A L.length c).ownBlock∨Value.ownBlock (.slice A4 (L.length + 1) c4)=some wX.heap.size) :
  NSt wK gp gl gt n cn An (w4.setCell ⟨gp,1,none⟩ (.slice A4 (L.length + 1) c4)) A4 c4 (L ++ [nd0 h]) (fun i=>U i∨∃ a,Ao=some a∧a.block=i)∧Mv (XN gp A) w (w4.setCell ⟨gp,1,none⟩ (.slice A4 (L.length + 1) c4))∧∀ a,A4=some a→A=some a∨w.heap.size≤a.block:=by
 have hin:=Qie hOn
 have hAK:=hS.ownA
 have hmX:Mv (fun i=>∃ a,A=some a∧a.block=i) w8 w4:=(Mv.of_ext hX).trans (Mv.of_grown hg fun g hg'=>Qal hg')
 refine NSt.push hS hel hrow.1 (hE.trans' hX) hO4 hg hb ⟨Ao,co,none,0,?_,?_,⟨rfl,fun hh=>absurd hh (Nat.lt_irrefl _)⟩,fun a ha=>⟨a,ha,rfl⟩,fun a ha=>by cases ha⟩ (fun i ⟨a,ha,e⟩=>?_) hgpK
 ·unfold Qbm nd0
  rw [Qt,hm]
  rfl
 ·have h1:Reads w8 w8.heap.size 1 Ao (nms h.names).length (Qi (nms h.names)):=by
   rw [Qt,← hm]
   exact Reads.of_own hOn
  exact Reads.mv h1 hmX fun a ha ⟨a2,ha2,e⟩=>by have:=hAK a2 ha2; have:=hin a ha; omega
 ·have:=hin a ha
  have h8:=hmX.size
  have hx:=hX.size
  have hw:=hS.mv.size
  refine ⟨by omega,by omega,by omega,by omega⟩
def NodLoop (s:Sch) (wK:World) (gp gl gt cn:Nat) (An:Option Addr) (w:World) (A:Option Addr) (U:Nat→Prop) (h:TyH) (p:Nat→PtH) (t:Nat→Ty) (L:List NodeP) (k:Nat) (Ae:Option Addr) (ce:Nat) (wr:World):Prop :=
 ∃ A2 c2 U2,NSt wK gp gl gt s.n cn An wr A2 c2 (L ++ nd0 h :: s.kidsTo p t (L.length + 1) k) U2∧Mv (XN gp A) w wr∧(∀ a,A2=some a→A=some a∨w.heap.size≤a.block)∧(∀ i,U2 i→U i∨w.heap.size≤i) ∧
  wr.ownsRow w.heap.size 70 10 (.slice Ae k ce) k (Qy (Qca s L.length p t k))∧∀ a,Ae=some a→¬ XN gp A2 a.block∧¬ U2 a.block
section
variable {s:Sch} {wK w wr w5 w6 wX w7:World} {gp gl gt cn k ce ce':Nat} {An A A2 Ae Ae':Option Addr} {U U2:Nat→Prop} {h:TyH} {p:Nat→PtH} {t:Nat→Ty} {L:List NodeP}
theorem NodLoop.start {c4:Nat} {A4:Option Addr} {V:Nat→Prop} (h1:NSt wK gp gl gt s.n cn An wr A4 c4 (L ++ [nd0 h]) V) (hm:Mv (XN gp A) w wr) (hA:∀ a,A4=some a→A=some a∨w.heap.size≤a.block) (hU:∀ i,V i→U i∨w.heap.size≤i):NodLoop s wK gp gl gt cn An w A U h p t L 0 none 0 wr :=
 ⟨A4,c4,V,h1,hm,hA,hU,World.ownsRow_nil _ _ _ _,fun _ ha=>by cases ha⟩
theorem NodLoop.step {c2:Nat} (hgpK:gp < wK.heap.size) (hKw:wK.heap.size≤w.heap.size) (_h1:NSt wK gp gl gt s.n cn An wr A2 c2 (L ++ nd0 h :: s.kidsTo p t (L.length + 1) k) U2) (hm:Mv (XN gp A) w wr) (hA:∀ a,A2=some a→A=some a∨w.heap.size≤a.block) (hU:∀ i,U2 i→U i∨w.heap.size≤i)
  (hO:wr.ownsRow w.heap.size 70 10 (.slice Ae k ce) k (Qy (Qca s L.length p t k))) (hAe:∀ a,Ae=some a→¬ XN gp A2 a.block∧¬ U2 a.block)
  (hE5:Ext wr w5) (hN:NStep wK gp gl gt s.n cn An w5 A2 U2 (L ++ nd0 h :: s.kidsTo p t (L.length + 1) (k + 1)) w6) (hX:Ext w6 wX)
  (hO7:w7.ownsRow w.heap.size 70 10 (.slice Ae' (k + 1) ce') (k + 1) (Qy (Qca s L.length p t (k + 1)))) (hg:wX.grownBy w7 (Value.slice Ae k ce).ownBlock) (hb:Value.ownBlock (.slice Ae' (k + 1) ce')=(Value.slice Ae k ce).ownBlock∨Value.ownBlock (.slice Ae' (k + 1) ce')=some wX.heap.size) :
  NodLoop s wK gp gl gt cn An w A U h p t L (k + 1) Ae' ce' w7:=by
 obtain ⟨A3,c3,U3,n1,n2,n3,n4⟩:=hN
 have hAin:=Qie hO
 have hwr5:=hE5.size
 have h56:=n2.size
 have h6X:=hX.size
 have hmX:Mv (fun i=>∃ a,Ae=some a∧a.block=i) wX w7:=Mv.of_grown hg fun g hg'=>Qal hg'
 have hm7:Mv (fun i=>∃ a,Ae=some a∧a.block=i) w6 w7:=(Mv.of_ext hX).trans hmX
 have hAe3:∀ a,Ae=some a→¬ XN gp A3 a.block∧¬ U3 a.block:=by
  intro a ha
  have hlt:=(hAin a ha).2
  refine ⟨fun hx=>?_,fun hu=>?_⟩
  ·rcases hx with hx | ⟨a3,ha3,e⟩
   ·exact (hAe a ha).1 (.inl hx)
   ·rcases n3 a3 ha3 with q | q
    ·exact (hAe a ha).1 (.inr ⟨a3,q,e⟩)
    ·omega
  ·rcases n4 _ hu with q | q
   ·exact (hAe a ha).2 q
   ·omega
 have hk:=n1.keep hm7 (fun i ⟨a,ha,e⟩=>by have:=(hAin a ha).1; omega) (fun ⟨a,ha,e⟩=>by have:=(hAin a ha).1; omega) (fun a3 ha3 ⟨a,ha,e⟩=>(hAe3 a ha).1 (.inr ⟨a3,ha3,e.symm⟩)) (fun i hi ⟨a,ha,e⟩=>(hAe3 a ha).2 (by rw [e]; exact hi))
 refine ⟨A3,c3,U3,hk,?_,fun a3 ha3=>?_,fun i hi=>?_,hO7,fun a ha=>?_⟩
 ·have h06:Mv (XN gp A) w w6:=(hm.ext hE5).trans' n2 (XN.trans hA)
  exact h06.trans' hm7 fun i hi _ ⟨a,ha,e⟩=>by have:=(hAin a ha).1; omega
 ·rcases n3 a3 ha3 with q | q
  ·exact hA a3 q
  ·right; have:=hm.size; omega
 ·rcases n4 i hi with q | q
  ·exact hU i q
  ·right; have:=hm.size; omega
 ·rcases hb with hb | hb
  ·rw [ha] at hb
   obtain ⟨a2,ha2,e2⟩:=Qal (A:=Ae) (g:=a.block) (n:=k) (c:=ce) hb.symm
   rw [← e2]
   exact hAe3 a2 ha2
  ·rw [ha] at hb
   have e:a.block=wX.heap.size:=by simpa [Value.ownBlock] using hb
   refine ⟨fun hx=>?_,fun hu=>?_⟩
   ·rcases hx with hx | ⟨a3,ha3,e3⟩
    ·have:=hm.size; omega
    ·have:=(n1.ownA a3 ha3).2; omega
   ·have:=(n1.free _ hu).1; omega
theorem NodLoop.done {n cap g:Nat} (hk:h.kind≠9) (h1:NSt wK gp gl gt s.n cn An wr (some ⟨g,0,none⟩) cap (L ++ nd0 h :: s.kidsTo p t (L.length + 1) n) U2) (hm:Mv (XN gp A) w wr) (hA:∀ a,some (⟨g,0,none⟩:Addr)=some a→A=some a∨w.heap.size≤a.block) (hU:∀ i,U2 i→U i∨w.heap.size≤i)
  (hO:wr.ownsRow w.heap.size 70 10 (.slice Ae n ce) n (Qy (Qca s L.length p t n))) (hAe:∀ a,Ae=some a→¬ XN gp (some ⟨g,0,none⟩) a.block∧¬ U2 a.block) :
  NStep wK gp gl gt s.n cn An w A U (L ++ s.nodesOf (.mk h n p t) L.length) (wr.setCell ⟨g,L.length * 7 + 6,none⟩ (.slice Ae n ce)):=by
 have hme:L.length < (L ++ nd0 h :: s.kidsTo p t (L.length + 1) n).length:=by rw [List.length_append,List.length_cons]; omega
 have hget:(L ++ nd0 h :: s.kidsTo p t (L.length + 1) n)[L.length]'hme=nd0 h:=by simp
 have hin:=Qie hO
 have hed:EdgesAt wr wr.heap.size Ae (Qca s L.length p t n):=by
  unfold EdgesAt
  rw [Qgp]
  exact Reads.of_own hO
 have h2:=h1.edges (es:=Qca s L.length p t n) (Ae:=Ae) (ce:=ce) hme (by rw [hget]; rfl) hed (fun a ha=>⟨(hin a ha).2,fun e=>(hAe a ha).1 (.inl e),fun e=>(hAe a ha).1 (.inr ⟨_,rfl,e.symm⟩)⟩)
 rw [hget,Qs2,Qgp] at h2
 rw [Qp5 s h n p t L hk]
 refine ⟨_,_,_,h2,?_,hA,fun i hi=>?_⟩
 ·refine hm.set ?_ _
  rcases hA _ rfl with q | q
  ·exact .inr (.inr ⟨_,q,rfl⟩)
  ·exact .inl q
 ·rcases hi with hi | ⟨a,ha,e⟩
  ·exact hU i hi
  ·right; rw [← e]; exact (hin a ha).1
end
end Go.Proofs.YtanpljalbijfkaaGreat
