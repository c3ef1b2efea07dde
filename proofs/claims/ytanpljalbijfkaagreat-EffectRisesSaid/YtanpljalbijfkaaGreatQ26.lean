/- . -/
import Derived.Test.YtanpljalbijfkaaGreatQ23
import Derived.Test.YtanpljalbijfkaaGreatQ24
import Derived.Test.YtanpljalbijfkaaGreatQ25
namespace Go.Proofs.YtanpljalbijfkaaGreat
open Go.RowKit
set_option maxHeartbeats 16000000
def Qbh (l:List StP):List Value:=l.flatMap stV
theorem Qgs (l:List StP):∀ (k:Nat) (hk:k < l.length) (j:Nat) (v:Value),(stV l[k])[j]? = some v→(Qbh l)[k * 3 + j]? = some v:=by
 induction l with
 | nil=>intro k hk; simp at hk
 | cons e r ih =>
  intro k hk j v hv
  show (stV e ++ Qbh r)[k * 3 + j]? = some v
  have hl:(stV e).length=3:=rfl
  cases k with
  | zero =>
   have hv':(stV e)[j]? = some v:=hv
   have hj:j < (stV e).length:=(List.getElem?_eq_some_iff.1 hv').1
   rw [Nat.zero_mul,Nat.zero_add,List.getElem?_append_left hj]
   exact hv'
  | succ k =>
   rw [List.getElem?_append_right (by rw [hl]; omega),hl,show (k + 1) * 3 + j - 3=k * 3 + j by omega]
   exact ih k (by simpa using hk) j v hv
def StpsAt (w:World) (B:Nat) (A:Option Addr) (l:List StP):Prop:=Reads w B 3 A l.length (Qbh l)
theorem StpsAt.ext {w w':World} {A:Option Addr} {l:List StP} (h:StpsAt w w.heap.size A l) (hE:Ext w w'):StpsAt w' w'.heap.size A l :=
 (Reads.keep h fun _p hp=>hE.cell hp).more hE.size
theorem StpsAt.cell {w:World} {B:Nat} {A:Option Addr} {l:List StP} (h:StpsAt w B A l) (hn:0 < l.length):∃ b o,A=some ⟨b,o,none⟩∧b < B∧∀ k (hk:k < l.length),w.rangeAt b (o + k * 3) (stV l[k]):=by
 obtain ⟨b,o,e,hb,hc⟩:=h.form hn (by omega)
 refine ⟨b,o,e,hb,fun k hk j v hv=>?_⟩
 have:=hc (k * 3 + j) v (Qgs l k hk j v hv)
 rw [← Nat.add_assoc] at this
 exact this
def Qk8 (l:List StP):Prop:=∀ k (hk:k < l.length),(l[k]).name.size≤maxLen
def goF (s:Sch) (x:Nat × Nat) (st:StP):Option (Nat × Nat):=if stB st=true then Qdh s x st else none
def walkF (s:Sch):Nat × Nat→List StP→Option (Nat × Nat)
 | x,[]=>some x
 | x,st :: r=>match goF s x st with | some y=>walkF s y r | none=>none
def Qj1:Option (Nat × Nat)→Value
 | none=>.tuple #[.int .i64 (-1),.int .i64 (-1),.bool false]
 | some y=>.tuple #[.int .i64 (y.1:Int),.int .i64 (y.2:Int),.bool true]
def rootP (s:Sch):Nat × Nat:=(s.rootI,Qcc s)
theorem Qf0 (s:Sch) (a b:List StP):∀ x,walkF s x (a ++ b)=match walkF s x a with | some y=>walkF s y b | none=>none:=by
 induction a with
 | nil=>intro x; rfl
 | cons st r ih =>
  intro x
  show (match goF s x st with | some y=>walkF s y (r ++ b) | none=>none)=match (match goF s x st with | some y=>walkF s y r | none=>none) with | some y=>walkF s y b | none=>none
  cases goF s x st with
  | none=>rfl
  | some y=>exact ih y
theorem Qjo {s:Sch} {x y:Nat × Nat} {l:List StP} {k:Nat} (hk:k < l.length) (h:walkF s x (l.take k)=some y):walkF s x (l.take (k + 1))=goF s y l[k]:=by
 rw [List.take_add_one,Qf0,h,List.getElem?_eq_getElem hk]
 show (match goF s y l[k] with | some y=>some y | none=>none)=_
 cases goF s y l[k] <;> rfl
theorem Qqf {s:Sch} {x:Nat × Nat} {l:List StP} {k:Nat} (h:walkF s x (l.take k)=none):walkF s x l=none:=by
 have e:l=l.take k ++ l.drop k:=(List.take_append_drop k l).symm
 rw [e,Qf0,h]
theorem Qsn {s:Sch} (hg:s.Good) (hz:SchSz s) {x y:Nat × Nat} {st:StP} (h1:x.1 < s.nodes.length) (h2:x.2 < s.ws.length) (h:Qdh s x st=some y):y.1 < s.nodes.length∧y.2 < s.ws.length:=by
 unfold Qdh at h
 cases he:Qhe s x.1 st with
 | none=>rw [he] at h; cases h
 | some e =>
  rw [he] at h
  injection h with h
  subst h
  unfold Qhe at he
  have hp:=List.find?_some he
  have hm:=List.mem_of_find?_eq_some he
  rw [Qar h1] at hp hm
  obtain ⟨i,hi,rfl⟩:=List.getElem_of_mem hm
  have hok:=(Qbt hg hz h1).edge i hi
  obtain ⟨m,hm1,hm2⟩:=hok.to_ (Qfz hok hp)
  obtain ⟨l,hl1,hl2⟩:=hok.lab
  refine ⟨?_,?_⟩
  ·show (s.nodes[x.1].edges[i].tgt).toNat < _
   rw [hm1]; exact hm2
  ·show jnS s x.2 (s.nodes[x.1].edges[i].label).toNat < _
   rw [hl1]; exact Qij hg h2 hl2
set_option maxRecDepth 100000 in
theorem Qgt (gp:Nat) (s:Sch) (A:Option Addr) (c n:Nat) (l:List StP) (w:World) (h:PlanAt w gp s) (hg:s.Good) (hz:SchSz s) (hl:StpsAt w w.heap.size A l) (hn:n=l.length) (hsz:Qk8 l) (hnb:n≤4611686018427387904):Calls Tryz.prog 13 #[.pointer (some ⟨gp,0,none⟩),.slice A n c] w (fun e w'=>e = .returned (Qj1 (walkF s (rootP s) l))∧Ext w w'):=by
 obtain ⟨gl,hpl⟩:=h.lat
 obtain ⟨HLAT,HROOT,HBOT,HSTEP,HIN,HMORE,HSTOP⟩:=Z7 (fun w1 (hE:Ext w w1)=>Qb1 gp gl s w1 (hpl.ext hE)) (fun w1 (hE:Ext w w1)=>Qd0 gp s w1 (h.ext hE)) (fun w1 (hE:Ext w w1)=>Qfy gl s w1 (hpl.2.2.ext hE) hg) (fun (y:Nat × Nat) st w1 (hE:Ext w w1) h1 h2=>Qmk gp s w1 (h.ext hE) hg hz y st h1 h2) (fun (y y':Nat × Nat) st h1 h2 h3=>Qsn hg hz (x:=y) (y:=y') (st:=st) h1 h2 h3) (fun (k:Nat) (y:Nat × Nat) (hk:k < l.length) h=>Qjo (s:=s) (x:=rootP s) (y:=y) hk h) (fun (k:Nat) h=>Qqf (s:=s) (x:=rootP s) (l:=l) (k:=k) h)
 have HX0:=Qa (show walkF s (rootP s) (l.take 0)=some (s.rootI,Qcc s) from rfl)
 obtain ⟨HX1,HX2⟩:=Z2 (Qi3 hg) (Qet hg)
 have HTK:=Qa (show l.take l.length=l from List.take_length)
 obtain ⟨R,hR⟩:=V1 (walkF s (rootP s) l)
 rw [← hR] at HSTOP ⊢
 have HRR:=Qa hR
 obtain ⟨RI,hRI,BI,hBI⟩:=V2 (s.rootI) (Qcc s)
 rw [← hRI] at HROOT HX0 HX1
 rw [← hBI] at HBOT HX0 HX2
 obtain ⟨HL,HN,HSZ⟩:=Z3 hl hn hsz
 have hn0:=nZ n
 obtain ⟨w1,g7,hw1,hg7,Hw1,Hg7,hX,hXE⟩:=T0 w 103 #[.int .i64 (RI:Int),.int .i64 (BI:Int)]
 obtain ⟨HE1,HX⟩:=Z2 hXE hX
 have hlo7:w.heap.size≤g7:=by omega
 clear hw1 hg7 hX hXE hR hRI hBI hl hn hsz h hg hz hpl
 go_enter Tryz.func13,Tryz.ntmps13
 go_wp2_with fail
 refine (HROOT.out w (Ext.rfl' w)).mono ?_
 rintro e w' ⟨rfl,rfl⟩
 go_wp2_with fail
 refine (HLAT.out w (Ext.rfl' w)).mono ?_
 rintro e w' ⟨rfl,rfl⟩
 go_wp2_with fail
 refine (HBOT.out w (Ext.rfl' w)).mono ?_
 rintro e w' ⟨rfl,rfl⟩
 go_upto_region 4 with fail
 rw [← Hw1.out,← Hg7.out]
 go_wp2_with fail
 go_loopw [20] (fun i wr=>∃ (k y1 y2:Nat),k≤n∧i = .int .i64 (k:Int)∧Ext w wr∧Blk wr g7 103 #[.int .i64 (y1:Int),.int .i64 (y2:Int)]∧Hid (walkF s (rootP s) (l.take k)=some (y1,y2)∧y1 < s.nodes.length∧y2 < s.ws.length)) (fun i _=>n - (intOf i).toNat)
 case atStart=>exact ⟨0,RI,BI,Nat.zero_le _,rfl,HE1.out,HX.out,⟨HX0.out,HX1.out,HX2.out⟩⟩
 case round =>
  obtain ⟨k,y1,y2,hk,rfl,hE,hB,HY⟩:=hrel
  by_cases hlt:k < n
  ·have hkl:k < l.length:=by have:=HN.out; omega
   obtain ⟨b,o,rfl,hb,hc⟩:=HL.out.cell (by omega)
   have h1:=hc k hkl
   have hmore:=HMORE.out k (y1,y2) hkl HY.out.1
   have hss:=HSZ.out k hkl
   obtain ⟨st,hst⟩:=V1 (l[k])
   rw [← hst] at h1 hmore hss
   have hstop:=fun h=>HSTOP.out (k + 1) h
   rw [hmore] at hstop
   obtain ⟨HMO,HST,HSS⟩:=Z3 hmore hstop hss
   have hi1:=fun y' h3=>HIN.out (y1,y2) y' st HY.out.2.1 HY.out.2.2 h3
   have hstp:=fun w1 (hE:Ext w w1)=>HSTEP.out (y1,y2) st w1 hE HY.out.2.1 HY.out.2.2
   obtain ⟨HI,HSP⟩:=Z2 hi1 hstp
   have j0:=nZ k
   have j1:(k:Int) < (n:Int):=by omega
   have c0:=(hE.cell (p:=⟨b,o + k * 3,none⟩) hb).trans (h1 0 (.int .i64 st.kind) rfl)
   have c1:=(hE.cell (p:=⟨b,o + k * 3 + 1,none⟩) hb).trans (h1 1 (.int .i64 st.n) rfl)
   have c2:=(hE.cell (p:=⟨b,o + k * 3 + 2,none⟩) hb).trans (h1 2 (.string st.name) rfl)
   obtain ⟨w5,g9,hw5,hg9,Hw5,Hg9,hV,hVE⟩:=T0 wr 76 #[.int .i64 st.kind,.int .i64 st.n,.string st.name]
   obtain ⟨HE5,HV5,HB5⟩:=Z3 (hE.trans' hVE) hV (hB.ext hVE)
   obtain ⟨v0,v1,v2⟩:=X3 hV
   clear hc h1 hmore hss hst hstop hi1 hstp hw5 hg9 hV hVE hE hB hb HY
   go_upto_region 7 with fail
   rw [← Hw5.out,← Hg9.out]
   clear c0 c1 c2
   obtain ⟨w6,g6,hw6,hg6,Hw6,Hg6,hU,hUE⟩:=T0 w5 76 #[.int .i64 st.kind,.int .i64 st.n,.string st.name]
   obtain ⟨HRT,HE6,HV6,HB6⟩:=Z4 (Qoe g6 1 st w6 (Qai (vs:=stV st) hU) hU.lt HSS.out) (HE5.out.trans' hUE) (HV5.out.ext hUE) (HB5.out.ext hUE)
   clear hw6 hg6 hU hUE
   go_wp2_with fail
   rw [← Hw6.out,← Hg6.out]
   refine HRT.out.mono ?_
   rintro e w7 ⟨rfl,hE7⟩
   obtain ⟨HE7,HV7,HB7⟩:=Z3 (HE6.out.trans' hE7) (HV6.out.ext hE7) (HB6.out.ext hE7)
   obtain ⟨SB,hSB⟩:=V1 (stB st)
   rw [← hSB]
   have HSB:=Qa hSB
   clear hE7 v0 v1 v2 hSB
   cases SB with
   | false =>
    have HX:=Qa (HST.out (by unfold goF; rw [← HSB.out,if_neg (by decide)]))
    go_wp2_with fail
    go_ret3
    exact ⟨by rw [HX.out]; rfl,HE7.out⟩
   | true =>
    have hgo:goF s (y1,y2) st=Qdh s (y1,y2) st:=by unfold goF; rw [← HSB.out,if_pos rfl]
    have HGO:=Qa hgo
    obtain ⟨v0,v1,v2⟩:=X3 HV7.out
    obtain ⟨p0,p1⟩:=X2 HB7.out
    have HSP7:=Qa (HSP.out w7 HE7.out)
    unfold stV at HSP7
    clear hgo
    go_upto_region 9 with fail
    go_wp2_with fail
    refine HSP7.out.mono ?_
    rintro e w8 ⟨rfl,hE8⟩
    have HE8:=Qa (HE7.out.trans' hE8)
    have hB8:=HB7.out.ext hE8
    obtain ⟨q0,q1⟩:=X2 hB8
    obtain ⟨f0,f1⟩:=Y2 hB8
    have HB8:=Qa hB8
    obtain ⟨R2,hR2⟩:=V1 (Qdh s (y1,y2) st)
    rw [← hR2]
    have HR2:=Qa hR2
    clear hE8 hB8 hR2 v0 v1 v2 p0 p1
    cases R2 with
    | none =>
     have HX:=Qa (HST.out (by rw [HGO.out,← HR2.out]))
     unfold Qry
     go_wp2_with fail
     go_ret3
     exact ⟨by rw [HX.out]; rfl,(HE8.out.setCell (p:=⟨g7,0,none⟩) hlo7 _).setCell (p:=⟨g7,1,none⟩) hlo7 _⟩
    | some y =>
     obtain ⟨z1,z2⟩:=y
     have hin:=HI.out (z1,z2) HR2.out.symm
     have HNW:=Qa (show walkF s (rootP s) (l.take (k + 1))=some (z1,z2)∧z1 < s.nodes.length∧z2 < s.ws.length from ⟨by rw [HMO.out,HGO.out,← HR2.out],hin.1,hin.2⟩)
     unfold Qry
     dsimp only
     clear hin
     go_wp2_with fail
     go_roundw
     case rel=>exact ⟨k + 1,z1,z2,by omega,by go_num,(HE8.out.setCell (p:=⟨g7,0,none⟩) hlo7 _).setCell (p:=⟨g7,1,none⟩) hlo7 _,(HB8.out.set_ 0 _).set_ 1 _,HNW.out⟩
     case measure=>simp [intOf]; omega
  ·obtain rfl:k=n:=by omega
   have HX:=Qa (show R=some (y1,y2) by rw [HRR.out,← HY.out.1,HN.out,HTK.out])
   obtain ⟨p0,p1⟩:=X2 hB
   have HEr:=Qa hE
   clear hE hB
   go_wp2_with fail
   go_quiet (fail)
   go_wp2_with fail
   go_ret3
   exact ⟨by rw [HX.out]; rfl,Qp HEr.out nq⟩
def Qoh:ByteArray:=⟨#[108,111,119]⟩
def Qe9:ByteArray:=⟨#[104,105,103,104]⟩
def bX:ByteArray:=⟨#[120]⟩
def thE (k:Int):TyH:=⟨k,0,0,0,0,[],wd0⟩
def ptE:PtH:=⟨(bX,0),false,[(Qe9,0)],0,0,0,0,[]⟩
def Qtj:Ty:=.mk (thE 1) 0 (fun _=>ptE) (fun _=>.nil)
def tyE:Ty:=.mk (thE 7) 1 (fun _=>ptE) (fun _=>Qtj)
def schE:Sch:=⟨[(Qoh,0),(Qe9,0)],[((Qoh,0),(Qe9,0))],0,fun _=>wd0,fun _=>.nil,tyE⟩
def stpE1:StP:=⟨1,0,bX⟩
theorem Qeu:SchSz schE:=by
 have hb:∀ l:List Wd,(∀ x ∈ l,x.1.size≤10)→∀ k,(wNm l k).size≤maxLen:=fun l h k=>by
  unfold wNm
  rw [List.getD_eq_getElem?_getD]
  cases hk:l[k]? with
  | none=>simp [wd0,maxLen,ByteArray.size]
  | some x =>
   have:=h x (List.mem_of_getElem? hk)
   simp only [Option.getD_some]
   unfold maxLen
   omega
 have hty:∀ k,Q1 (.mk (thE k) 0 (fun _=>ptE) (fun _=>.nil)):=fun k=>⟨⟨by simp [thE],hb _ (by simp [thE])⟩,by simp [thE,wd0,maxLen,ByteArray.size],by omega,fun i hi=>absurd hi (Nat.not_lt_zero _)⟩
 refine ⟨⟨by simp [schE],hb _ (by decide)⟩,by simp [schE],by simp [schE],fun i hi=>absurd hi (Nat.not_lt_zero _),fun i hi=>absurd hi (Nat.not_lt_zero _),?_⟩
 refine ⟨⟨by simp [thE],hb _ (by simp [thE])⟩,by simp [thE,wd0,maxLen,ByteArray.size],by omega,fun i hi=>⟨by simp [ptE,bX,maxLen,ByteArray.size],⟨by simp [ptE],hb [(Qe9,0)] (by decide)⟩,⟨by simp [ptE],hb _ (by simp [ptE])⟩,hty 1⟩⟩
theorem Qhf:schE.badK schE.n=(0,0):=by decide +kernel
theorem Qqg:walkF schE (rootP schE) [stpE1]=some (1,1):=by decide +kernel
theorem Qoi:Qd3 schE=(0,0):=by decide +kernel
theorem Qik {fn:Func} {p:Tmp} {cs:Array Value} (h:fn.results=#[.cell p 31]) (tmps:Array Value) (w:World) (g:Nat) (hp:tmps.getD p undef = .pointer (some ⟨g,0,none⟩)) (hB:Blk w g 31 cs) (hi:(Tryz.prog.info? 31).map (·.size)=some cs.size) :
  (results fn tmps).run Tryz.prog w = .ok (.agg cs) w:=by
 have hp':tmps[p]?.getD undef = .pointer (some ⟨g,0,none⟩):=by simpa using hp
 have hl:=run_loadVar_row (P:=Tryz.prog) (ty:=31) w g 31 cs (0,0) _ hB Tryz.underlying31 rfl hi
 simp [results,h,hp',asAddr,hl]
theorem Qml {g:Nat} {w2:World} {fn:Func} {p:Tmp} {a:Act} {R:Ending→World→Prop} {cs:Array Value} (hB:Blk w2 g 31 cs) (hi:(Tryz.prog.info? 31).map (·.size)=some cs.size) (hfn:fn.results=#[.cell p 31]) (hp:a.tmps.getD p undef = .pointer (some ⟨g,0,none⟩)) (hd:a.defers = [])
  (hR:R (.returned (.agg cs)) w2):bodyPost Tryz.prog fn R .ret a w2 :=
 bodyPost_ret (Qik hfn _ _ g hp hB hi) hd hR
theorem Qs4:(Tryz.prog.info? 131).map (·.size)=some 18:=by kernel_rfl
set_option maxRecDepth 100000 in
theorem Qi4 (w:World):Calls Tryz.prog 28 #[] w (fun e w'=>∃ vs,e = .returned (.agg vs.toArray)∧SchAt w' schE vs∧Ext w w'):=by
 obtain ⟨w1,g1,hw1,hg1,Hw1,Hg1,hA,hAE⟩:=T0 w 31 #[.slice none 0 0,.slice none 0 0,.slice none 0 0,.int .i64 0,.int .i64 0,.int .i64 0,.int .i64 0,.int .i64 0,.slice none 0 0,.slice none 0 0,.string ⟨#[]⟩,.int .i64 0]
 obtain ⟨w2,g2,hw2,hg2,Hw2,Hg2,hB,hBE⟩:=T0 w1 27 #[.string ⟨#[108,111,119]⟩,.int .i64 0]
 obtain ⟨w3,g3,hw3,hg3,Hw3,Hg3,hC,hCE⟩:=T0 w2 27 #[.string ⟨#[104,105,103,104]⟩,.int .i64 0]
 obtain ⟨w4,g4,hw4,hg4,Hw4,Hg4,hD,hDE⟩:=T0 w3 27 #[.string ⟨#[104,105,103,104]⟩,.int .i64 0]
 obtain ⟨w5,g5,hw5,hg5,Hw5,Hg5,hE,hEE⟩:=T0 w4 131 #[.string ⟨#[120]⟩,.int .i64 0,.bool false,.slice (some ⟨g4,0,none⟩) 1 1,.int .i64 0,.int .i64 0,.int .i64 0,.int .i64 0,.slice none 0 0,.int .i64 1,.int .i64 0,.int .i64 0,.int .i64 0,.int .i64 0,.slice none 0 0,.slice none 0 0,.string ⟨#[]⟩,.int .i64 0]
 obtain ⟨w6,g6,hw6,hg6,Hw6,Hg6,hF,hFE⟩:=T0 w5 27 #[.string ⟨#[108,111,119]⟩,.int .i64 0,.string ⟨#[104,105,103,104]⟩,.int .i64 0]
 obtain ⟨w7,g7,hw7,hg7,Hw7,Hg7,hG,hGE⟩:=T0 w6 133 #[.string ⟨#[108,111,119]⟩,.int .i64 0,.string ⟨#[104,105,103,104]⟩,.int .i64 0]
 obtain ⟨w8,g8,hw8,hg8,Hw8,Hg8,hH,hHE⟩:=T0 w7 131 #[.string ⟨#[120]⟩,.int .i64 0,.bool false,.slice (some ⟨g4,0,none⟩) 1 1,.int .i64 0,.int .i64 0,.int .i64 0,.int .i64 0,.slice none 0 0,.int .i64 1,.int .i64 0,.int .i64 0,.int .i64 0,.int .i64 0,.slice none 0 0,.slice none 0 0,.string ⟨#[]⟩,.int .i64 0]
 have HS2:=Qa (show g2=g1 + 1 by rw [hg2,hw1,World.size_alloc,← hg1])
 have HS3:=Qa (show g3=g2 + 1 by rw [hg3,hw2,World.size_alloc,← hg2])
 have HS4:=Qa (show g4=g3 + 1 by rw [hg4,hw3,World.size_alloc,← hg3])
 have HS5:=Qa (show g5=g4 + 1 by rw [hg5,hw4,World.size_alloc,← hg4])
 have HS6:=Qa (show g6=g5 + 1 by rw [hg6,hw5,World.size_alloc,← hg5])
 have HS7:=Qa (show g7=g6 + 1 by rw [hg7,hw6,World.size_alloc,← hg6])
 have HS8:=Qa (show g8=g7 + 1 by rw [hg8,hw7,World.size_alloc,← hg7])
 obtain ⟨HE8,HA8,HB3,HC3,HB5,HC5,HB6,HC6⟩:=Z8 (((((((hAE.trans' hBE).trans' hCE).trans' hDE).trans' hEE).trans' hFE).trans' hGE).trans' hHE) (((((((hA.ext hBE).ext hCE).ext hDE).ext hEE).ext hFE).ext hGE).ext hHE) (hB.ext hCE) hC (((hB.ext hCE).ext hDE).ext hEE) ((hC.ext hDE).ext hEE) ((((hB.ext hCE).ext hDE).ext hEE).ext hFE) (((hC.ext hDE).ext hEE).ext hFE)
 obtain ⟨HE7,HD8,HF8,HG8,HH8⟩:=Z5 ((hE.ext hFE).ext hGE) ((((hD.ext hEE).ext hFE).ext hGE).ext hHE) ((hF.ext hGE).ext hHE) (hG.ext hHE) hH
 have hc3:=HC3.out
 obtain ⟨c0,c1⟩:=X2 hc3
 have HLT:=Qa (show g1 < g6∧g1 < g7∧g1 < g8∧g1 < g4∧w.heap.size≤g1 from by have h2:=HS2.out; have h3:=HS3.out; have h4:=HS4.out; have h5:=HS5.out; have h6:=HS6.out; have h7:=HS7.out; have h8:=HS8.out; omega)
 clear hw1 hg1 hA hAE hw2 hg2 hB hBE hw3 hg3 hC hCE hw4 hg4 hD hDE hw5 hg5 hE hEE hw6 hg6 hF hFE hw7 hg7 hG hGE hw8 hg8 hH hHE hc3
 go_enter Tryz.func28,Tryz.ntmps28
 go_upto_region 1 with fail
 rw [← Hw1.out,← Hg1.out]
 go_upto_region 2 with fail
 rw [← Hg2.out,← HS3.out,← Hw2.out,← Hw3.out]
 go_upto_region 3 with fail
 rw [← Hg4.out,← HS5.out,← Hw4.out,← Hw5.out]
 clear c0 c1
 have hb5:=HB5.out
 have hc5:=HC5.out
 obtain ⟨b0,b1⟩:=X2 hb5
 obtain ⟨c0,c1⟩:=X2 hc5
 rename_i Kz hKz
 refine wp_region_lit ?_
 refine wpList_plain rfl fun K0 hK0=>?_
 go_simp
 refine hK0 _ _ ?_
 refine wpList_plain rfl fun K1 hK1=>?_
 go_simp
 refine hK1 _ _ ?_
 refine wpList_plain rfl fun K2 hK2=>?_
 go_simp
 refine hK2 _ _ ?_
 rw [← Hw6.out,← Hg6.out]
 clear b0 b1 c0 c1 hb5 hc5
 have hb6:=HB6.out
 have hc6:=HC6.out
 obtain ⟨b0,b1⟩:=X2 hb6
 obtain ⟨c0,c1⟩:=X2 hc6
 refine wpList_plain rfl fun K0 hK0=>?_
 go_simp
 refine hK0 _ _ ?_
 refine wpList_plain rfl fun K1 hK1=>?_
 go_simp
 refine hK1 _ _ ?_
 refine wpList_plain rfl fun K2 hK2=>?_
 go_simp
 refine hK2 _ _ ?_
 refine wpList_plain rfl fun K3 hK3=>?_
 go_simp
 refine hK3 _ _ ?_
 rw [← Hw7.out,← Hg7.out]
 clear b0 b1 c0 c1 hb6 hc6
 refine wpList_load_mid rfl 131 _ rfl g5 0 rfl _ _ (Qeb HE7.out) Tryz.underlying131 rfl Qs4 ?_
 refine wpList_plain rfl fun K0 hK0=>?_
 go_simp
 refine hK0 _ _ ?_
 rw [← Hw8.out,← Hg8.out]
 refine wpList_plain rfl fun K0 hK0=>?_
 go_simp
 refine hK0 _ _ ?_
 refine wpList_plain rfl fun K1 hK1=>?_
 go_simp
 refine hK1 _ _ ?_
 refine wpList_store_mid rfl 31 _ _ rfl g1 0 #[.slice (some ⟨g6,0,none⟩) 2 2,.slice (some ⟨g7,0,none⟩) 1 1,.slice none 0 0,.int .i64 7,.int .i64 0,.int .i64 0,.int .i64 0,.int .i64 0,.slice none 0 0,.slice (some ⟨g8,0,none⟩) 1 1,.string ⟨#[]⟩,.int .i64 0] rfl rfl (Qc9 HA8.out (o:=0) (m:=(#[.slice (some ⟨g6,0,none⟩) 2 2,.slice (some ⟨g7,0,none⟩) 1 1,.slice none 0 0,.int .i64 7,.int .i64 0,.int .i64 0,.int .i64 0,.int .i64 0,.slice none 0 0,.slice (some ⟨g8,0,none⟩) 1 1,.string ⟨#[]⟩,.int .i64 0]:Array Value).size) nL) (by kernel_rfl) (by simp [Value.oneCell']) ?_
 have hb9:=Qga [.slice (some ⟨g6,0,none⟩) 2 2,.slice (some ⟨g7,0,none⟩) 1 1,.slice none 0 0,.int .i64 7,.int .i64 0,.int .i64 0,.int .i64 0,.int .i64 0,.slice none 0 0,.slice (some ⟨g8,0,none⟩) 1 1,.string ⟨#[]⟩,.int .i64 0] [.slice none 0 0,.slice none 0 0,.slice none 0 0,.int .i64 0,.int .i64 0,.int .i64 0,.int .i64 0,.int .i64 0,.slice none 0 0,.slice none 0 0,.string ⟨#[]⟩,.int .i64 0] HA8.out rfl
 obtain ⟨w9,hw9⟩:=V1 (w8.setCells g1 0 [.slice (some ⟨g6,0,none⟩) 2 2,.slice (some ⟨g7,0,none⟩) 1 1,.slice none 0 0,.int .i64 7,.int .i64 0,.int .i64 0,.int .i64 0,.int .i64 0,.slice none 0 0,.slice (some ⟨g8,0,none⟩) 1 1,.string ⟨#[]⟩,.int .i64 0])
 have hm9:=Mv.setCells (X:=fun i=>i=g1) (g:=g1) (Mv.rfl' _ w8) rfl [.slice (some ⟨g6,0,none⟩) 2 2,.slice (some ⟨g7,0,none⟩) 1 1,.slice none 0 0,.int .i64 7,.int .i64 0,.int .i64 0,.int .i64 0,.int .i64 0,.slice none 0 0,.slice (some ⟨g8,0,none⟩) 1 1,.string ⟨#[]⟩,.int .i64 0] 0
 rw [← hw9] at hb9 hm9
 show wpList _ _ _ _ _ (w8.setCells g1 0 [.slice (some ⟨g6,0,none⟩) 2 2,.slice (some ⟨g7,0,none⟩) 1 1,.slice none 0 0,.int .i64 7,.int .i64 0,.int .i64 0,.int .i64 0,.int .i64 0,.slice none 0 0,.slice (some ⟨g8,0,none⟩) 1 1,.string ⟨#[]⟩,.int .i64 0])
 rw [← hw9]
 obtain ⟨HB9,HM9⟩:=Z2 hb9 hm9
 clear hw9 hb9 hm9
 refine wpList_nil ?_
 refine hKz _ _ ?_
 go_wp2_with fail
 have HLT':=HLT.out
 refine Qml (g:=g1) HB9.out (by kernel_rfl) rfl rfl rfl ?_
 refine ⟨[.slice (some ⟨g6,0,none⟩) 2 2,.slice (some ⟨g7,0,none⟩) 1 1,.slice none 0 0,.int .i64 7,.int .i64 0,.int .i64 0,.int .i64 0,.int .i64 0,.slice none 0 0,.slice (some ⟨g8,0,none⟩) 1 1,.string ⟨#[]⟩,.int .i64 0],rfl,?_,HM9.out.below HE8.out (fun i e=>by rw [e]; exact HLT'.2.2.2.2)⟩
 have m4:=HM9.out.blk HD8.out (by omega)
 have m6:=HM9.out.blk HF8.out (by omega)
 have m7:=HM9.out.blk HG8.out (by omega)
 have m8:=HM9.out.blk HH8.out (by omega)
 have reads_of:∀ {g:Nat} {t:TypeId} {vs:List Value} {n k:Nat},Blk w9 g t vs.toArray→vs.length=n * k→Reads w9 w9.heap.size k (some ⟨g,0,none⟩) n vs:=fun {g t vs n k} hB hl=>⟨hl,fun _=>⟨_,rfl,hB.lt,fun j u hu=>by
  have e:(⟨g,0,none⟩:Addr).add j=⟨g,j,none⟩:=by
   unfold Addr.add
   split
   ·next h=>rw [h]
   ·simp
  rw [e,hB.cell,gA]
  exact hu⟩⟩
 refine ⟨_,_,_,_,_,_,_,rfl,reads_of (vs:=Q0 [(Qoh,0),(Qe9,0)]) m6 rfl,reads_of (vs:=Qb4 [((Qoh,0),(Qe9,0))]) m7 rfl,fun h=>absurd h (Nat.not_lt_zero _),?_⟩
 refine ⟨none,0,some ⟨g8,0,none⟩,1,rfl,Reads.none_,fun _=>⟨g8,0,rfl,m8.lt,fun i hi=>?_⟩⟩
 obtain rfl:i=0:=by omega
 refine ⟨some ⟨g4,0,none⟩,1,none,0,_,fun j v hv=>?_,reads_of (vs:=Q0 [(Qe9,0)]) m4 rfl,Reads.none_,⟨none,0,none,0,rfl,Reads.none_,fun h=>absurd h (Nat.not_lt_zero _)⟩⟩
 rw [show 0 + 0 * 18 + j=j by omega,m8.cell,gA]
 exact hv
def Qa6 (s:Sch):Nat→Int × Int
 | 0=>(Qaf s.root,Qbu s.root)
 | k + 1=>(IntKind.i64.wrap ((Qa6 s k).1 + Qaf (s.ty k)),if (Qa6 s k).2 < Qbu (s.ty k) then Qbu (s.ty k) else (Qa6 s k).2)
def Qil (s:Sch):Bool:=if 100 < s.ws.length∨400 < s.os.length∨100 < s.n then true else decide (2000 < (Qa6 s s.n).1) || decide (60 < (Qa6 s s.n).2)
set_option maxRecDepth 100000 in
theorem Qqh (s:Sch) (vs:List Value) (w:World) (hS:SchAt w s vs) (hz:SchSz s):Calls Tryz.prog 18 #[.agg vs.toArray] w (fun e w'=>e = .returned (.bool (Qil s))∧Ext w w'):=by
 obtain ⟨A1,c1,A2,c2,A3,c3,vr,rfl,hA1,hA2,hA3,hR⟩:=hS
 obtain ⟨y0,y1,y2,y3,y4,y5,y6,y7,y8,rfl⟩:∃ y0 y1 y2 y3 y4 y5 y6 y7 y8:Value,vr = [y0,y1,y2,y3,y4,y5,y6,y7,y8]:=by obtain ⟨y0,y1,y2,y3,y4,y5,y6,y7,y8,e⟩:=hR.nine; exact ⟨y0,y1,y2,y3,y4,y5,y6,y7,y8,e⟩
 obtain ⟨nw,hnw,no,hno,n,hn⟩:=V3 (s.ws.length) (s.os.length) (s.n)
 have hroot:=fun w1 (hE:Ext w w1)=>Qkm s.root w1 _ (hR.ext hE) hz.root
 obtain ⟨HNM,HSZ⟩:=Z2 hA3 (fun k (hk:k < s.n) w1 vt (hT:TyAt w1 w1.heap.size (s.ty k) vt)=>Qkm (s.ty k) w1 vt hT (hz.ty k hk))
 rw [← hn] at HNM HSZ
 have hgb:Qil s=if 100 < nw∨400 < no∨100 < n then true else decide (2000 < (Qa6 s n).1) || decide (60 < (Qa6 s n).2):=by rw [hnw,hno,hn]; rfl
 rw [hgb,← hnw,← hno,← hn]
 have hw0:nw≤5864062014634:=by rw [hnw]; exact hz.ws.1
 have ho0:no≤5864062014634:=by rw [hno]; exact hz.os
 have hn0':n≤5864062014634:=by rw [hn]; exact hz.n
 have HR:=Qa (show ∀ w1,Ext w w1→Calls Tryz.prog 48 #[.agg #[y0,y1,y2,y3,y4,y5,y6,y7,y8]] w1 (fun e w'=>e = .returned (.tuple #[.int .i64 (Qaf s.root),.int .i64 (Qbu s.root)])∧Ext w1 w') from fun w1 hE=>hroot w1 hE)
 clear hnw hno hn hA1 hA2 hA3 hR hz hgb hroot
 show Calls Tryz.prog 18 #[.agg #[.slice A1 nw c1,.slice A2 no c2,.slice A3 n c3,y0,y1,y2,y3,y4,y5,y6,y7,y8]] w _
 obtain ⟨w1,g1,hw1,hg1,Hw1,Hg1,hV,hVE⟩:=T0 w 31 #[.slice A1 nw c1,.slice A2 no c2,.slice A3 n c3,y0,y1,y2,y3,y4,y5,y6,y7,y8]
 obtain ⟨t0,t1,t2,t3,t4,t5,t6,t7,t8,t9,t10,t11⟩:=X12 hV
 obtain ⟨HE1,HV⟩:=Z2 hVE hV
 clear hw1 hg1 hV hVE
 by_cases d1:100 < nw
 ·have i1:(100:Int) < (nw:Int):=by omega
  rw [if_pos (.inl d1)]
  clear d1
  go_enter Tryz.func18,Tryz.ntmps18
  go_upto_region 1 with fail
  rw [← Hw1.out,← Hg1.out]
  go_wp2_with fail
  go_ret
  exact ⟨rfl,HE1.out⟩
 have i1:¬ (100:Int) < (nw:Int):=by omega
 by_cases d2:400 < no
 ·have i2:(400:Int) < (no:Int):=by omega
  rw [if_pos (.inr (.inl d2))]
  clear d1 d2
  go_enter Tryz.func18,Tryz.ntmps18
  go_upto_region 1 with fail
  rw [← Hw1.out,← Hg1.out]
  go_wp2_with fail
  go_ret
  exact ⟨rfl,HE1.out⟩
 have i2:¬ (400:Int) < (no:Int):=by omega
 by_cases d3:100 < n
 ·have i3:(100:Int) < (n:Int):=by omega
  rw [if_pos (.inr (.inr d3))]
  clear d1 d2 d3
  go_enter Tryz.func18,Tryz.ntmps18
  go_upto_region 1 with fail
  rw [← Hw1.out,← Hg1.out]
  go_wp2_with fail
  go_ret
  exact ⟨rfl,HE1.out⟩
 have i3:¬ (100:Int) < (n:Int):=by omega
 rw [if_neg (by omega)]
 obtain ⟨R,hR⟩:=V1 ((decide (2000 < (Qa6 s n).1) || decide (60 < (Qa6 s n).2)))
 rw [← hR]
 have HRR:=Qa hR
 have h00:Qa6 s 0=(Qaf s.root,Qbu s.root):=rfl
 have HG0:=Qa h00
 obtain ⟨C0,hC0,D0,hD0⟩:=V2 (Qaf s.root) (Qbu s.root)
 rw [← hC0,← hD0] at HG0 HR
 clear hR h00 hC0 hD0
 have hn100:n≤100:=by omega
 have hn0:=nZ n
 clear d1 d2 d3
 go_enter Tryz.func18,Tryz.ntmps18
 go_upto_region 1 with fail
 rw [← Hw1.out,← Hg1.out]
 go_wp2_with fail
 refine (HR.out w1 HE1.out).mono ?_
 rintro e w2 ⟨rfl,hE2⟩
 obtain ⟨HE2,HV2⟩:=Z2 (HE1.out.trans' hE2) (HV.out.ext hE2)
 clear hE2 HR t0 t1 t2 t3 t4 t5 t6 t7 t8 t9 t10 t11
 go_wp2_with fail
 go_loopw [5,3,4] (fun i n' d' wr=>∃ (k:Nat) (N D:Int),k≤n∧i = .int .i64 (k:Int)∧n' = .int .i64 N∧d' = .int .i64 D∧Ext w2 wr∧Hid (Qa6 s k=(N,D))) (fun i _ _ _=>n - (intOf i).toNat)
 case atStart=>exact ⟨0,C0,D0,Nat.zero_le _,rfl,rfl,rfl,Ext.rfl' _,HG0.out⟩
 case round =>
  obtain ⟨k,N,D,hk,rfl,rfl,rfl,hE,HG⟩:=hrel
  have t2:=(HV2.out.ext hE).cell 2
  simp only [gA,gH,gS] at t2
  by_cases hlt:k < n
  ·have hEw:=HE2.out.trans' hE
   obtain ⟨b,o,rfl,hb,hc⟩:=HNM.out (by omega)
   obtain ⟨vt,h1,h2⟩:=hc k hlt
   obtain ⟨z0,z1,z2,z3,z4,z5,z6,z7,z8,rfl⟩:∃ z0 z1 z2 z3 z4 z5 z6 z7 z8:Value,vt = [z0,z1,z2,z3,z4,z5,z6,z7,z8]:=by obtain ⟨y0,y1,y2,y3,y4,y5,y6,y7,y8,e⟩:=h2.nine; exact ⟨y0,y1,y2,y3,y4,y5,y6,y7,y8,e⟩
   have HRG:=Qa (show wr.rangeAt b (o + k * 11 + 2) [z0,z1,z2,z3,z4,z5,z6,z7,z8] from Qfs (xs:=[.string (s.nm k).1,.int .i64 (s.nm k).2]) fun j v hv=>(hEw.cell (p:=⟨b,o + k * 11 + j,none⟩) hb).trans (h1 j v hv))
   have hsz:=HSZ.out k hlt wr _ (h2.ext hEw)
   have hnx:Qa6 s (k + 1)=(IntKind.i64.wrap (N + Qaf (s.ty k)),if D < Qbu (s.ty k) then Qbu (s.ty k) else D):=by
    show (IntKind.i64.wrap ((Qa6 s k).1 + Qaf (s.ty k)),if (Qa6 s k).2 < Qbu (s.ty k) then Qbu (s.ty k) else (Qa6 s k).2)=_
    rw [HG.out]
   unfold Qg4 at hsz
   obtain ⟨C,hC,DD,hDD⟩:=V2 (Qaf (s.ty k)) (Qbu (s.ty k))
   rw [← hC,← hDD] at hsz hnx
   have HSK:=Qa (show Calls Tryz.prog 48 #[.agg #[z0,z1,z2,z3,z4,z5,z6,z7,z8]] wr (fun e w'=>e = .returned (.tuple #[.int .i64 C,.int .i64 DD])∧Ext wr w') from hsz)
   have HNX:=Qa hnx
   have i0:=nZ k
   have i4:(k:Int) < (n:Int):=by omega
   have HE:=Qa hE
   clear hc h1 h2 hEw hsz hnx hC hDD hE hb HG
   go_upto_region 7 with fail
   refine wp_region_lit ?_
   refine wpList_plain rfl fun K0 hK0=>?_
   go_simp
   refine hK0 _ _ ?_
   refine wpList_plain rfl fun K1 hK1=>?_
   go_simp
   refine hK1 _ _ ?_
   refine wpList_plain rfl fun K2 hK2=>?_
   go_simp
   refine hK2 _ _ ?_
   refine wpList_plain rfl fun K3 hK3=>?_
   go_simp
   refine hK3 _ _ ?_
   refine wpList_plain rfl fun K4 hK4=>?_
   go_simp
   refine hK4 _ _ ?_
   refine wpList_load_mid rfl 29 _ rfl b (o + k * 11 + 2) rfl _ _ HRG.out Tryz.underlying29 rfl Qfr ?_
   refine wpList_plain rfl fun K7 hK7=>?_
   go_simp
   refine HSK.out.mono ?_
   rintro e w3 ⟨rfl,hE3⟩
   have HE3:=Qa (HE.out.trans' hE3)
   clear hE3 t2
   refine hK7 _ _ ?_
   by_cases hd:D < DD
   ·have hnx:=HNX.out
    rw [if_pos hd] at hnx
    have HNY:=Qa hnx
    clear hnx
    go_wp2_with fail
    go_roundw
    case rel=>exact ⟨k + 1,IntKind.i64.wrap (N + C),DD,by omega,by go_num,by rw [wrap_64],rfl,HE3.out,HNY.out⟩
    case measure=>simp [intOf]; omega
   ·have hnx:=HNX.out
    rw [if_neg hd] at hnx
    have HNY:=Qa hnx
    clear hnx
    go_wp2_with fail
    go_roundw
    case rel=>exact ⟨k + 1,IntKind.i64.wrap (N + C),D,by omega,by go_num,by rw [wrap_64],rfl,HE3.out,HNY.out⟩
    case measure=>simp [intOf]; omega
  ·obtain rfl:k=n:=by omega
   have HX:=Qa (show R=(decide (2000 < N) || decide (60 < D)) by rw [HRR.out,HG.out])
   have HEr:=Qa (HE2.out.trans' hE)
   clear hE HG
   by_cases h2:2000 < N
   ·go_wp2_with fail
    go_ret
    exact ⟨Qb (by rw [HX.out]; simp [h2]),HEr.out⟩
   ·by_cases h3:60 < D
    ·go_wp2_with fail
     go_ret
     exact ⟨Qb (by rw [HX.out]; simp [h3]),HEr.out⟩
    ·go_wp2_with fail
     go_ret
     exact ⟨Qb (by rw [HX.out]; simp [h2,h3]),HEr.out⟩
section
variable {P:Program} {ops:Array Oper} {md:Region.Mode} {S:World→Prop}
def Qf1 (P:Program) (ops:Array Oper) (Q:Exit→Act→World→Prop) (S:World→Prop) (K:Act→World→Prop) (f:Oper):List Oper→Act→World→Prop
 | [],a,w=>Qcb P ops Q S K [f] a w
 | o :: r,a,w=>Qcb P ops Q S K (f :: o :: r) a w∧wpList P ops (fun e a' w'=>match e with | .normal=>S w'∧Qf1 P ops Q S K f r a' w' | e=>Q e a' w') [o] a w
def Qk9 (md:Region.Mode) (ops:Array Oper) (f:Nat) (ts:List Nat):List Nat→Array Bool→Bool
 | [],ls=>decide (Region.ready md ops ls = [f]) && tailB md ops ts (ls.setIfInBounds f true)
 | r :: rs,ls=>(decide (Region.ready md ops ls = [r,f]) || decide (Region.ready md ops ls = [f,r])) && Qe5 md ops (r :: rs) (ls.setIfInBounds f true) && tailB md ops ts (Qcx (ls.setIfInBounds f true) (r :: rs)) && Qk9 md ops f ts rs (ls.setIfInBounds r true)
theorem Qr0 {Q:Exit→Act→World→Prop} {z f:Nat} {of:Oper} {ts:List Nat} (hf:ops[f]? = some of) (hts:∀ r ∈ ts,z≤r):∀ (rs:List Nat) (ls:Array Bool) (a:Act) (w:World),Qk9 md ops f ts rs ls=true→S w→Qf1 P ops Q S (wpList P ops Q (Q3 ops ts)) of (Q3 ops rs) a w→Qdg P md ops Q S z (rs.length + 1 + ts.length) ls a w:=by
 intro rs
 induction rs with
 | nil =>
  intro ls a w hB hS h
  simp only [Qk9,Bool.and_eq_true,decide_eq_true_eq] at hB
  have h':Qcb P ops Q S (wpList P ops Q (Q3 ops ts)) (Q3 ops [f]) a w:=by rw [Qb8 hf]; exact h
  have:=Qe6 (md:=md) (z:=z) (fuel:=ts.length) [f] ls a w (by simp only [Qe5,Bool.and_eq_true,decide_eq_true_eq,and_true]; exact hB.1) (fun a w _ k=>Qd1 ts _ a w hts hB.2 k) hS h'
  rw [show ([]:List Nat).length + 1 + ts.length = [f].length + ts.length by simp]
  exact this
 | cons r rs ih =>
  intro ls a w hB hS h
  simp only [Qk9,Bool.and_eq_true,Bool.or_eq_true,decide_eq_true_eq] at hB
  obtain ⟨⟨⟨hr,h1⟩,h2⟩,h3⟩:=hB
  have hmem:∀ i,i ∈ Region.ready md ops ls↔i=r∨i=f:=fun i=>by
   rcases hr with e | e <;> rw [e] <;> simp
   exact Or.comm
  obtain ⟨_,o,ho,_⟩:=mem_ready.1 ((hmem r).2 (.inl rfl))
  rw [Qb8 ho] at h
  obtain ⟨k1,k2⟩:=h
  rw [show (r :: rs).length + 1 + ts.length=(rs.length + 1 + ts.length) + 1 by simp; omega]
  refine ⟨fun e=>?_,fun i hi=>?_⟩
  ·have:=(hmem r).2 (.inl rfl)
   rw [e] at this
   cases this
  ·rcases (hmem i).1 hi with rfl | rfl
   ·exact Qc6 (Q':=fun e a' w'=>match e with | .normal=>S w'∧Qf1 P ops Q S (wpList P ops Q (Q3 ops ts)) of (Q3 ops rs) a' w' | e=>Q e a' w') ho (fun a' w' h'=>⟨fun _=>h'.1,ih _ a' w' h3 h'.1 h'.2⟩) (fun _ _ _ h'=>h') (fun _ _ h'=>h') k2
   ·refine Qc6 (Q':=fun e a' w'=>match e with | .normal=>S w'∧Qcb P ops Q S (wpList P ops Q (Q3 ops ts)) (o :: Q3 ops rs) a' w' | e=>Q e a' w') hf (fun a' w' h'=>⟨fun _=>h'.1,?_⟩) (fun _ _ _ h'=>h') (fun _ _ h'=>h') k1
    have h'':Qcb P ops Q S (wpList P ops Q (Q3 ops ts)) (Q3 ops (r :: rs)) a' w':=by rw [Qb8 ho]; exact h'.2
    have:=Qe6 (md:=md) (z:=z) (fuel:=ts.length) (r :: rs) (ls.setIfInBounds i true) a' w' h1 (fun a w _ k=>Qd1 ts _ a w hts h2 k) h'.1 h''
    rw [show rs.length + 1 + ts.length=(r :: rs).length + ts.length by simp]
    exact this
def Qqi (md:Region.Mode) (ops:Array Oper) (i1:List Nat) (f:Nat) (rs ts:List Nat) (z:Nat):Bool :=
 let l0:=Array.replicate ops.size false
 let l1:=Qcx l0 i1
 Region.noSelect ops && Qc4 md ops z && Qds md ops z i1 l0 && Qk9 md ops f ts rs l1 && ts.all (fun r=>decide (z≤r)) && decide (f < ops.size) && decide (i1.length + (rs.length + 1 + ts.length)=ops.size)
theorem Qjx {id:Nat} {Q:Exit→Act→World→Prop} {a:Act} {w:World} {l:List Oper} (i1:List Nat) (f:Nat) (rs ts:List Nat) (z:Nat) (hm:P.follows .mixedOrders=true) (hB:Qqi .any l.toArray i1 f rs ts z=true) (S:World→Prop) (hS:S w.drew)
  (h:∀ (I:Type) [Nonempty I] (f_:I→World),(∀ n,S (f_ n))→wpQuiet P l.toArray (fun w'=>∃ n,w'=f_ n) (fun a'=>Qf1 P l.toArray (Qbn Q) S (wpList P l.toArray (Qbn Q) (Q3 l.toArray ts)) ((l.toArray[f]?).getD o0) (Q3 l.toArray rs) a' w.drew) (Q3 l.toArray i1) a):(Code.region id l.toArray true).wp P Q a w:=by
 simp only [Qqi,Bool.and_eq_true,decide_eq_true_eq] at hB
 obtain ⟨⟨⟨⟨⟨⟨hsel,hz⟩,h1⟩,h2⟩,hts⟩,hf⟩,hlen⟩:=hB
 haveI:Nonempty {w':World // S w'}:=⟨⟨_,hS⟩⟩
 have h':=h {w':World // S w'} Subtype.val (fun n=>n.2)
 have e:(fun w'=>∃ n:{w':World // S w'},w'=n.1)=S:=by
  funext w'
  exact propext ⟨fun ⟨n,hn⟩=>by rw [hn]; exact n.2,fun h=>⟨⟨w',h⟩,rfl⟩⟩
 rw [e] at h'
 refine wp_region_any hm (Qg7 _ ?_)
 have hcalm:∀ c a w,¬ Qbn Q (.panic c) a w:=fun c a w h=>h
 have hfo:l.toArray[f]? = some ((l.toArray[f]?).getD o0):=by
  rw [Array.getElem?_eq_getElem hf]
  rfl
 have:=Qe7 (md:=.any) (Q:=Qbn Q) (fuel:=rs.length + 1 + ts.length) hsel hz hcalm hS i1 (Array.replicate l.toArray.size false) a h1 (fun a1 k1 =>
  Qr0 hfo (fun r hr=>by simpa using List.all_eq_true.1 hts r hr) rs _ a1 _ h2 hS k1) h'
 rw [hlen] at this
 exact Qei _ this
theorem Qf2 {Q:Exit→Act→World→Prop} {f o:Oper} {r:List Oper} {K0:Act→World→Prop} {a:Act} {w:World} (hg:o.guard=none) (h1:Qcb P ops Q S K0 (f :: o :: r) a w)
  (h:∀ K:Act→World→Prop,(∀ a w,S w→Qf1 P ops Q S K0 f r a w→K a w)→o.wp P a w K (fun e a' w'=>match e with | .normal=>S w'∧Qf1 P ops Q S K0 f r a' w' | e=>Q e a' w')):Qf1 P ops Q S K0 f (o :: r) a w :=
 ⟨h1,show wpList P ops _ [o] a w from wpList_plain hg fun K hK=>h K fun a w h1 h2=>hK a w ⟨h1,h2⟩⟩
theorem Qqj {Q:Exit→Act→World→Prop} {f:Oper} {K0:Act→World→Prop} {a:Act} {w:World} (h:Qcb P ops Q S K0 [f] a w):Qf1 P ops Q S K0 f [] a w:=h
end
end Go.Proofs.YtanpljalbijfkaaGreat
