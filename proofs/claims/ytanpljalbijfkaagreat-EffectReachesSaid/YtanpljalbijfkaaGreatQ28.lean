/- . -/
import Derived.Test.YtanpljalbijfkaaGreatQ26
import Derived.Test.YtanpljalbijfkaaGreatQ27
namespace Go.Proofs.YtanpljalbijfkaaGreat
open Go.RowKit
set_option maxHeartbeats 16000000
def jnS (s:Sch) (a b:Nat):Nat:=LatM.jn s.ws.length (leqL s.ws s.os) a b
def Qbi (s:Sch):Nat:=LatM.topN s.ws.length (Qeh (leqL s.ws s.os))
theorem Qgm {s:Sch} (hg:s.Good) {a b:Nat} (ha:a < s.ws.length) (hb:b < s.ws.length):jnS s a b < s.ws.length:=(LatM.jn_eq hg.lat.lat ha hb).2
theorem Qg2 {s:Sch} (hg:s.Good):Qbi s < s.ws.length:=LatM.topN_lt hg.lat.lat.turn
theorem Qn7 (g:Nat) (s:Sch) (w:World) (h:LatAt w g s.ws s.os) (hg:s.Good) (a b:Nat) (ha:a < s.ws.length) (hb:b < s.ws.length):Calls Tryz.prog 46 #[.pointer (some ⟨g,0,none⟩),.int .i64 (a:Int),.int .i64 (b:Int)] w (fun e w'=>e = .returned (.int .i64 (jnS s a b:Nat))∧w=w'):=by
 have:=Qhe g s.ws s.os w h hg.lat.few a b
 rw [Qc3 ha hb,(LatM.jn_eq hg.lat.lat ha hb).1] at this;exact this
theorem Qka (g:Nat) (s:Sch) (w:World) (h:LatAt w g s.ws s.os) (hg:s.Good):Calls Tryz.prog 20 #[.pointer (some ⟨g,0,none⟩)] w (fun e w'=>e = .returned (.int .i64 (Qbi s:Nat))∧w=w') :=
 Qft g s.ws s.os w h hg.lat.few hg.lat.lat.turn
def Ql4 (s:Sch) (x:Nat) (st:StP):Option EdgeP:=(nodeAtL s x).edges.find? (fun e=>fitsB (nodeAtL s x) e st)
def stpF (s:Sch) (x:Nat × Nat) (st:StP):Option (Nat × Nat):=match Ql4 s x.1 st with | some e=>some (e.tgt.toNat,jnS s x.2 e.label.toNat) | none=>none
def Qta:Option (Nat × Nat)→Value
 | none=>.tuple #[.agg #[.int .i64 0,.int .i64 0],.bool false]
 | some y=>.tuple #[.agg #[.int .i64 (y.1:Int),.int .i64 (y.2:Int)],.bool true]
theorem Qkb {s:Sch} {d:NodeP} {e:EdgeP} {st:StP} (he:EdgeOk s d e) (h:fitsB d e st=true):e.bare=false:=by
 cases hb:e.bare with
 | false=>rfl
 | true =>
  have h8:=(he.bare hb).1;unfold fitsB at h;rw [h8,hb] at h;simp at h
theorem Qpe {α:Type} {p:α→Bool} {l:List α} {i:Nat} (hi:i < l.length) (h0:∀ j (hj:j < l.length),j < i→p l[j]=false) (h:p l[i]=true):l.find? p=some l[i]:=by
 induction l generalizing i with
 | nil=>simp at hi
 | cons a r ih =>
  cases i with
  | zero=>rw [List.find?_cons_of_pos (by simpa using h)]; rfl
  | succ i =>
   have ha:p a=false:=h0 0 (Nat.succ_pos _) (Nat.succ_pos _);rw [List.find?_cons_of_neg (by rw [ha]; decide)]
   exact ih (by simpa using hi) (fun j hj hji=>h0 (j + 1) (by simpa using hj) (by omega)) h
theorem Qt4 {s:Sch} {x:Nat × Nat} {st:StP} {d:NodeP} (hd:d=nodeAtL s x.1) {i:Nat} (hi:i < d.edges.length) (h0:∀ j (hj:j < d.edges.length),j < i→fitsB d d.edges[j] st=false) (h:fitsB d d.edges[i] st=true) {m l:Nat} (hm:d.edges[i].tgt=m) (hl:d.edges[i].label=l):stpF s x st=some (m,jnS s x.2 l):=by
 subst hd;unfold stpF Ql4;rw [Qpe hi h0 h];dsimp only
 rw [hm,hl,Int.toNat_natCast,Int.toNat_natCast]
theorem Qtb {s:Sch} {x:Nat × Nat} {st:StP} {d:NodeP} (hd:d=nodeAtL s x.1) (h0:∀ j (hj:j < d.edges.length),fitsB d d.edges[j] st=false):stpF s x st=none:=by
 subst hd;unfold stpF Ql4;rw [List.find?_eq_none.2 fun e he=>by
  obtain ⟨j,hj,rfl⟩:=List.getElem_of_mem he;rw [h0 j hj]; decide]
theorem Qg6 {fn:Func} {u p:Tmp} {cs:Array Value} (h:fn.results=#[.cell p 103,.tmp u]) (tmps:Array Value) (w:World) (g:Nat) (hp:tmps.getD p undef = .pointer (some ⟨g,0,none⟩)) (hB:Blk w g 103 cs) (hi:(Tryz.prog.info? 103).map (·.size)=some cs.size) :
  (results fn tmps).run Tryz.prog w = .ok (.tuple #[.agg cs,tmps.getD u undef]) w:=by
 have hp':tmps[p]?.getD undef = .pointer (some ⟨g,0,none⟩):=by simpa using hp
 have hl:=run_loadVar_row (P:=Tryz.prog) (ty:=103) w g 103 cs (0,0) _ hB Tryz.underlying103 rfl hi;simp [results,h,hp',asAddr,hl]
theorem Qfx {g:Nat} {w2:World} {fn:Func} {u p:Tmp} {a:Act} {R:Ending→World→Prop} {cs:Array Value} {v:Value} (hB:Blk w2 g 103 cs) (hi:(Tryz.prog.info? 103).map (·.size)=some cs.size) (hfn:fn.results=#[.cell p 103,.tmp u]) (hu:a.tmps.getD u undef=v) (hp:a.tmps.getD p undef = .pointer (some ⟨g,0,none⟩)) (hd:a.defers = [])
  (hR:R (.returned (.tuple #[.agg cs,v])) w2):bodyPost Tryz.prog fn R .ret a w2:=by
 subst hu;exact bodyPost_ret (Qg6 hfn _ _ g hp hB hi) hd hR
set_option maxRecDepth 100000 in
theorem Qnh (gp:Nat) (s:Sch) (w:World) (h:PlanAt w gp s) (hg:s.Good) (hz:SchSz s) (x:Nat × Nat) (st:StP) (hx1:x.1 < s.nodes.length) (hx2:x.2 < s.ws.length):Calls Tryz.prog 43 #[.pointer (some ⟨gp,0,none⟩),.agg #[.int .i64 (x.1:Int),.int .i64 (x.2:Int)],.agg (stV st).toArray] w (fun e w'=>e = .returned (Qta (stpF s x st))∧Ext w w'):=by
 obtain ⟨gl,hpl⟩:=h.lat;have h512:=Qc7 hg.fine;have hlf:=hg.lat.few;obtain ⟨HLAT,HJN,HJL⟩:=Z3 (fun w1 (hE:Ext w w1)=>Qco gp gl s w1 (hpl.ext hE)) (fun w1 (hE:Ext w w1) (l:Nat) (hl:l < s.ws.length)=>Qn7 gl s w1 (hpl.2.2.ext hE) hg x.2 l hx2 hl) (fun (l:Nat) (hl:l < s.ws.length)=>Nat.lt_of_lt_of_le (Qgm hg hx2 hl) hlf)
 have hnod:=fun w1 (hE:Ext w w1)=>(show Calls Tryz.prog 24 #[.pointer (some ⟨gp,0,none⟩),.int .i64 (x.1:Int)] w1 (Qh2 (nodeAtL s x.1) w1) by rw [Qam hx1]; exact Qhm gp x.1 s w1 (h.ext hE) hx1 h512 (Qbu hg hz hx1))
 have hok:NodeOk s (nodeAtL s x.1):=by rw [Qam hx1]; exact Qbu hg hz hx1
 obtain ⟨d,hd⟩:=V1 (nodeAtL s x.1);obtain ⟨HHIT,HMISS⟩:=Z2 (fun i hi h0 h1 m l hm hl=>Qt4 (s:=s) (x:=x) (st:=st) hd (i:=i) hi h0 h1 (m:=m) (l:=l) hm hl) (fun h0=>Qtb (s:=s) (x:=x) (st:=st) hd h0)
 rw [← hd] at hnod hok;obtain ⟨HFIT,HND,HDK⟩:=Z3 (fun e An cn Ae ce w1=>Qs9 d e st An cn Ae ce w1) hnod hok
 obtain ⟨R,hR⟩:=V1 (stpF s x st);rw [← hR] at HHIT HMISS ⊢;obtain ⟨x1,x2⟩:=x;dsimp only at *
 unfold stV at HFIT ⊢;obtain ⟨w1,g1,hw1,hg1,Hw1,Hg1,hX,hXE⟩:=T0 w 103 #[.int .i64 (x1:Int),.int .i64 (x2:Int)];obtain ⟨w2,g2,hw2,hg2,Hw2,Hg2,hS,hSE⟩:=T0 w1 76 #[.int .i64 st.kind,.int .i64 st.n,.string st.name];obtain ⟨w3,g3,hw3,hg3,Hw3,Hg3,hZ,hZE⟩:=T0 w2 103 #[.int .i64 0,.int .i64 0];have Hg2':=hide (show g2=g1 + 1 by rw [hg2,hw1,World.size_alloc,← hg1])
 have Hg3':=hide (show g3=g2 + 1 by rw [hg3,hw2,World.size_alloc,← hg2])
 obtain ⟨HE3,HX3,HS3,HZ3⟩:=Z4 ((hXE.trans' hSE).trans' hZE) ((hX.ext hSE).ext hZE) (hS.ext hZE) hZ;have hlo3:w.heap.size≤g3:=by have:=hXE.size; have:=hSE.size; omega
 have t0:=X1 HX3.out;clear hw1 hg1 hw2 hg2 hw3 hg3 hX hXE hS hSE hZ hZE hR hd hnod hok h hg hz hpl h512 hlf hx1 hx2;go_enter Tryz.func43,Tryz.ntmps43
 go_upto_region 1 with fail
 rw [← Hw1.out,← Hg1.out,← Hw2.out,← Hg2'.out,← Hw3.out,← Hg3'.out];go_wp2_with fail
 refine (HND.out w3 HE3.out).mono ?_;rintro e w4 ⟨An',cn',Ae',ce',rfl,_,hX4,hE4⟩;unfold nodeV at HFIT ⊢;have hqd:d.edges.length≤64:=HDK.out.few;obtain ⟨m',hm',q',hq'⟩:=V2 (d.names.length) (d.edges.length);rw [← hm',← hq'] at HFIT ⊢;have HQ:=hide hq';have hq0:=nZ q';obtain ⟨w5,g5,hw5,hg5,Hw5,Hg5,hD,hDE⟩:=T0 w4 66 #[.int .i64 d.kind,.int .i64 d.at_,.int .i64 d.lo,.int .i64 d.hi,.int .i64 d.most,.slice An' m' cn',.slice Ae' q' ce'];obtain ⟨HE5,HX5,HD5,HP5,HS5,HZ5⟩:=Z6 ((HE3.out.trans' hE4).trans' hDE) (EdgesAt.ext hX4 hDE) hD ((HX3.out.ext hE4).ext hDE) ((HS3.out.ext hE4).ext hDE) ((HZ3.out.ext hE4).ext hDE);obtain ⟨-,-,-,-,-,-,d6⟩:=X7 hD;rw [← hq'] at hqd;clear hX4 hE4 hm' hq' hw5 hg5 hD hDE t0;go_upto_region 2 with fail
 rw [← Hw5.out,← Hg5.out];go_wp2_with fail
 clear d6;go_loopw [22] (fun i wx=>∃ q:Nat,q≤q'∧i = .int .i64 (q:Int)∧Ext w5 wx∧Hid (∀ j (hj:j < d.edges.length),j < q→fitsB d d.edges[j] st=false)) (fun i _=>q' - (intOf i).toNat)
 case atStart=>exact ⟨0,Nat.zero_le _,rfl,Ext.rfl' _,fun j _ hj=>absurd hj (Nat.not_lt_zero _)⟩
 case round =>
  obtain ⟨q,hq,rfl,hE2,HB⟩:=hrel;by_cases hlt2:q < q'
  ·have hqd2:q < d.edges.length:=by have:=HQ.out; omega
   obtain ⟨b,o,rfl,hb,hc⟩:=HX5.out.cell (by omega)
   have h1:=hc q hqd2;have hok:=HDK.out.edge q hqd2;have hht:=fun h m l hm hl=>HHIT.out q hqd2 HB.out h m l hm hl
   have hbn:fitsB d d.edges[q] st=false→∀ j (hj:j < d.edges.length),j < q + 1→fitsB d d.edges[j] st=false:=fun h j hj hjq=>by
    by_cases e:j=q
    ·subst e; exact h
    ·exact HB.out j hj (by omega)
   obtain ⟨e,he⟩:=V1 (d.edges[q]);rw [← he] at h1 hok hht hbn;obtain ⟨HOE,HHE,HBN⟩:=Z3 hok hht hbn;have HRG:=hide (show wr.rangeAt b (o + q * 10) [.string e.name,.bool e.bare,.int .i64 e.at_,.int .i64 e.tgt,.int .i64 e.label,.int .i64 e.wide,.int .i64 e.coarse,.int .i64 e.n,.int .i64 e.seen,.int .i64 e.cat] from fun j v hv=>(hE2.cell (p:=⟨b,o + q * 10 + j,none⟩) hb).trans (h1 j v hv))
   have j0:=nZ q;have j1:(q:Int) < (q':Int):=by omega
   have hEw2:=HE5.out.trans' hE2;have HP6:=hide (HP5.out.ext hE2);have hfit:=HFIT.out e An' cn' (some ⟨b,o,none⟩) ce';unfold edgeV at hfit;have HFI:=hide hfit;clear hc h1 hok hht hbn he hb hqd2 hfit;obtain ⟨w6,g7,hw6,hg7,Hw6,Hg7,hV,hVE⟩:=T0 wr 70 #[.string e.name,.bool e.bare,.int .i64 e.at_,.int .i64 e.tgt,.int .i64 e.label,.int .i64 e.wide,.int .i64 e.coarse,.int .i64 e.n,.int .i64 e.seen,.int .i64 e.cat];obtain ⟨HE6,HF6,HV6⟩:=Z3 (hEw2.trans' hVE) (hE2.trans' hVE) hV;have hD6:=HD5.out.ext HF6.out;have hS6:=HS5.out.ext HF6.out;obtain ⟨v0,v1,v2,v3,v4,v5,v6,v7,v8,v9⟩:=X10 hV;obtain ⟨d0,d1,d2,d3,d4,d5,d6⟩:=X7 hD6;obtain ⟨s0,s1,s2⟩:=X3 hS6;clear hw6 hg7 hV hVE hE2 hEw2 hD6 hS6;go_upto_region 4 with fail
   refine wp_region_lit ?_;refine wpList_plain rfl fun K0 hK0=>?_
   go_simp;refine hK0 _ _ ?_;refine wpList_load_mid rfl 70 _ rfl b (o + q * 10) rfl _ _ HRG.out Tryz.underlying70 rfl Qcx ?_;refine wpList_plain rfl fun K0 hK0=>?_
   go_simp;refine hK0 _ _ ?_;refine Qc rfl 70 _ _ rfl _ #[.string e.name,.bool e.bare,.int .i64 e.at_,.int .i64 e.tgt,.int .i64 e.label,.int .i64 e.wide,.int .i64 e.coarse,.int .i64 e.n,.int .i64 e.seen,.int .i64 e.cat] rfl rfl Qcx rfl (by simp [Value.oneCell']) ?_
   go_upto_region 5 with fail
   rw [← Hw6.out,← Hg7.out];go_wp2_with fail
   refine (HFI.out w6).mono ?_;rintro e' w7 ⟨rfl,hE7⟩;obtain ⟨HE7,HF7,HV7⟩:=Z3 (HE6.out.trans' hE7) (HF6.out.trans' hE7) (HV6.out.ext hE7);obtain ⟨FB_,hFB⟩:=V1 (fitsB d e st);rw [← hFB];have HFB:=hide hFB;clear hE7 v0 v1 v2 v3 v4 v5 v6 v7 v8 v9 d0 d1 d2 d3 d4 d5 d6 s0 s1 s2 hFB;cases FB_ with
   | false =>
    have HNE:=hide (HBN.out HFB.out.symm);go_wp2_with fail
    go_roundw
    case rel=>exact ⟨q + 1,by omega,by go_num,HF7.out,HNE.out⟩
    case measure=>simp [intOf]; omega
   | true =>
    obtain ⟨m,hm,_⟩:=HOE.out.to_ (Qkb HOE.out HFB.out.symm);obtain ⟨l,hl,hlw⟩:=HOE.out.lab;have HR:=hide (HHE.out HFB.out.symm m l hm hl);have hJN:=fun w1 (hE:Ext w w1)=>HJN.out w1 hE l hlw
    obtain ⟨J,hJ⟩:=V1 (jnS s x2 l);rw [← hJ] at hJN;have HJ:=hide hJN;have hR:=HR.out;rw [← hJ] at hR;have HRR:=hide hR;have hV7:=HV7.out;rw [hm,hl] at hV7;have hP7:=(HP5.out.ext HF7.out);obtain ⟨-,-,-,v3,v4⟩:=X5 hV7;obtain ⟨-,p1⟩:=X2 hP7;have hZ7:=HZ5.out.ext HF7.out;have HZ7:=hide hZ7;clear hm hl hlw hJN hJ hR hV7 hP7 hZ7;go_upto_region 6 with fail
    rename_i Kz hKz
    refine Qaq [0,1,2,4,5,6,7] [3,8,9] [] [] [10,11] 10 (by kernel_rfl) (by kernel_rfl) (fun w'=>(w'.cell? ⟨g7,3,none⟩=some (.int .i64 (m:Int))∧w'.cell? ⟨g7,4,none⟩=some (.int .i64 (l:Int)))∧w'.cell? ⟨g1,1,none⟩=some (.int .i64 (x2:Int))) ⟨⟨v3,v4⟩,p1⟩ ?_
    intro I _ f hf;have q3:=fun n=>(hf n).1.1
    have q4:=fun n=>(hf n).1.2
    have q5:=fun n=>(hf n).2
    clear hf;simp only [opsAt,List.map_cons,List.map_nil,gA,gH,gS,Option.getD_some];repeat (go_big_quiet_step ((fail)))
    refine wpQuiet_nil ?_;clear q3 q4 q5;refine seqK_plain rfl ?_;intro K1 hK1;go_simp;refine (HLAT.out _ (HE7.out.drew')).mono ?_;rintro e' w8 ⟨rfl,rfl⟩;refine hK1 _ _ ⟨⟨v3,v4⟩,p1⟩ ?_;refine seqK_plain rfl ?_;intro K2 hK2;go_simp;refine (HJ.out _ (HE7.out.drew')).mono ?_;rintro e' w8 ⟨rfl,rfl⟩;refine hK2 _ _ ⟨⟨v3,v4⟩,p1⟩ ?_;refine seqK_plain rfl ?_;intro K3 hK3;go_simp;refine hK3 _ _ ⟨⟨v3,v4⟩,p1⟩ ?_;refine seqK_done ?_;refine wpQuiet_nil ?_;refine seqK_done ?_;have hZ8:=HZ7.out.drewN 1;obtain ⟨z0,z1⟩:=X2 HZ7.out;obtain ⟨f0,f1⟩:=Y2 HZ7.out;obtain ⟨HZ8,HE8⟩:=Z2 hZ8 (HE7.out.drew');clear hZ8 v3 v4 p1;go_wp2_with fail
    refine hKz _ _ ?_;go_wp2_with fail
    refine Qfx (g:=g3) ((HZ8.out.set_ 0 (.int .i64 (m:Int))).set_ 1 (.int .i64 (J:Int))) (by kernel_rfl) rfl rfl rfl rfl ⟨by rw [HRR.out]; rfl,?_⟩
    exact (HE8.out.setCell (p:=⟨g3,0,none⟩) hlo3 _).setCell (p:=⟨g3,1,none⟩) hlo3 _
  ·obtain rfl:q=q':=by omega
   have HR:=hide (HMISS.out (fun j hj=>HB.out j hj (by have:=HQ.out; omega)))
   have hZ7:=HZ5.out.ext hE2;obtain ⟨z0,z1⟩:=X2 hZ7;obtain ⟨f0,f1⟩:=Y2 hZ7;obtain ⟨HZ7,HE7⟩:=Z2 hZ7 (HE5.out.trans' hE2);clear hZ7 hE2 HB HHIT HMISS;go_wp2_with fail
   refine Qfx (g:=g3) ((HZ7.out.set_ 0 (.int .i64 0)).set_ 1 (.int .i64 0)) (by kernel_rfl) rfl rfl rfl rfl ⟨by rw [HR.out]; rfl,?_⟩
   exact (HE7.out.setCell (p:=⟨g3,0,none⟩) hlo3 _).setCell (p:=⟨g3,1,none⟩) hlo3 _
def stCells (l:List StP):List Value:=l.flatMap stV
theorem Qni (l:List StP):∀ (k:Nat) (hk:k < l.length) (j:Nat) (v:Value),(stV l[k])[j]? = some v→(stCells l)[k * 3 + j]? = some v:=by
 induction l with
 | nil=>intro k hk; simp at hk
 | cons e r ih =>
  intro k hk j v hv;show (stV e ++ stCells r)[k * 3 + j]? = some v
  have hl:(stV e).length=3:=rfl;cases k with
  | zero =>
   have hv':(stV e)[j]? = some v:=hv;have hj:j < (stV e).length:=(List.getElem?_eq_some_iff.1 hv').1;rw [Nat.zero_mul,Nat.zero_add,List.getElem?_append_left hj];exact hv'
  | succ k =>
   rw [List.getElem?_append_right (by rw [hl]; omega),hl,show (k + 1) * 3 + j - 3=k * 3 + j by omega]
   exact ih k (by simpa using hk) j v hv
def StpsAt (w:World) (B:Nat) (A:Option Addr) (l:List StP):Prop:=Reads w B 3 A l.length (stCells l)
theorem StpsAt.cell {w:World} {B:Nat} {A:Option Addr} {l:List StP} (h:StpsAt w B A l) (hn:0 < l.length):∃ b o,A=some ⟨b,o,none⟩∧b < B∧∀ k (hk:k < l.length),w.rangeAt b (o + k * 3) (stV l[k]):=by
 obtain ⟨b,o,e,hb,hc⟩:=h.form hn (by omega)
 refine ⟨b,o,e,hb,fun k hk j v hv=>?_⟩
 have:=hc (k * 3 + j) v (Qni l k hk j v hv)
 rw [← Nat.add_assoc] at this;exact this
def Quw (l:List StP):Prop:=∀ k (hk:k < l.length),(l[k]).name.size≤maxLen
def goF (s:Sch) (x:Nat × Nat) (st:StP):Option (Nat × Nat):=if stB st=true then stpF s x st else none
def walkF (s:Sch):Nat × Nat→List StP→Option (Nat × Nat)
 | x,[]=>some x
 | x,st :: r=>match goF s x st with | some y=>walkF s y r | none=>none
def Qtu:Option (Nat × Nat)→Value
 | none=>.tuple #[.int .i64 (-1),.int .i64 (-1),.bool false]
 | some y=>.tuple #[.int .i64 (y.1:Int),.int .i64 (y.2:Int),.bool true]
def Qel (s:Sch):Nat × Nat:=(s.rootI,Qbi s)
theorem Qgn (s:Sch) (a b:List StP):∀ x,walkF s x (a ++ b)=match walkF s x a with | some y=>walkF s y b | none=>none:=by
 induction a with
 | nil=>intro x; rfl
 | cons st r ih =>
  intro x;show (match goF s x st with | some y=>walkF s y (r ++ b) | none=>none)=match (match goF s x st with | some y=>walkF s y r | none=>none) with | some y=>walkF s y b | none=>none
  cases goF s x st with
  | none=>rfl
  | some y=>exact ih y
theorem Qri {s:Sch} {x y:Nat × Nat} {l:List StP} {k:Nat} (hk:k < l.length) (h:walkF s x (l.take k)=some y):walkF s x (l.take (k + 1))=goF s y l[k]:=by
 rw [List.take_add_one,Qgn,h,List.getElem?_eq_getElem hk];show (match goF s y l[k] with | some y=>some y | none=>none)=_
 cases goF s y l[k] <;> rfl
theorem Qrj {s:Sch} {x:Nat × Nat} {l:List StP} {k:Nat} (h:walkF s x (l.take k)=none):walkF s x l=none:=by
 have e:l=l.take k ++ l.drop k:=(List.take_append_drop k l).symm;rw [e,Qgn,h]
theorem Qt5 {s:Sch} (hg:s.Good) (hz:SchSz s) {x y:Nat × Nat} {st:StP} (h1:x.1 < s.nodes.length) (h2:x.2 < s.ws.length) (h:stpF s x st=some y):y.1 < s.nodes.length∧y.2 < s.ws.length:=by
 unfold stpF at h;cases he:Ql4 s x.1 st with
 | none=>rw [he] at h; cases h
 | some e =>
  rw [he] at h;injection h with h
  subst h;unfold Ql4 at he;have hp:=List.find?_some he;have hm:=List.mem_of_find?_eq_some he;rw [Qam h1] at hp hm;obtain ⟨i,hi,rfl⟩:=List.getElem_of_mem hm;have hok:=(Qbu hg hz h1).edge i hi;obtain ⟨m,hm1,hm2⟩:=hok.to_ (Qkb hok hp);obtain ⟨l,hl1,hl2⟩:=hok.lab;refine ⟨?_,?_⟩
  ·show (s.nodes[x.1].edges[i].tgt).toNat < _
   rw [hm1]; exact hm2
  ·show jnS s x.2 (s.nodes[x.1].edges[i].label).toNat < _
   rw [hl1]; exact Qgm hg h2 hl2
set_option maxRecDepth 100000 in
theorem Qnj (gp:Nat) (s:Sch) (A:Option Addr) (c n:Nat) (l:List StP) (w:World) (h:PlanAt w gp s) (hg:s.Good) (hz:SchSz s) (hl:StpsAt w w.heap.size A l) (hn:n=l.length) (hsz:Quw l) (hnb:n≤4611686018427387904):Calls Tryz.prog 13 #[.pointer (some ⟨gp,0,none⟩),.slice A n c] w (fun e w'=>e = .returned (Qtu (walkF s (Qel s) l))∧Ext w w'):=by
 obtain ⟨gl,hpl⟩:=h.lat;obtain ⟨HLAT,HROOT,HBOT,HSTEP,HIN,HMORE,HSTOP⟩:=Z7 (fun w1 (hE:Ext w w1)=>Qco gp gl s w1 (hpl.ext hE)) (fun w1 (hE:Ext w w1)=>Qgi gp s w1 (h.ext hE)) (fun w1 (hE:Ext w w1)=>Qka gl s w1 (hpl.2.2.ext hE) hg) (fun (y:Nat × Nat) st w1 (hE:Ext w w1) h1 h2=>Qnh gp s w1 (h.ext hE) hg hz y st h1 h2) (fun (y y':Nat × Nat) st h1 h2 h3=>Qt5 hg hz (x:=y) (y:=y') (st:=st) h1 h2 h3) (fun (k:Nat) (y:Nat × Nat) (hk:k < l.length) h=>Qri (s:=s) (x:=Qel s) (y:=y) hk h) (fun (k:Nat) h=>Qrj (s:=s) (x:=Qel s) (l:=l) (k:=k) h)
 have HX0:=hide (show walkF s (Qel s) (l.take 0)=some (s.rootI,Qbi s) from rfl)
 obtain ⟨HX1,HX2⟩:=Z2 (Qg1 hg) (Qg2 hg);have HTK:=hide (show l.take l.length=l from List.take_length)
 obtain ⟨R,hR⟩:=V1 (walkF s (Qel s) l);rw [← hR] at HSTOP ⊢;have HRR:=hide hR;obtain ⟨RI,hRI,BI,hBI⟩:=V2 (s.rootI) (Qbi s);rw [← hRI] at HROOT HX0 HX1;rw [← hBI] at HBOT HX0 HX2;obtain ⟨HL,HN,HSZ⟩:=Z3 hl hn hsz;have hn0:=nZ n;obtain ⟨w1,g7,hw1,hg7,Hw1,Hg7,hX,hXE⟩:=T0 w 103 #[.int .i64 (RI:Int),.int .i64 (BI:Int)];obtain ⟨HE1,HX⟩:=Z2 hXE hX;have hlo7:w.heap.size≤g7:=by omega
 clear hw1 hg7 hX hXE hR hRI hBI hl hn hsz h hg hz hpl;go_enter Tryz.func13,Tryz.ntmps13
 go_wp2_with fail
 refine (HROOT.out w (Ext.rfl' w)).mono ?_;rintro e w' ⟨rfl,rfl⟩;go_wp2_with fail
 refine (HLAT.out w (Ext.rfl' w)).mono ?_;rintro e w' ⟨rfl,rfl⟩;go_wp2_with fail
 refine (HBOT.out w (Ext.rfl' w)).mono ?_;rintro e w' ⟨rfl,rfl⟩;go_upto_region 4 with fail
 rw [← Hw1.out,← Hg7.out];go_wp2_with fail
 go_loopw [20] (fun i wr=>∃ (k y1 y2:Nat),k≤n∧i = .int .i64 (k:Int)∧Ext w wr∧Blk wr g7 103 #[.int .i64 (y1:Int),.int .i64 (y2:Int)]∧Hid (walkF s (Qel s) (l.take k)=some (y1,y2)∧y1 < s.nodes.length∧y2 < s.ws.length)) (fun i _=>n - (intOf i).toNat)
 case atStart=>exact ⟨0,RI,BI,Nat.zero_le _,rfl,HE1.out,HX.out,⟨HX0.out,HX1.out,HX2.out⟩⟩
 case round =>
  obtain ⟨k,y1,y2,hk,rfl,hE,hB,HY⟩:=hrel;by_cases hlt:k < n
  ·have hkl:k < l.length:=by have:=HN.out; omega
   obtain ⟨b,o,rfl,hb,hc⟩:=HL.out.cell (by omega)
   have h1:=hc k hkl;have hmore:=HMORE.out k (y1,y2) hkl HY.out.1;have hss:=HSZ.out k hkl;obtain ⟨st,hst⟩:=V1 (l[k]);rw [← hst] at h1 hmore hss;have hstop:=fun h=>HSTOP.out (k + 1) h
   rw [hmore] at hstop;obtain ⟨HMO,HST,HSS⟩:=Z3 hmore hstop hss;have hi1:=fun y' h3=>HIN.out (y1,y2) y' st HY.out.2.1 HY.out.2.2 h3
   have hstp:=fun w1 (hE:Ext w w1)=>HSTEP.out (y1,y2) st w1 hE HY.out.2.1 HY.out.2.2
   obtain ⟨HI,HSP⟩:=Z2 hi1 hstp;have j0:=nZ k;have j1:(k:Int) < (n:Int):=by omega
   have c0:=(hE.cell (p:=⟨b,o + k * 3,none⟩) hb).trans (h1 0 (.int .i64 st.kind) rfl);have c1:=(hE.cell (p:=⟨b,o + k * 3 + 1,none⟩) hb).trans (h1 1 (.int .i64 st.n) rfl);have c2:=(hE.cell (p:=⟨b,o + k * 3 + 2,none⟩) hb).trans (h1 2 (.string st.name) rfl);obtain ⟨w5,g9,hw5,hg9,Hw5,Hg9,hV,hVE⟩:=T0 wr 76 #[.int .i64 st.kind,.int .i64 st.n,.string st.name];obtain ⟨HE5,HV5,HB5⟩:=Z3 (hE.trans' hVE) hV (hB.ext hVE);obtain ⟨v0,v1,v2⟩:=X3 hV;clear hc h1 hmore hss hst hstop hi1 hstp hw5 hg9 hV hVE hE hB hb HY;go_upto_region 7 with fail
   rw [← Hw5.out,← Hg9.out];clear c0 c1 c2;obtain ⟨w6,g6,hw6,hg6,Hw6,Hg6,hU,hUE⟩:=T0 w5 76 #[.int .i64 st.kind,.int .i64 st.n,.string st.name];obtain ⟨HRT,HE6,HV6,HB6⟩:=Z4 (Qpc g6 1 st w6 (Qv (vs:=stV st) hU) hU.lt HSS.out) (HE5.out.trans' hUE) (HV5.out.ext hUE) (HB5.out.ext hUE);clear hw6 hg6 hU hUE;go_wp2_with fail
   rw [← Hw6.out,← Hg6.out];refine HRT.out.mono ?_;rintro e w7 ⟨rfl,hE7⟩;obtain ⟨HE7,HV7,HB7⟩:=Z3 (HE6.out.trans' hE7) (HV6.out.ext hE7) (HB6.out.ext hE7);obtain ⟨SB,hSB⟩:=V1 (stB st);rw [← hSB];have HSB:=hide hSB;clear hE7 v0 v1 v2 hSB;cases SB with
   | false =>
    have HX:=hide (HST.out (by unfold goF; rw [← HSB.out,if_neg (by decide)]))
    go_wp2_with fail
    go_ret3
    exact ⟨by rw [HX.out]; rfl,HE7.out⟩
   | true =>
    have hgo:goF s (y1,y2) st=stpF s (y1,y2) st:=by unfold goF; rw [← HSB.out,if_pos rfl]
    have HGO:=hide hgo;obtain ⟨v0,v1,v2⟩:=X3 HV7.out;obtain ⟨p0,p1⟩:=X2 HB7.out;have HSP7:=hide (HSP.out w7 HE7.out);unfold stV at HSP7;clear hgo;go_upto_region 9 with fail
    go_wp2_with fail
    refine HSP7.out.mono ?_;rintro e w8 ⟨rfl,hE8⟩;have HE8:=hide (HE7.out.trans' hE8);have hB8:=HB7.out.ext hE8;obtain ⟨q0,q1⟩:=X2 hB8;obtain ⟨f0,f1⟩:=Y2 hB8;have HB8:=hide hB8;obtain ⟨R2,hR2⟩:=V1 (stpF s (y1,y2) st);rw [← hR2];have HR2:=hide hR2;clear hE8 hB8 hR2 v0 v1 v2 p0 p1;cases R2 with
    | none =>
     have HX:=hide (HST.out (by rw [HGO.out,← HR2.out]))
     unfold Qta;go_wp2_with fail
     go_ret3
     exact ⟨by rw [HX.out]; rfl,(HE8.out.setCell (p:=⟨g7,0,none⟩) hlo7 _).setCell (p:=⟨g7,1,none⟩) hlo7 _⟩
    | some y =>
     obtain ⟨z1,z2⟩:=y;have hin:=HI.out (z1,z2) HR2.out.symm;have HNW:=hide (show walkF s (Qel s) (l.take (k + 1))=some (z1,z2)∧z1 < s.nodes.length∧z2 < s.ws.length from ⟨by rw [HMO.out,HGO.out,← HR2.out],hin.1,hin.2⟩)
     unfold Qta;dsimp only
     clear hin;go_wp2_with fail
     go_roundw
     case rel=>exact ⟨k + 1,z1,z2,by omega,by go_num,(HE8.out.setCell (p:=⟨g7,0,none⟩) hlo7 _).setCell (p:=⟨g7,1,none⟩) hlo7 _,(HB8.out.set_ 0 _).set_ 1 _,HNW.out⟩
     case measure=>simp [intOf]; omega
  ·obtain rfl:k=n:=by omega
   have HX:=hide (show R=some (y1,y2) by rw [HRR.out,← HY.out.1,HN.out,HTK.out])
   obtain ⟨p0,p1⟩:=X2 hB;have HEr:=hide hE;clear hE hB;go_wp2_with fail
   go_quiet (fail)
   go_wp2_with fail
   go_ret3
   exact ⟨by rw [HX.out]; rfl,below_drewN HEr.out nq⟩
def Qpf:ByteArray:=⟨#[108,111,119]⟩
def Qfl:ByteArray:=⟨#[104,105,103,104]⟩
def bX:ByteArray:=⟨#[120]⟩
def thE (k:Int):TyH:=⟨k,0,0,0,0,[],wd0⟩
def ptE:PtH:=⟨(bX,0),false,[(Qfl,0)],0,0,0,0,[]⟩
def Qvh:Ty:=.mk (thE 1) 0 (fun _=>ptE) (fun _=>.nil)
def tyE:Ty:=.mk (thE 7) 1 (fun _=>ptE) (fun _=>Qvh)
def schE:Sch:=⟨[(Qpf,0),(Qfl,0)],[((Qpf,0),(Qfl,0))],0,fun _=>wd0,fun _=>.nil,tyE⟩
def stpE1:StP:=⟨1,0,bX⟩
theorem Qe5:SchSz schE:=by
 have hb:∀ l:List Wd,(∀ x ∈ l,x.1.size≤10)→∀ k,(wNm l k).size≤maxLen:=fun l h k=>by
  unfold wNm;rw [List.getD_eq_getElem?_getD];cases hk:l[k]? with
  | none=>simp [wd0,maxLen,ByteArray.size]
  | some x =>
   have:=h x (List.mem_of_getElem? hk)
   simp only [Option.getD_some];unfold maxLen;omega
 have hty:∀ k,Qr (.mk (thE k) 0 (fun _=>ptE) (fun _=>.nil)):=fun k=>⟨⟨by simp [thE],hb _ (by simp [thE])⟩,by simp [thE,wd0,maxLen,ByteArray.size],by omega,fun i hi=>absurd hi (Nat.not_lt_zero _)⟩
 refine ⟨⟨by simp [schE],hb _ (by decide)⟩,by simp [schE],by simp [schE],fun i hi=>absurd hi (Nat.not_lt_zero _),fun i hi=>absurd hi (Nat.not_lt_zero _),?_⟩
 refine ⟨⟨by simp [thE],hb _ (by simp [thE])⟩,by simp [thE,wd0,maxLen,ByteArray.size],by omega,fun i hi=>⟨by simp [ptE,bX,maxLen,ByteArray.size],⟨by simp [ptE],hb [(Qfl,0)] (by decide)⟩,⟨by simp [ptE],hb _ (by simp [ptE])⟩,hty 1⟩⟩
theorem Qh3:schE.badK schE.n=(0,0):=by decide +kernel
theorem Qrk:walkF schE (Qel schE) [stpE1]=some (1,1):=by decide +kernel
theorem Qpg:Qea schE=(0,0):=by decide +kernel
theorem Qi4 {fn:Func} {p:Tmp} {cs:Array Value} (h:fn.results=#[.cell p 31]) (tmps:Array Value) (w:World) (g:Nat) (hp:tmps.getD p undef = .pointer (some ⟨g,0,none⟩)) (hB:Blk w g 31 cs) (hi:(Tryz.prog.info? 31).map (·.size)=some cs.size) :
  (results fn tmps).run Tryz.prog w = .ok (.agg cs) w:=by
 have hp':tmps[p]?.getD undef = .pointer (some ⟨g,0,none⟩):=by simpa using hp
 have hl:=run_loadVar_row (P:=Tryz.prog) (ty:=31) w g 31 cs (0,0) _ hB Tryz.underlying31 rfl hi;simp [results,h,hp',asAddr,hl]
theorem Qnk {g:Nat} {w2:World} {fn:Func} {p:Tmp} {a:Act} {R:Ending→World→Prop} {cs:Array Value} (hB:Blk w2 g 31 cs) (hi:(Tryz.prog.info? 31).map (·.size)=some cs.size) (hfn:fn.results=#[.cell p 31]) (hp:a.tmps.getD p undef = .pointer (some ⟨g,0,none⟩)) (hd:a.defers = [])
  (hR:R (.returned (.agg cs)) w2):bodyPost Tryz.prog fn R .ret a w2 :=
 bodyPost_ret (Qi4 hfn _ _ g hp hB hi) hd hR
theorem Qux:(Tryz.prog.info? 131).map (·.size)=some 18:=by kernel_rfl
set_option maxRecDepth 100000 in
theorem Qjj (w:World):Calls Tryz.prog 28 #[] w (fun e w'=>∃ vs,e = .returned (.agg vs.toArray)∧SchAt w' schE vs∧Ext w w'):=by
 obtain ⟨w1,g1,hw1,hg1,Hw1,Hg1,hA,hAE⟩:=T0 w 31 #[.slice none 0 0,.slice none 0 0,.slice none 0 0,.int .i64 0,.int .i64 0,.int .i64 0,.int .i64 0,.int .i64 0,.slice none 0 0,.slice none 0 0,.string ⟨#[]⟩,.int .i64 0];obtain ⟨w2,g2,hw2,hg2,Hw2,Hg2,hB,hBE⟩:=T0 w1 27 #[.string ⟨#[108,111,119]⟩,.int .i64 0];obtain ⟨w3,g3,hw3,hg3,Hw3,Hg3,hC,hCE⟩:=T0 w2 27 #[.string ⟨#[104,105,103,104]⟩,.int .i64 0];obtain ⟨w4,g4,hw4,hg4,Hw4,Hg4,hD,hDE⟩:=T0 w3 27 #[.string ⟨#[104,105,103,104]⟩,.int .i64 0];obtain ⟨w5,g5,hw5,hg5,Hw5,Hg5,hE,hEE⟩:=T0 w4 131 #[.string ⟨#[120]⟩,.int .i64 0,.bool false,.slice (some ⟨g4,0,none⟩) 1 1,.int .i64 0,.int .i64 0,.int .i64 0,.int .i64 0,.slice none 0 0,.int .i64 1,.int .i64 0,.int .i64 0,.int .i64 0,.int .i64 0,.slice none 0 0,.slice none 0 0,.string ⟨#[]⟩,.int .i64 0];obtain ⟨w6,g6,hw6,hg6,Hw6,Hg6,hF,hFE⟩:=T0 w5 27 #[.string ⟨#[108,111,119]⟩,.int .i64 0,.string ⟨#[104,105,103,104]⟩,.int .i64 0];obtain ⟨w7,g7,hw7,hg7,Hw7,Hg7,hG,hGE⟩:=T0 w6 133 #[.string ⟨#[108,111,119]⟩,.int .i64 0,.string ⟨#[104,105,103,104]⟩,.int .i64 0];obtain ⟨w8,g8,hw8,hg8,Hw8,Hg8,hH,hHE⟩:=T0 w7 131 #[.string ⟨#[120]⟩,.int .i64 0,.bool false,.slice (some ⟨g4,0,none⟩) 1 1,.int .i64 0,.int .i64 0,.int .i64 0,.int .i64 0,.slice none 0 0,.int .i64 1,.int .i64 0,.int .i64 0,.int .i64 0,.int .i64 0,.slice none 0 0,.slice none 0 0,.string ⟨#[]⟩,.int .i64 0];have HS2:=hide (show g2=g1 + 1 by rw [hg2,hw1,World.size_alloc,← hg1])
 have HS3:=hide (show g3=g2 + 1 by rw [hg3,hw2,World.size_alloc,← hg2])
 have HS4:=hide (show g4=g3 + 1 by rw [hg4,hw3,World.size_alloc,← hg3])
 have HS5:=hide (show g5=g4 + 1 by rw [hg5,hw4,World.size_alloc,← hg4])
 have HS6:=hide (show g6=g5 + 1 by rw [hg6,hw5,World.size_alloc,← hg5])
 have HS7:=hide (show g7=g6 + 1 by rw [hg7,hw6,World.size_alloc,← hg6])
 have HS8:=hide (show g8=g7 + 1 by rw [hg8,hw7,World.size_alloc,← hg7])
 obtain ⟨HE8,HA8,HB3,HC3,HB5,HC5,HB6,HC6⟩:=Z8 (((((((hAE.trans' hBE).trans' hCE).trans' hDE).trans' hEE).trans' hFE).trans' hGE).trans' hHE) (((((((hA.ext hBE).ext hCE).ext hDE).ext hEE).ext hFE).ext hGE).ext hHE) (hB.ext hCE) hC (((hB.ext hCE).ext hDE).ext hEE) ((hC.ext hDE).ext hEE) ((((hB.ext hCE).ext hDE).ext hEE).ext hFE) (((hC.ext hDE).ext hEE).ext hFE);obtain ⟨HE7,HD8,HF8,HG8,HH8⟩:=Z5 ((hE.ext hFE).ext hGE) ((((hD.ext hEE).ext hFE).ext hGE).ext hHE) ((hF.ext hGE).ext hHE) (hG.ext hHE) hH;have hc3:=HC3.out;obtain ⟨c0,c1⟩:=X2 hc3;have HLT:=hide (show g1 < g6∧g1 < g7∧g1 < g8∧g1 < g4∧w.heap.size≤g1 from by have h2:=HS2.out; have h3:=HS3.out; have h4:=HS4.out; have h5:=HS5.out; have h6:=HS6.out; have h7:=HS7.out; have h8:=HS8.out; omega)
 clear hw1 hg1 hA hAE hw2 hg2 hB hBE hw3 hg3 hC hCE hw4 hg4 hD hDE hw5 hg5 hE hEE hw6 hg6 hF hFE hw7 hg7 hG hGE hw8 hg8 hH hHE hc3;go_enter Tryz.func28,Tryz.ntmps28
 go_upto_region 1 with fail
 rw [← Hw1.out,← Hg1.out];go_upto_region 2 with fail
 rw [← Hg2.out,← HS3.out,← Hw2.out,← Hw3.out];go_upto_region 3 with fail
 rw [← Hg4.out,← HS5.out,← Hw4.out,← Hw5.out];clear c0 c1;have hb5:=HB5.out;have hc5:=HC5.out;obtain ⟨b0,b1⟩:=X2 hb5;obtain ⟨c0,c1⟩:=X2 hc5;rename_i Kz hKz
 refine wp_region_lit ?_;refine wpList_plain rfl fun K0 hK0=>?_
 go_simp;refine hK0 _ _ ?_;refine wpList_plain rfl fun K1 hK1=>?_
 go_simp;refine hK1 _ _ ?_;refine wpList_plain rfl fun K2 hK2=>?_
 go_simp;refine hK2 _ _ ?_;rw [← Hw6.out,← Hg6.out];clear b0 b1 c0 c1 hb5 hc5;have hb6:=HB6.out;have hc6:=HC6.out;obtain ⟨b0,b1⟩:=X2 hb6;obtain ⟨c0,c1⟩:=X2 hc6;refine wpList_plain rfl fun K0 hK0=>?_
 go_simp;refine hK0 _ _ ?_;refine wpList_plain rfl fun K1 hK1=>?_
 go_simp;refine hK1 _ _ ?_;refine wpList_plain rfl fun K2 hK2=>?_
 go_simp;refine hK2 _ _ ?_;refine wpList_plain rfl fun K3 hK3=>?_
 go_simp;refine hK3 _ _ ?_;rw [← Hw7.out,← Hg7.out];clear b0 b1 c0 c1 hb6 hc6;refine wpList_load_mid rfl 131 _ rfl g5 0 rfl _ _ (Qb8 HE7.out) Tryz.underlying131 rfl Qux ?_;refine wpList_plain rfl fun K0 hK0=>?_
 go_simp;refine hK0 _ _ ?_;rw [← Hw8.out,← Hg8.out];refine wpList_plain rfl fun K0 hK0=>?_
 go_simp;refine hK0 _ _ ?_;refine wpList_plain rfl fun K1 hK1=>?_
 go_simp;refine hK1 _ _ ?_;refine wpList_store_mid rfl 31 _ _ rfl g1 0 #[.slice (some ⟨g6,0,none⟩) 2 2,.slice (some ⟨g7,0,none⟩) 1 1,.slice none 0 0,.int .i64 7,.int .i64 0,.int .i64 0,.int .i64 0,.int .i64 0,.slice none 0 0,.slice (some ⟨g8,0,none⟩) 1 1,.string ⟨#[]⟩,.int .i64 0] rfl rfl (Qbo HA8.out (o:=0) (m:=(#[.slice (some ⟨g6,0,none⟩) 2 2,.slice (some ⟨g7,0,none⟩) 1 1,.slice none 0 0,.int .i64 7,.int .i64 0,.int .i64 0,.int .i64 0,.int .i64 0,.slice none 0 0,.slice (some ⟨g8,0,none⟩) 1 1,.string ⟨#[]⟩,.int .i64 0]:Array Value).size) nL) (by kernel_rfl) (by simp [Value.oneCell']) ?_
 have hb9:=Qdr [.slice (some ⟨g6,0,none⟩) 2 2,.slice (some ⟨g7,0,none⟩) 1 1,.slice none 0 0,.int .i64 7,.int .i64 0,.int .i64 0,.int .i64 0,.int .i64 0,.slice none 0 0,.slice (some ⟨g8,0,none⟩) 1 1,.string ⟨#[]⟩,.int .i64 0] [.slice none 0 0,.slice none 0 0,.slice none 0 0,.int .i64 0,.int .i64 0,.int .i64 0,.int .i64 0,.int .i64 0,.slice none 0 0,.slice none 0 0,.string ⟨#[]⟩,.int .i64 0] HA8.out rfl;obtain ⟨w9,hw9⟩:=V1 (w8.setCells g1 0 [.slice (some ⟨g6,0,none⟩) 2 2,.slice (some ⟨g7,0,none⟩) 1 1,.slice none 0 0,.int .i64 7,.int .i64 0,.int .i64 0,.int .i64 0,.int .i64 0,.slice none 0 0,.slice (some ⟨g8,0,none⟩) 1 1,.string ⟨#[]⟩,.int .i64 0]);have hm9:=Mv.setCells (X:=fun i=>i=g1) (g:=g1) (Mv.rfl' _ w8) rfl [.slice (some ⟨g6,0,none⟩) 2 2,.slice (some ⟨g7,0,none⟩) 1 1,.slice none 0 0,.int .i64 7,.int .i64 0,.int .i64 0,.int .i64 0,.int .i64 0,.slice none 0 0,.slice (some ⟨g8,0,none⟩) 1 1,.string ⟨#[]⟩,.int .i64 0] 0
 rw [← hw9] at hb9 hm9;show wpList _ _ _ _ _ (w8.setCells g1 0 [.slice (some ⟨g6,0,none⟩) 2 2,.slice (some ⟨g7,0,none⟩) 1 1,.slice none 0 0,.int .i64 7,.int .i64 0,.int .i64 0,.int .i64 0,.int .i64 0,.slice none 0 0,.slice (some ⟨g8,0,none⟩) 1 1,.string ⟨#[]⟩,.int .i64 0])
 rw [← hw9];obtain ⟨HB9,HM9⟩:=Z2 hb9 hm9;clear hw9 hb9 hm9;refine wpList_nil ?_;refine hKz _ _ ?_;go_wp2_with fail
 have HLT':=HLT.out;refine Qnk (g:=g1) HB9.out (by kernel_rfl) rfl rfl rfl ?_
 refine ⟨[.slice (some ⟨g6,0,none⟩) 2 2,.slice (some ⟨g7,0,none⟩) 1 1,.slice none 0 0,.int .i64 7,.int .i64 0,.int .i64 0,.int .i64 0,.int .i64 0,.slice none 0 0,.slice (some ⟨g8,0,none⟩) 1 1,.string ⟨#[]⟩,.int .i64 0],rfl,?_,HM9.out.below HE8.out (fun i e=>by rw [e]; exact HLT'.2.2.2.2)⟩
 have m4:=HM9.out.blk HD8.out (by omega)
 have m6:=HM9.out.blk HF8.out (by omega)
 have m7:=HM9.out.blk HG8.out (by omega)
 have m8:=HM9.out.blk HH8.out (by omega)
 have reads_of:∀ {g:Nat} {t:TypeId} {vs:List Value} {n k:Nat},Blk w9 g t vs.toArray→vs.length=n * k→Reads w9 w9.heap.size k (some ⟨g,0,none⟩) n vs:=fun {g t vs n k} hB hl=>⟨hl,fun _=>⟨_,rfl,hB.lt,fun j u hu=>by
  have e:(⟨g,0,none⟩:Addr).add j=⟨g,j,none⟩:=by
   unfold Addr.add;split
   ·next h=>rw [h]
   ·simp
  rw [e,hB.cell,gA];exact hu⟩⟩
 refine ⟨_,_,_,_,_,_,_,rfl,reads_of (vs:=wdCells [(Qpf,0),(Qfl,0)]) m6 rfl,reads_of (vs:=Qbr [((Qpf,0),(Qfl,0))]) m7 rfl,fun h=>absurd h (Nat.not_lt_zero _),?_⟩
 refine ⟨none,0,some ⟨g8,0,none⟩,1,rfl,Reads.none_,fun _=>⟨g8,0,rfl,m8.lt,fun i hi=>?_⟩⟩
 obtain rfl:i=0:=by omega
 refine ⟨some ⟨g4,0,none⟩,1,none,0,_,fun j v hv=>?_,reads_of (vs:=wdCells [(Qfl,0)]) m4 rfl,Reads.none_,⟨none,0,none,0,rfl,Reads.none_,fun h=>absurd h (Nat.not_lt_zero _)⟩⟩
 rw [show 0 + 0 * 18 + j=j by omega,m8.cell,gA]
 exact hv
def Qay (s:Sch):Nat→Int × Int
 | 0=>(Q6 s.root,Qba s.root)
 | k + 1=>(IntKind.i64.wrap ((Qay s k).1 + Q6 (s.ty k)),if (Qay s k).2 < Qba (s.ty k) then Qba (s.ty k) else (Qay s k).2)
def Qcp (s:Sch):Bool:=if 100 < s.ws.length∨400 < s.os.length∨100 < s.n then true else decide (2000 < (Qay s s.n).1) || decide (60 < (Qay s s.n).2)
theorem Qkc {s:Sch} (h:Qcp s=false):s.ws.length≤100∧s.os.length≤400∧s.n≤100:=by
 unfold Qcp at h;by_cases c:100 < s.ws.length∨400 < s.os.length∨100 < s.n
 ·rw [if_pos c] at h; cases h
 ·omega
set_option maxRecDepth 100000 in
theorem Qrl (s:Sch) (vs:List Value) (w:World) (hS:SchAt w s vs) (hz:SchSz s):Calls Tryz.prog 18 #[.agg vs.toArray] w (fun e w'=>e = .returned (.bool (Qcp s))∧Ext w w'):=by
 obtain ⟨A1,c1,A2,c2,A3,c3,vr,rfl,hA1,hA2,hA3,hR⟩:=hS;obtain ⟨y0,y1,y2,y3,y4,y5,y6,y7,y8,rfl⟩:∃ y0 y1 y2 y3 y4 y5 y6 y7 y8:Value,vr = [y0,y1,y2,y3,y4,y5,y6,y7,y8]:=by obtain ⟨y0,y1,y2,y3,y4,y5,y6,y7,y8,e⟩:=hR.nine; exact ⟨y0,y1,y2,y3,y4,y5,y6,y7,y8,e⟩
 obtain ⟨nw,hnw,no,hno,n,hn⟩:=V3 (s.ws.length) (s.os.length) (s.n);have hroot:=fun w1 (hE:Ext w w1)=>Qhs s.root w1 _ (hR.ext hE) hz.root
 obtain ⟨HNM,HSZ⟩:=Z2 hA3 (fun k (hk:k < s.n) w1 vt (hT:TyAt w1 w1.heap.size (s.ty k) vt)=>Qhs (s.ty k) w1 vt hT (hz.ty k hk))
 rw [← hn] at HNM HSZ;have hgb:Qcp s=if 100 < nw∨400 < no∨100 < n then true else decide (2000 < (Qay s n).1) || decide (60 < (Qay s n).2):=by rw [hnw,hno,hn]; rfl
 rw [hgb,← hnw,← hno,← hn];have hw0:nw≤5864062014634:=by rw [hnw]; exact hz.ws.1
 have ho0:no≤5864062014634:=by rw [hno]; exact hz.os
 have hn0':n≤5864062014634:=by rw [hn]; exact hz.n
 have HR:=hide (show ∀ w1,Ext w w1→Calls Tryz.prog 48 #[.agg #[y0,y1,y2,y3,y4,y5,y6,y7,y8]] w1 (fun e w'=>e = .returned (.tuple #[.int .i64 (Q6 s.root),.int .i64 (Qba s.root)])∧Ext w1 w') from fun w1 hE=>hroot w1 hE)
 clear hnw hno hn hA1 hA2 hA3 hR hz hgb hroot;show Calls Tryz.prog 18 #[.agg #[.slice A1 nw c1,.slice A2 no c2,.slice A3 n c3,y0,y1,y2,y3,y4,y5,y6,y7,y8]] w _
 obtain ⟨w1,g1,hw1,hg1,Hw1,Hg1,hV,hVE⟩:=T0 w 31 #[.slice A1 nw c1,.slice A2 no c2,.slice A3 n c3,y0,y1,y2,y3,y4,y5,y6,y7,y8];obtain ⟨t0,t1,t2,t3,t4,t5,t6,t7,t8,t9,t10,t11⟩:=X12 hV;obtain ⟨HE1,HV⟩:=Z2 hVE hV;clear hw1 hg1 hV hVE;by_cases d1:100 < nw
 ·have i1:(100:Int) < (nw:Int):=by omega
  rw [if_pos (.inl d1)];clear d1;go_enter Tryz.func18,Tryz.ntmps18
  go_upto_region 1 with fail
  rw [← Hw1.out,← Hg1.out];go_wp2_with fail
  go_ret
  exact ⟨rfl,HE1.out⟩
 have i1:¬ (100:Int) < (nw:Int):=by omega
 by_cases d2:400 < no
 ·have i2:(400:Int) < (no:Int):=by omega
  rw [if_pos (.inr (.inl d2))];clear d1 d2;go_enter Tryz.func18,Tryz.ntmps18
  go_upto_region 1 with fail
  rw [← Hw1.out,← Hg1.out];go_wp2_with fail
  go_ret
  exact ⟨rfl,HE1.out⟩
 have i2:¬ (400:Int) < (no:Int):=by omega
 by_cases d3:100 < n
 ·have i3:(100:Int) < (n:Int):=by omega
  rw [if_pos (.inr (.inr d3))];clear d1 d2 d3;go_enter Tryz.func18,Tryz.ntmps18
  go_upto_region 1 with fail
  rw [← Hw1.out,← Hg1.out];go_wp2_with fail
  go_ret
  exact ⟨rfl,HE1.out⟩
 have i3:¬ (100:Int) < (n:Int):=by omega
 rw [if_neg (by omega)]
 obtain ⟨R,hR⟩:=V1 ((decide (2000 < (Qay s n).1) || decide (60 < (Qay s n).2)));rw [← hR];have HRR:=hide hR;have h00:Qay s 0=(Q6 s.root,Qba s.root):=rfl;have HG0:=hide h00;obtain ⟨C0,hC0,D0,hD0⟩:=V2 (Q6 s.root) (Qba s.root);rw [← hC0,← hD0] at HG0 HR;clear hR h00 hC0 hD0;have hn100:n≤100:=by omega
 have hn0:=nZ n;clear d1 d2 d3;go_enter Tryz.func18,Tryz.ntmps18
 go_upto_region 1 with fail
 rw [← Hw1.out,← Hg1.out];go_wp2_with fail
 refine (HR.out w1 HE1.out).mono ?_;rintro e w2 ⟨rfl,hE2⟩;obtain ⟨HE2,HV2⟩:=Z2 (HE1.out.trans' hE2) (HV.out.ext hE2);clear hE2 HR t0 t1 t2 t3 t4 t5 t6 t7 t8 t9 t10 t11;go_wp2_with fail
 go_loopw [5,3,4] (fun i n' d' wr=>∃ (k:Nat) (N D:Int),k≤n∧i = .int .i64 (k:Int)∧n' = .int .i64 N∧d' = .int .i64 D∧Ext w2 wr∧Hid (Qay s k=(N,D))) (fun i _ _ _=>n - (intOf i).toNat)
 case atStart=>exact ⟨0,C0,D0,Nat.zero_le _,rfl,rfl,rfl,Ext.rfl' _,HG0.out⟩
 case round =>
  obtain ⟨k,N,D,hk,rfl,rfl,rfl,hE,HG⟩:=hrel;have t2:=(HV2.out.ext hE).cell 2;simp only [gA,gH,gS] at t2;by_cases hlt:k < n
  ·have hEw:=HE2.out.trans' hE;obtain ⟨b,o,rfl,hb,hc⟩:=HNM.out (by omega)
   obtain ⟨vt,h1,h2⟩:=hc k hlt;obtain ⟨z0,z1,z2,z3,z4,z5,z6,z7,z8,rfl⟩:∃ z0 z1 z2 z3 z4 z5 z6 z7 z8:Value,vt = [z0,z1,z2,z3,z4,z5,z6,z7,z8]:=by obtain ⟨y0,y1,y2,y3,y4,y5,y6,y7,y8,e⟩:=h2.nine; exact ⟨y0,y1,y2,y3,y4,y5,y6,y7,y8,e⟩
   have HRG:=hide (show wr.rangeAt b (o + k * 11 + 2) [z0,z1,z2,z3,z4,z5,z6,z7,z8] from Qbp (xs:=[.string (s.nm k).1,.int .i64 (s.nm k).2]) fun j v hv=>(hEw.cell (p:=⟨b,o + k * 11 + j,none⟩) hb).trans (h1 j v hv))
   have hsz:=HSZ.out k hlt wr _ (h2.ext hEw);have hnx:Qay s (k + 1)=(IntKind.i64.wrap (N + Q6 (s.ty k)),if D < Qba (s.ty k) then Qba (s.ty k) else D):=by
    show (IntKind.i64.wrap ((Qay s k).1 + Q6 (s.ty k)),if (Qay s k).2 < Qba (s.ty k) then Qba (s.ty k) else (Qay s k).2)=_
    rw [HG.out]
   unfold Qfd at hsz;obtain ⟨C,hC,DD,hDD⟩:=V2 (Q6 (s.ty k)) (Qba (s.ty k));rw [← hC,← hDD] at hsz hnx;have HSK:=hide (show Calls Tryz.prog 48 #[.agg #[z0,z1,z2,z3,z4,z5,z6,z7,z8]] wr (fun e w'=>e = .returned (.tuple #[.int .i64 C,.int .i64 DD])∧Ext wr w') from hsz)
   have HNX:=hide hnx;have i0:=nZ k;have i4:(k:Int) < (n:Int):=by omega
   have HE:=hide hE;clear hc h1 h2 hEw hsz hnx hC hDD hE hb HG;go_upto_region 7 with fail
   refine wp_region_lit ?_;refine wpList_plain rfl fun K0 hK0=>?_
   go_simp;refine hK0 _ _ ?_;refine wpList_plain rfl fun K1 hK1=>?_
   go_simp;refine hK1 _ _ ?_;refine wpList_plain rfl fun K2 hK2=>?_
   go_simp;refine hK2 _ _ ?_;refine wpList_plain rfl fun K3 hK3=>?_
   go_simp;refine hK3 _ _ ?_;refine wpList_plain rfl fun K4 hK4=>?_
   go_simp;refine hK4 _ _ ?_;refine wpList_load_mid rfl 29 _ rfl b (o + k * 11 + 2) rfl _ _ HRG.out Tryz.underlying29 rfl Qbg ?_;refine wpList_plain rfl fun K7 hK7=>?_
   go_simp;refine HSK.out.mono ?_;rintro e w3 ⟨rfl,hE3⟩;have HE3:=hide (HE.out.trans' hE3);clear hE3 t2;refine hK7 _ _ ?_;by_cases hd:D < DD
   ·have hnx:=HNX.out;rw [if_pos hd] at hnx;have HNY:=hide hnx;clear hnx;go_wp2_with fail
    go_roundw
    case rel=>exact ⟨k + 1,IntKind.i64.wrap (N + C),DD,by omega,by go_num,by rw [wrap_64],rfl,HE3.out,HNY.out⟩
    case measure=>simp [intOf]; omega
   ·have hnx:=HNX.out;rw [if_neg hd] at hnx;have HNY:=hide hnx;clear hnx;go_wp2_with fail
    go_roundw
    case rel=>exact ⟨k + 1,IntKind.i64.wrap (N + C),D,by omega,by go_num,by rw [wrap_64],rfl,HE3.out,HNY.out⟩
    case measure=>simp [intOf]; omega
  ·obtain rfl:k=n:=by omega
   have HX:=hide (show R=(decide (2000 < N) || decide (60 < D)) by rw [HRR.out,HG.out])
   have HEr:=hide (HE2.out.trans' hE);clear hE HG;by_cases h2:2000 < N
   ·go_wp2_with fail
    go_ret
    exact ⟨Qb (by rw [HX.out]; simp [h2]),HEr.out⟩
   ·by_cases h3:60 < D
    ·go_wp2_with fail
     go_ret
     exact ⟨Qb (by rw [HX.out]; simp [h3]),HEr.out⟩
    ·go_wp2_with fail
     go_ret
     exact ⟨Qb (by rw [HX.out]; simp [h2,h3]),HEr.out⟩
end Go.Proofs.YtanpljalbijfkaaGreat
