/- . -/
import Derived.Test.YtanpljalbijfkaaGreatQ09
namespace Go.Proofs.YtanpljalbijfkaaGreat
open Go.RowKit
set_option maxHeartbeats 16000000
def Qbr (os:List (Wd × Wd)):List Value:=os.flatMap fun p=>[.string p.1.1,.int .i64 p.1.2,.string p.2.1,.int .i64 p.2.2]
theorem Qex (os:List (Wd × Wd)):(Qbr os).length=os.length * 4:=by
 induction os with
 | nil=>rfl
 | cons p ps ih=>simp only [Qbr,List.flatMap_cons,List.length_append] at ih ⊢; rw [ih]; simp; omega
theorem Qhd (os:List (Wd × Wd)) (k:Nat) (hk:k < os.length):(Qbr os)[k * 4]? = some (.string (lo os k).1)∧(Qbr os)[k * 4 + 1]? = some (.int .i64 (lo os k).2)∧(Qbr os)[k * 4 + 2]? = some (.string (hi os k).1)∧(Qbr os)[k * 4 + 3]? = some (.int .i64 (hi os k).2):=by
 induction os generalizing k with
 | nil=>simp at hk
 | cons p ps ih =>
  cases k with
  | zero=>exact ⟨rfl,rfl,rfl,rfl⟩
  | succ k =>
   have:=ih k (by simpa using hk)
   simp only [Qbr,List.flatMap_cons] at this ⊢;rw [show (k + 1) * 4=k * 4 + 1 + 1 + 1 + 1 by omega]
   simpa [lo,hi] using this
def OdsAt (w:World) (B:Nat) (A:Option Addr) (os:List (Wd × Wd)):Prop:=Reads w B 4 A os.length (Qbr os)
theorem OdsAt.cell {w:World} {B:Nat} {A:Option Addr} {os:List (Wd × Wd)} (h:OdsAt w B A os) (hn:0 < os.length) :
  ∃ b o,A=some ⟨b,o,none⟩∧b < B∧∀ k,k < os.length→w.cell? ⟨b,o + k * 4,none⟩=some (.string (lo os k).1)∧w.cell? ⟨b,o + k * 4 + 1,none⟩=some (.int .i64 (lo os k).2)∧w.cell? ⟨b,o + k * 4 + 2,none⟩=some (.string (hi os k).1)∧w.cell? ⟨b,o + k * 4 + 3,none⟩=some (.int .i64 (hi os k).2):=by
 obtain ⟨b,o,e,hb,hc⟩:=h.form hn (by omega)
 refine ⟨b,o,e,hb,fun k hk=>?_⟩
 obtain ⟨h0,h1,h2,h3⟩:=Qhd os k hk;exact ⟨hc _ _ h0,hc _ _ h1,hc _ _ h2,hc _ _ h3⟩
theorem OdsAt.ext {w w':World} {A:Option Addr} {os:List (Wd × Wd)} (h:OdsAt w w.heap.size A os) (hE:Ext w w'):OdsAt w' w'.heap.size A os :=
 (Reads.keep h fun _p hp=>hE.cell hp).more hE.size
theorem Qak {g:Nat} {w2:World} {fn:Func} {p:Tmp} {a:Act} {R:Ending→World→Prop} {f:Int × Int} (hB:Blk w2 g 34 #[.int .i64 f.1,.int .i64 f.2]) (hfn:fn.results=#[.cell p 34]) (hp:a.tmps.getD p undef = .pointer (some ⟨g,0,none⟩)) (hd:a.defers = [])
  (hR:R (.returned (fltV f)) w2):bodyPost Tryz.prog fn R .ret a w2 :=
 bodyPost_ret (results_cell_row hfn _ _ g 34 _ (0,0) _ hp hB Tryz.underlying34 rfl (by kernel_rfl)) hd hR
theorem Qik {fn:Func} {u p:Tmp} (h:fn.results=#[.tmp u,.cell p 34]) (tmps:Array Value) (w:World) (g:Nat) (f:Int × Int)
  (hp:tmps.getD p undef = .pointer (some ⟨g,0,none⟩)) (hB:Blk w g 34 #[.int .i64 f.1,.int .i64 f.2]) :
  (results fn tmps).run Tryz.prog w = .ok (.tuple #[tmps.getD u undef,fltV f]) w:=by
 have hp':tmps[p]?.getD undef = .pointer (some ⟨g,0,none⟩):=by simpa using hp
 have hl:=run_loadVar_row (P:=Tryz.prog) (ty:=34) w g 34 #[.int .i64 f.1,.int .i64 f.2] (0,0) _ hB Tryz.underlying34 rfl (by kernel_rfl)
 simp [results,h,hp',asAddr,hl,fltV]
theorem Ql {g:Nat} {w2:World} {fn:Func} {u p:Tmp} {a:Act} {R:Ending→World→Prop} {f:Int × Int} {v:Value} (hB:Blk w2 g 34 #[.int .i64 f.1,.int .i64 f.2]) (hfn:fn.results=#[.tmp u,.cell p 34]) (hu:a.tmps.getD u undef=v) (hp:a.tmps.getD p undef = .pointer (some ⟨g,0,none⟩)) (hd:a.defers = [])
  (hR:R (.returned (.tuple #[v,fltV f])) w2):bodyPost Tryz.prog fn R .ret a w2:=by
 subst hu;exact bodyPost_ret (Qik hfn _ _ g f hp hB) hd hR
def Qb0 (ws:List Wd) (os:List (Wd × Wd)):Int × Int :=
 if ws.length=0 then (15,0) else if 32 < ws.length then (8,wPl ws 32) else if 256 < os.length then (8,(lo os 256).2) else (0,0)
set_option maxRecDepth 100000 in
theorem Qsg (A:Option Addr) (c n:Nat) (ws:List Wd) (A2:Option Addr) (c2 m:Nat) (os:List (Wd × Wd)) (w:World) (h:WdsAt w w.heap.size A ws) (hn:n=ws.length) (h2:OdsAt w w.heap.size A2 os) (hm:m=os.length) :
  Calls Tryz.prog 60 #[.slice A n c,.slice A2 m c2] w (fun e w'=>e = .returned (fltV (Qb0 ws os))∧Ext w w'):=by
 by_cases c0:n=0
 ·have e:Qb0 ws os=(15,0):=by unfold Qb0; rw [if_pos (by omega)]
  rw [e];subst c0;clear h h2 hn hm e;go_enter Tryz.func60,Tryz.ntmps60
  go_wp2_with fail
  exact Qak (f:=(15,0)) (Blk.new _ _ _) rfl rfl rfl ⟨rfl,(Ext.rfl' w).alloc nL _⟩
 by_cases c1:32 < n
 ·have e:Qb0 ws os=(8,wPl ws 32):=by unfold Qb0; rw [if_neg (by omega),if_pos (by omega)]
  rw [e];obtain ⟨b,o,rfl,hbs,hcell⟩:=h.cell (by omega)
  have d1:=(hcell 32 (by omega)).2
  obtain ⟨x,hx⟩:=V1 (wPl ws 32);rw [← hx] at d1 ⊢;clear hx hcell h h2 hn hm e;go_enter Tryz.func60,Tryz.ntmps60
  go_wp2_with fail
  exact Qak (f:=(8,x)) (Blk.new _ _ _) rfl rfl rfl ⟨rfl,(Ext.rfl' w).alloc nL _⟩
 by_cases c2:256 < m
 ·have e:Qb0 ws os=(8,(lo os 256).2):=by unfold Qb0; rw [if_neg (by omega),if_neg (by omega),if_pos (by omega)]
  rw [e];obtain ⟨b,o,rfl,hbs,hcell⟩:=h2.cell (by omega)
  have d1:=(hcell 256 (by omega)).2.1
  obtain ⟨x,hx⟩:=V1 ((lo os 256).2);rw [← hx] at d1 ⊢;clear hx hcell h h2 hn hm e;go_enter Tryz.func60,Tryz.ntmps60
  go_wp2_with fail
  exact Qak (f:=(8,x)) (Blk.new _ _ _) rfl rfl rfl ⟨rfl,(Ext.rfl' w).alloc nL _⟩
 ·have e:Qb0 ws os=(0,0):=by unfold Qb0; rw [if_neg (by omega),if_neg (by omega),if_neg (by omega)]
  rw [e];clear h h2 hn hm e;go_enter Tryz.func60,Tryz.ntmps60
  go_wp2_with fail
  exact Qak (f:=(0,0)) (Blk.new _ _ _) rfl rfl rfl ⟨rfl,(Ext.rfl' w).alloc nL _⟩
theorem Qor {l:List ByteArray} {k:Nat} (hk:k < l.length) (h0:∀ j (hj:j < l.length),j < k→¬ findL l l[j] < (j:Int)):twiceL (l.take (k + 1)) < 0↔¬ findL l l[k] < (k:Int):=by
 rw [Qmr,List.take_succ_eq_append_getElem hk,findL_lt hk];have hno:(l.take k).Nodup:=by
  rw [List.Nodup,List.pairwise_iff_getElem];intro i j hi hj hij;simp only [List.length_take] at hi hj;rw [List.getElem_take,List.getElem_take];intro e;exact h0 j (by omega) (by omega) ((findL_lt (by omega)).2 ⟨i,by omega,hij,e⟩)
 rw [List.nodup_append];constructor
 ·rintro ⟨_,_,h3⟩ ⟨j,hj,hjk,e⟩;refine h3 l[j] ?_ l[k] (List.mem_singleton.2 rfl) e;rw [List.mem_take_iff_getElem];exact ⟨j,by omega,rfl⟩
 ·intro h;refine ⟨hno,by simp,fun x hx y hy e=>h ?_⟩
  obtain ⟨j,hj,rfl⟩:=List.mem_take_iff_getElem.1 hx;rw [List.mem_singleton] at hy;subst hy;exact ⟨j,by omega,by omega,e⟩
theorem Qsh (ws:List Wd) (k:Nat) (hk:k < ws.length):(nms ws).take (k + 1)=(nms ws).take k ++ [wNm ws k]:=by
 rw [List.take_succ_eq_append_getElem (by rw [nms_length]; exact hk),nms_at]
theorem Qqa {ws:List Wd} {k:Nat} (hk:k < ws.length) (h0:∀ j,j < k→Q7 ws j=none) :
  (Qj (wNm ws k)=false→Q7 ws k=some (9,wPl ws k)) ∧
  (Qj (wNm ws k)=true→¬ twiceL ((nms ws).take (k + 1)) < 0→Q7 ws k=some (10,wPl ws k)) ∧
  (Qj (wNm ws k)=true→twiceL ((nms ws).take (k + 1)) < 0→Q7 ws k=none):=by
 have key:twiceL ((nms ws).take (k + 1)) < 0↔¬ findL (nms ws) (wNm ws k) < (k:Int):=by
  have:=Qor (l:=nms ws) (k:=k) (by rw [nms_length]; exact hk) fun j hj hjk=>by
   have h1:=h0 j hjk;unfold Q7 at h1;rw [nms_at hj];intro hl;split at h1
   ·cases h1
   ·cases h1
  rw [this,nms_at]
 unfold Q7;refine ⟨fun h=>by rw [if_pos h],fun h h2=>?_,fun h h2=>?_⟩
 ·rw [if_neg (by rw [h]; decide),if_pos (by rw [key] at h2; omega)]
 ·rw [if_neg (by rw [h]; decide),if_neg (key.1 h2)]
theorem grown_blk {wr w0 w3:World} {base size n g:Nat} {e t:TypeId} {v:Value} {xs:List Value} {cs:Array Value} (hB:Blk w0 g t cs) (hg:w0.grownBy w3 v.ownBlock) (hO:wr.ownsRow base e size v n xs) (hne:g < base∨wr.heap.size≤g):Blk w3 g t cs:=by
 refine (hg.block g hB.lt ?_).trans hB;intro e;have:=hO.lt g e.symm
 omega
theorem Qw {w w3:World} (h:Ext w w3) (u v:Value):Ext w ((w3.setCell ⟨w.heap.size,0,none⟩ u).setCell ⟨w.heap.size,1,none⟩ v) :=
 (h.setCell (show w.heap.size≤w.heap.size from Nat.le_refl _) u).setCell (show w.heap.size≤w.heap.size from Nat.le_refl _) v
def Qos (ws:List Wd) (n:Nat) (w:World) (e:Ending) (w':World):Prop :=
 (∃ x,Qf (Q7 ws) n=some x∧e = .returned (.tuple #[.slice none 0 0,fltV x])∧Ext w w') ∨
 (Qf (Q7 ws) n=none∧∃ A c,e = .returned (.tuple #[.slice A n c,fltV (0,0)])∧StrAt w' w'.heap.size A (nms ws)∧Ext w w')
set_option maxRecDepth 100000 in
theorem Qot (A:Option Addr) (c n:Nat) (ws:List Wd) (w:World) (h:WdsAt w w.heap.size A ws) (hsz:∀ i,(wNm ws i).size≤maxLen) (hn:n=ws.length) (hle:n≤1000) :
  Calls Tryz.prog 61 #[.slice A n c] w (Qos ws n w):=by
 obtain ⟨HN,HW,HSZ⟩:=Z3 hn h hsz;clear hn h hsz;go_enter Tryz.func61,Tryz.ntmps61
 go_wp2_with fail
 go_loopw [9,4] (fun i o wr=>∃ (k:Nat) (Ao:Option Addr) (co:Nat),k≤n∧i = .int .i64 k∧o = .slice Ao k co∧Ext w wr∧Blk wr w.heap.size 34 #[.int .i64 0,.int .i64 0]∧wr.ownsRow (w.heap.size + 1) 9 1 (.slice Ao k co) k (Qg ((nms ws).take k))∧Hid (∀ j,j < k→Q7 ws j=none)) (fun i _ _=>n - (intOf i).toNat)
 case atStart=>exact ⟨0,none,0,Nat.zero_le _,rfl,rfl,(Ext.rfl' w).alloc nL _,Blk.new _ _ _,World.ownsRow_nil _ _ _ _,fun j hj=>absurd hj (by omega)⟩
 case round =>
  obtain ⟨k,Ao,co,hk,rfl,rfl,hE,hB,hO,HA⟩:=hrel;obtain ⟨HE,HB,HO⟩:=Z3 hE hB hO;have hs:=hB.lt;by_cases hlt:k < n
  ·have hkl:k < ws.length:=by rw [← HN.out]; exact hlt
   obtain ⟨b,o,rfl,hbs,hcell⟩:=HW.out.cell (by omega)
   obtain ⟨hp1,hp2⟩:=hcell k hkl;obtain ⟨x,hx,p,hp⟩:=V2 (wNm ws k) (wPl ws k);obtain ⟨hn1,hn2,hn3⟩:=Qqa hkl HA.out;have hst:=Qsh ws k hkl;have hxs:=HSZ.out k;rw [← hx] at hp1 hn1 hn2 hn3 hst hxs;rw [← hp] at hp2 hn1 hn2;have q1:wr.cell? ⟨b,o + k * 2,none⟩=some (.string x):=(hE.cell (p:=⟨b,o + k * 2,none⟩) hbs).trans hp1;have q2:wr.cell? ⟨b,o + k * 2 + 1,none⟩=some (.int .i64 p):=(hE.cell (p:=⟨b,o + k * 2 + 1,none⟩) hbs).trans hp2;obtain ⟨rb,hrb⟩:=V1 (Qj x);have HR:=hide (fun w=>right_any x w hxs)
   rw [← hrb] at HR hn1 hn2 hn3;obtain ⟨H1,H2,H3,HST⟩:=Z4 hn1 hn2 hn3 hst;clear hst hp1 hp2 hcell hE hB hO hx hp hn1 hn2 hn3 hrb hxs;go_wp2_with (at_builtin; refine Qa0 _ rfl _ _ rfl (w.heap.size + 1) _ k ((nms ws).take k) rfl (wr.heap.size + 1) x _ rfl ((HO.out.alloc _).alloc _) (reads_at _ _ _ _ (by simp)) (by omega) (by simp; omega) ?_)
   intro A3 c3 w3 hown3 hgrow3 _;have HE3:=hide (grown_ext' (w:=w) (wr:=wr) (base:=w.heap.size + 1) HE.out (((Ext.rfl' wr).alloc nL _).alloc (by simp) _) hgrow3 HO.out (by omega))
   have hB3:=grown_blk ((HB.out.alloc _).alloc _) hgrow3 HO.out (.inl (by omega))
   have hV3:=grown_blk ((Blk.new wr 27 #[.string x,.int .i64 p]).alloc _) hgrow3 HO.out (.inr nL);obtain ⟨fB3,fB4⟩:=Y2 hB3;have b0:=hB3.cell 0;have b1:=hB3.cell 1;have v0:=hV3.cell 0;have v1:=hV3.cell 1;have bB:=hB3.lt;obtain ⟨HB3,HV3⟩:=Z2 hB3 hV3;rw [← HST.out] at hown3;have HO3:=hide hown3;simp only [gA,gH,gS] at v0 v1 b0 b1;clear hgrow3 hown3 hB3 hV3;go_wp2_with fail
   refine (HR.out _).mono ?_;rintro e w4 ⟨rfl,rfl⟩;cases hrb:rb with
   | false =>
    rw [hrb] at H1;have HX:=hide (Qk (n:=n) hlt HA.out (H1.out rfl));clear H1 H2 H3;go_wp2_with fail
    go_region
    go_wp2_with fail
    exact Ql (f:=(9,p)) (g:=w.heap.size) ((HB3.out.set_ 0 _).set_ 1 _) rfl rfl rfl rfl (.inl ⟨_,HX.out,rfl,(Qw HE3.out _ _).drew'⟩)
   | true =>
    rw [hrb] at H2 H3;have hl:=HO3.out;have hlen:k + 1=((nms ws).take (k + 1)).length:=by rw [List.length_take,nms_length]; omega
    have hsa:StrAt w3 w3.heap.size A3 ((nms ws).take (k + 1)):=by
     unfold StrAt;rw [← hlen];exact Reads.of_own HO3.out
    have HT:=hide (Qf0 A3 c3 (k + 1) _ w3 hsa hlen (by omega))
    obtain ⟨t,ht⟩:=V1 (twiceL ((nms ws).take (k + 1)));rw [← ht] at HT H2 H3;clear hl hlen hsa ht H1;go_wp2_with fail
    refine HT.out.mono ?_;rintro e w5 ⟨rfl,hE5⟩;have HE5:=hide (HE3.out.trans' hE5);have hB5:=HB3.out.ext hE5;have hV5:=HV3.out.ext hE5;have HO5:=hide (own_ext HO3.out hE5);obtain ⟨c0,c1⟩:=X2 hB5;obtain ⟨-,u1⟩:=X2 hV5;obtain ⟨fC3,fC4⟩:=Y2 hB5;have HB5:=hide hB5;clear hB5 hV5 hE5 b0 b1 v0 v1 fB3 fB4;by_cases h0:t < 0
    ·have hA:=below_step HA.out (H3.out (by trivial) h0)
     have HA2:=hide hA;clear hA H2 H3;go_wp2_with fail
     go_roundw
     case rel=>exact ⟨k + 1,A3,c3,by omega,by go_num,rfl,HE5.out,HB5.out,HO5.out,HA2.out⟩
     case measure=>simp [intOf]; omega
    ·have HX:=hide (Qk (n:=n) hlt HA.out (H2.out (by trivial) (by omega)))
     clear H2 H3;go_wp2_with fail
     go_region
     go_wp2_with fail
     exact Ql (f:=(10,p)) (g:=w.heap.size) ((HB5.out.set_ 0 _).set_ 1 _) rfl rfl rfl rfl (.inl ⟨_,HX.out,rfl,(Qw HE5.out _ _).drew'⟩)
  ·obtain rfl:k=n:=by omega
   have hX:=firstOf_miss.2 HA.out;have HX:=hide hX;have hlen:k=(nms ws).length:=by rw [nms_length]; exact HN.out
   have hO':=hO;rw [List.take_of_length_le (by omega)] at hO'
   obtain ⟨HO',HL⟩:=Z2 hO' hlen;obtain ⟨b0,b1⟩:=X2 hB;obtain ⟨f0,f1⟩:=Y2 hB;clear hX hlen hO' hO hB hE;go_wp2_with fail
   have hsa:∀ u v,StrAt ((wr.setCell ⟨w.heap.size,0,none⟩ u).setCell ⟨w.heap.size,1,none⟩ v) ((wr.setCell ⟨w.heap.size,0,none⟩ u).setCell ⟨w.heap.size,1,none⟩ v).heap.size Ao (nms ws):=fun u v=>by
    unfold StrAt;rw [← HL.out];exact Reads.of_own (ownsRow_setCell_below (ownsRow_setCell_below HO'.out (by show w.heap.size < _; omega) u) (by show w.heap.size < _; omega) v)
   exact Ql (f:=(0,0)) (g:=w.heap.size) ((HB.out.set_ 0 _).set_ 1 _) rfl rfl rfl rfl (.inr ⟨HX.out,_,_,rfl,hsa _ _,Qw HE.out _ _⟩)
end Go.Proofs.YtanpljalbijfkaaGreat
