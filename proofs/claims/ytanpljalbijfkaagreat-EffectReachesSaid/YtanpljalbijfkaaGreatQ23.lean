/- . -/
import Derived.Test.YtanpljalbijfkaaGreatQ20
import Derived.Test.YtanpljalbijfkaaGreatQ22
namespace Go.Proofs.YtanpljalbijfkaaGreat
open Go.RowKit
set_option maxHeartbeats 16000000
theorem TabB.mv {w w':World} {D X:Nat→Prop} {g:Nat} {l:List ByteArray} (h:TabB w D g l) (hm:Mv X w w') (hD:∀ i,D i→¬ X i):TabB w' D g l:=by
 obtain ⟨Al,cl,Ao,co,O,h1,h2,h3,h4,h5,h6,h7,h8⟩:=h;exact ⟨Al,cl,Ao,co,O,hm.blk h1 (hD _ h6),Reads.mv h2 hm fun a ha=>hD _ (h7 a ha),Reads.mv h3 hm fun a ha=>hD _ (h8 a ha),h4,h5,h6,h7,h8⟩
theorem TabB.more {w:World} {D D':Nat→Prop} {g:Nat} {l:List ByteArray} (h:TabB w D g l) (hD:∀ i,D i→D' i):TabB w D' g l:=by
 obtain ⟨Al,cl,Ao,co,O,h1,h2,h3,h4,h5,h6,h7,h8⟩:=h;exact ⟨Al,cl,Ao,co,O,h1,h2,h3,h4,h5,hD _ h6,fun a ha=>hD _ (h7 a ha),fun a ha=>hD _ (h8 a ha)⟩
theorem Qfg {s:Sch} (hf:s.Fine) {k:Nat} (hk:k < s.n):s.first (k + 1)=s.first k + nodC (s.ty k)∧s.first k + nodC (s.ty k)≤512∧Qz (s.ty k)≤512:=by
 have h1:=Qa5 (f:=fun i=>Qz (s.all i)) (show k < s.n + 1 by omega)
 have h2:=hf.many;have h3:s.first k≤sumTo (fun i=>Qz (s.all i)) k:=Qdz fun i hi=>by rw [Sch.all_lt (show i < s.n by omega)]; exact Qcu _
 have h4:=Qcu (s.ty k);rw [Sch.all_lt hk] at h1;exact ⟨rfl,by omega,by omega⟩
theorem Qlp {s:Sch} (hf:s.Fine) {k:Nat} (hk:k≤s.n):s.first k≤512:=by
 rcases Nat.eq_zero_or_pos k with h0 | h0
 ·subst h0; exact Nat.zero_le _
 ·obtain ⟨j,rfl⟩:∃ j,k=j + 1:=⟨k - 1,by omega⟩
  have:=Qfg hf (show j < s.n by omega)
  omega
def starts (s:Sch) (k:Nat):List Nat:=(List.range k).map s.start
theorem Qnb (s:Sch) (k:Nat):starts s (k + 1)=starts s k ++ [s.start k]:=by
 unfold starts;rw [List.range_succ,List.map_append];rfl
theorem Qb1 (s:Sch) (k:Nat):(starts s k).length=k:=by simp [starts]
theorem own_block {w:World} {base size n:Nat} {e:TypeId} {v:Value} {xs:List Value} (h:w.ownsRow base e size v n xs):∀ g,v.ownBlock=some g→base≤g:=by
 intro g hg;rcases h.2 with ⟨rfl,_⟩ | ⟨g',cap,cur,rfl,hb,_⟩
 ·cases hg
 ·have e:g'=g:=by simpa [Value.ownBlock] using hg
  rw [← e]; exact hb
theorem wp_append_N (w:World) {o:Oper} {a:Act} {K:Act→World→Prop} {Q:Exit→Act→World→Prop} (s x:Operand)
  (ho:o.op = .call { callee:=.builtin .append,args:=#[s,x],argTypes:=#[58,58] })
  (base:Nat) (v:Value) (n:Nat) (l:List Nat) (hs:a.eval s=v) (g:Nat) (u:Nat) (c:Nat) (hx:a.eval x = .slice (some ⟨g,0,none⟩) 1 c)
  (hown:w.ownsRow base 3 1 v n (natCells l)) (hr:Reads w (g + 1) 1 (some ⟨g,0,none⟩) 1 [.int .i64 (u:Int)]) (hn:n≤1073741823) (hbase:base≤w.heap.size)
  (h:∀ A' c' w',w'.ownsRow base 3 1 (.slice A' (n + 1) c') (n + 1) (natCells (l ++ [u]))→w.grownBy w' v.ownBlock→(Value.ownBlock (.slice A' (n + 1) c')=v.ownBlock∨Value.ownBlock (.slice A' (n + 1) c')=some w.heap.size)→K (a.put o.dst (.slice A' (n + 1) c')) w'):o.wp Tryz.prog a w K Q:=by
 obtain ⟨i0,hi,hz,hs2,hb⟩:=info_int;refine Qar w s x 58 ho base 3 i0 _ 1 8 Tryz.underlying58 hi hz hs2 hb rfl (by decide) v n (natCells l) hs hown (g + 1) _ 1 c [.int .i64 (u:Int)] hx hr (fun y hy=>by rw [List.mem_singleton.1 hy]; rfl) (by unfold maxLen; omega) (by omega) hbase ?_
 intro v' w' h2 h3 h4;have hv:∃ A' c',v' = .slice A' (n + 1) c':=by
  rcases h2.2 with ⟨e,h0⟩ | ⟨g,cap,cur,e,_⟩
  ·omega
  ·exact ⟨_,_,e⟩
 obtain ⟨A',c',hv⟩:=hv;rw [hv] at h2 h4 ⊢;refine h A' c' w' ?_ h3 h4;have:natCells (l ++ [u])=natCells l ++ [.int .i64 (u:Int)]:=by simp [natCells]
 rw [this];exact h2
def Qo5 (s:Sch) (gl gp gt n:Nat) (NV:Value) (r0:Int) (w:World) (e:Ending) (w':World):Prop :=
 e = .returned (.tuple #[])∧Mv (fun i=>i=gp) w w'∧∃ An cn,Blk w' gp 83 #[.pointer (some ⟨gl,0,none⟩),NV,.int .i64 r0,.pointer (some ⟨gt,0,none⟩),.slice An n cn]∧NatAt w' w'.heap.size An (starts s n)∧∀ a,An=some a→w.heap.size≤a.block
set_option maxRecDepth 100000 in
theorem Qo6 (gb gl gp gt n c3:Nat) (A3:Option Addr) (xs:List Value) (mm r0:Int) (NV:Value) (s:Sch) (w0 w:World) (hB:BldAt w gb A3 n c3 xs gl gp mm) (hn:n=s.n) (hf:s.Fine)
  (hP:Blk w gp 83 #[.pointer (some ⟨gl,0,none⟩),NV,.int .i64 r0,.pointer (some ⟨gt,0,none⟩),.slice none 0 0]) (hT:TabB w (fun i=>i≠gp) gt s.names) (hE0:Ext w0 w) (hgp:w0.heap.size≤gp) (hN:NamedAt w0 w0.heap.size A3 n s.nm s.ty) (hsz:∀ i,i < n→Qr (s.ty i)) (hend:∀ i,i < n→∃ j,s.endK n i=some j) :
  Calls Tryz.prog 35 #[.pointer (some ⟨gb,0,none⟩)] w (Qo5 s gl gp gt n NV r0 w):=by
 obtain ⟨i0,hi,hz0,hz1,hz2⟩:=info_int;have h64:n≤64:=by rw [hn]; exact hf.few
 have hne:gp≠gb:=hB.ne hP (by decide)
 have hgpl:=hP.lt;have hgbl:=hB.lt;obtain ⟨HNE,HGP,HEND,HB,HP,HT,HE0,HN⟩:=Z8 hne hgp (fun (k:Nat) (hk:k < n) (MV:Value) w1 (hB1:BldAt w1 gb A3 n c3 xs gl gp mm) (hP1:Blk w1 gp 83 #[.pointer (some ⟨gl,0,none⟩),NV,.int .i64 r0,.pointer (some ⟨gt,0,none⟩),MV]) (hT1:TabAt w1 gt s.names) (hE1:Ext w0 w1)=>Qn4 gb gl gp gt n c3 A3 xs mm r0 NV MV s k w1 hB1 hn (by omega) hk hP1 hT1 (hN.ext hE1)) hB hP hT hE0 hN
 obtain ⟨HSZ,HFS,HFL⟩:=Z3 hsz (fun k (hk:k < n)=>Qfg hf (k:=k) (by omega)) (fun k (hk:k≤n)=>Qlp hf (k:=k) (by omega))
 have HEN:=hide (fun i (hi:i < n)=>(show ∃ j,j < n∧s.endK n i=some j∧s.start i=s.first j by
  obtain ⟨j,hj⟩:=hend i hi;refine ⟨j,?_,hj,?_⟩
  ·have:=(Sch.endK_lt (closed s) (by omega) hj).1; omega
  ·unfold Sch.start; rw [← hn,hj]))
 have hle:(n:Int)≤64:=by omega
 have hle0:=nZ n;have b2:=hB.c2;clear hB hP hT hE0 hN hn hf hsz hend hne hgp;go_enter Tryz.func35,Tryz.ntmps35
 go_wp2_with (at_make; refine wpList_make_full _ rfl _ _ 58 rfl w.heap.size 3 i0 (.int .i64 0) 1 Tryz.underlying58 hi hz0 hz1 _ _ _ _ n rfl rfl rfl rfl ?c1 ?c2 nL ?_)
 case c1=>rw [hz2]; omega
 case c2=>unfold maxLen; omega
 intro w2 hown2 hgrow2;have hE2:=ext_of_grown hgrow2;have hg2:=(hown2.lt w.heap.size rfl).2;obtain ⟨gf,hgf⟩:=V1 (w.heap.size);have hr2:∀ p,p < n→w2.cell? ⟨w.heap.size,p,none⟩=some (.int .i64 0):=fun p hp=>by
  rw [hown2.cellAt p (by omega)]
  simp [madeCells,hp,Nat.mod_one]
 have hf2:∀ p,w2.frozen? ⟨w.heap.size,p,none⟩=false:=fun p=>hown2.frozenAt p
 rw [← hgf] at hr2 hf2 hg2 ⊢;obtain ⟨HGF,HR2,HF2,HE2⟩:=Z4 hgf hr2 hf2 hE2;have b3:=(HB.out.ext hE2).c2;clear hown2 hgrow2 hE2 hr2 hf2 hgf b2;go_wp2_with fail
 clear b3;go_loopw [20,3] (fun i at_ wr=>∃ k:Nat,k≤n∧i = .int .i64 (k:Int)∧at_ = .int .i64 ((s.first k:Nat):Int)∧Ext w wr∧gf < wr.heap.size∧Hid ((∀ p,p < n→wr.cell? ⟨gf,p,none⟩=some (.int .i64 ((if p < k then s.first p else 0:Nat):Int)))∧∀ p,wr.frozen? ⟨gf,p,none⟩=false)) (fun i _ _=>n - (intOf i).toNat)
 case atStart=>exact ⟨0,Nat.zero_le _,rfl,rfl,HE2.out,hg2,fun p hp=>by rw [HR2.out p hp,if_neg (Nat.not_lt_zero _)]; rfl,HF2.out⟩
 case round =>
  clear HR2 HF2 HE2 hg2;obtain ⟨k,hk,rfl,rfl,hE,hgs,HC⟩:=hrel;have HE:=hide hE;by_cases hlt:k < n
  ·have hEw:=HE0.out.trans' hE;obtain ⟨b,o,rfl,hb,hc⟩:=HN.out (by omega)
   obtain ⟨vt,h1,h2⟩:=hc k hlt;have hrg:=fun j' (v:Value) hv=>(hEw.cell (p:=⟨b,o + k * 11 + j',none⟩) hb).trans (h1 j' v hv)
   obtain ⟨h,np,p,t,An,cn,Ap,cp,hty,rfl⟩:=h2.open2;have HRG:=hide (show wr.rangeAt b (o + k * 11) ([.string (s.nm k).1,.int .i64 (s.nm k).2] ++ tyV h An cn Ap np cp) from hrg)
   unfold tyV at HRG;simp only [List.cons_append,List.nil_append] at HRG;obtain ⟨x,hx,y,hy⟩:=V2 ((s.nm k).1) ((s.nm k).2);rw [← hx,← hy] at HRG;have hnod:=fun w1 (hE1:Ext w0 w1)=>Qqf (s.ty k) w1 _ (TyAt.ext h2 hE1) (HSZ.out k hlt) (by have:=(HFS.out k hlt).2.2; omega)
   obtain ⟨q1,q2,q3⟩:=HFS.out k hlt;have HQ:=hide q1;obtain ⟨z,hz⟩:=V1 (nodC (s.ty k));rw [← hz] at hnod q2;have HNOD:=hide (show ∀ w1,Ext w0 w1→Calls Tryz.prog 75 #[.agg #[.int .i64 h.kind,.int .i64 h.at_,.int .i64 h.lo,.int .i64 h.hi,.int .i64 h.most,.slice An h.names.length cn,.slice Ap np cp,.string h.name.1,.int .i64 h.name.2]] w1 (fun e w'=>e = .returned (.int .i64 (z:Int))∧Ext w1 w') from hnod)
   obtain ⟨fk,hfk⟩:=V1 (s.first k)
   rw [← hfk] at q2 ⊢;obtain ⟨HFK,HZ⟩:=Z2 hfk hz;obtain ⟨w5,g5,hw5,hg5,Hw5,Hg5,hV,hVE⟩:=T0 wr 90 #[.string x,.int .i64 y,.int .i64 h.kind,.int .i64 h.at_,.int .i64 h.lo,.int .i64 h.hi,.int .i64 h.most,.slice An h.names.length cn,.slice Ap np cp,.string h.name.1,.int .i64 h.name.2];obtain ⟨-,-,v2,v3,v4,v5,v6,v7,v8,v9,v10⟩:=X11 hV;obtain ⟨HE5,HX5,HEw,HV⟩:=Z4 (hE.trans' hVE) hVE hEw hV;have d1:=(hVE.cell (p:=⟨gf,k,none⟩) hgs).trans (HC.out.1 k hlt);have d2:=(hVE.frozen (p:=⟨gf,k,none⟩) hgs).trans (HC.out.2 k);have hgg:gf≠g5:=by have:=Hg5.out; omega
   rw [if_neg (Nat.lt_irrefl k)] at d1;have i0:=nZ k;have i1:(k:Int) < (n:Int):=by omega
   have c0:=nZ fk;have c1:(fk:Int)≤512:=by omega
   have x0:=nZ z;have x1:(z:Int)≤512:=by omega
   clear hrg h1 h2 hc hE hEw hw5 hg5 hV hVE hx hy hty q1 q2 q3 hnod hfk hz;go_upto_region 4 with fail
   refine wp_region_lit ?_;refine wpList_plain rfl fun K0 hK0=>?_
   go_simp;refine hK0 _ _ ?_;refine wpList_plain rfl fun K1 hK1=>?_
   go_simp;refine hK1 _ _ ?_;refine wpList_load_mid rfl 90 _ rfl b (o + k * 11) rfl _ _ HRG.out Tryz.underlying90 rfl Qa2 ?_;refine wpList_plain rfl fun K0 hK0=>?_
   go_simp;refine hK0 _ _ ?_;refine wpList_plain rfl fun K1 hK1=>?_
   go_simp;refine hK1 _ _ ?_;refine Qc rfl 90 _ _ rfl _ #[.string x,.int .i64 y,.int .i64 h.kind,.int .i64 h.at_,.int .i64 h.lo,.int .i64 h.hi,.int .i64 h.most,.slice An h.names.length cn,.slice Ap np cp,.string h.name.1,.int .i64 h.name.2] rfl rfl Qa2 rfl (by simp [Value.oneCell']) ?_
   go_upto_region 5 with fail
   rw [← Hw5.out,← Hg5.out];obtain ⟨w6,hw6⟩:=V1 (w5.setCell ⟨gf,k,none⟩ (.int .i64 (fk:Int)));have HE6:=hide (show Ext w w6 by rw [hw6]; exact HE5.out.setCell (by rw [HGF.out]; exact Nat.le_refl _) _)
   have hV6:Blk w6 g5 90 #[.string x,.int .i64 y,.int .i64 h.kind,.int .i64 h.at_,.int .i64 h.lo,.int .i64 h.hi,.int .i64 h.most,.slice An h.names.length cn,.slice Ap np cp,.string h.name.1,.int .i64 h.name.2]:=by rw [hw6]; exact HV.out.far (fun e=>hgg e.symm) _
   have HC6:=hide (show (∀ p,p < n→w6.cell? ⟨gf,p,none⟩=some (.int .i64 ((if p < k + 1 then s.first p else 0:Nat):Int)))∧(∀ p,w6.frozen? ⟨gf,p,none⟩=false)∧gf < w6.heap.size by
    rw [hw6];refine ⟨fun p hp=>?_,fun p=>?_,?_⟩
    ·by_cases e:p=k
     ·subst e;rw [if_pos (Nat.lt_succ_self _),← HFK.out];exact World.cell?_setCell_same _ _ _ d1
     ·refine (World.cell?_setCell_other _ _ _ _ (by intro e'; injection e' with _ e'; omega)).trans ?_
      rw [(HX5.out.cell (p:=⟨gf,p,none⟩) hgs).trans (HC.out.1 p hp)];by_cases e2:p < k
      ·rw [if_pos e2,if_pos (by omega)]
      ·rw [if_neg e2,if_neg (by omega)]
    ·rw [World.frozen?_setCell];exact (HX5.out.frozen (p:=⟨gf,p,none⟩) hgs).trans (HC.out.2 p)
    ·rw [size_setCell']; exact Nat.lt_of_lt_of_le hgs HX5.out.size)
   have HW6:=hide hw6;clear hw6;go_upto_region 6 with fail
   rw [← HW6.out];obtain ⟨u0,-,u2,u3,u4,u5,u6,u7,u8,u9,u10⟩:=X11 hV6;clear d1 d2 v2 v3 v4 v5 v6 v7 v8 v9 v10 HC HX5 hV6;go_wp2_with fail
   refine (HNOD.out w6 (HE0.out.trans' HE6.out)).mono ?_;rintro e w7 ⟨rfl,hE7⟩;have HE7:=hide (HE6.out.trans' hE7);have HC7:=hide (show (∀ p,p < n→w7.cell? ⟨gf,p,none⟩=some (.int .i64 ((if p < k + 1 then s.first p else 0:Nat):Int)))∧(∀ p,w7.frozen? ⟨gf,p,none⟩=false) from ⟨fun p hp=>(hE7.cell (p:=⟨gf,p,none⟩) HC6.out.2.2).trans (HC6.out.1 p hp),fun p=>(hE7.frozen (p:=⟨gf,p,none⟩) HC6.out.2.2).trans (HC6.out.2.1 p)⟩)
   have hgs7:gf < w7.heap.size:=Nat.lt_of_lt_of_le HC6.out.2.2 hE7.size;clear hE7 u0 u2 u3 u4 u5 u6 u7 u8 u9 u10;go_wp2_with fail
   go_roundw
   case rel=>exact ⟨k + 1,by omega,by go_num,by rw [HQ.out,← HFK.out,← HZ.out]; go_num,HE7.out,hgs7,HC7.out⟩
   case measure=>simp [intOf]; omega
  ·obtain rfl:k=n:=by omega
   have hB8:=HB.out.ext hE;have hP8:=HP.out.ext hE;have hT8:=HT.out.mv (Mv.of_ext (X:=fun i=>i=gp) hE) (fun i hi=>hi)
   have hE08:=HE0.out.trans' hE;have hR8:∀ p,p < k→wr.cell? ⟨gf,p,none⟩=some (.int .i64 ((s.first p:Nat):Int)):=fun p hp=>by rw [HC.out.1 p hp,if_pos hp]
   obtain ⟨w8,rfl⟩:=V1 (wr);have lgb:=hB8.lt;have lgp:=hP8.lt;have hgfp:gf≠gp:=by rw [HGF.out]; omega
   obtain ⟨HB8,HT8,HE8,HE08,HR8,HP8⟩:=Z6 hB8 hT8 hE hE08 hR8 hP8;have b2:=hB8.c2;clear HC HB HP HT HE0 hB8 hT8 hE08 hR8 hP8 hE HE;go_wp2_with fail
   clear b2;go_loopw [41] (fun i wx=>∃ (q:Nat) (Ao:Option Addr) (co:Nat),q≤k∧i = .int .i64 (q:Int)∧Blk wx gp 83 #[.pointer (some ⟨gl,0,none⟩),NV,.int .i64 r0,.pointer (some ⟨gt,0,none⟩),.slice Ao q co]∧wx.ownsRow w8.heap.size 3 1 (.slice Ao q co) q (natCells (starts s q))∧Mv (fun i=>i=gp) w8 wx) (fun i _=>k - (intOf i).toNat)
   case atStart=>exact ⟨0,none,0,Nat.zero_le _,rfl,HP8.out,World.ownsRow_nil _ _ _ _,Mv.rfl' _ _⟩
   case round =>
    obtain ⟨q,Ao,co,hq,rfl,hP,hO,hM⟩:=hrel;obtain ⟨HM,HO⟩:=Z2 hM hO;by_cases hlt2:q < k
    ·obtain ⟨j,hjk,hj,hst⟩:=HEN.out q hlt2;have hBr:=HB8.out.mv hM (X:=fun i=>i=gp) (fun e=>HNE.out e.symm)
     have hTr:=HT8.out.mv hM (fun i hi=>hi)
     have hE0r:=hM.below HE08.out (fun i hi=>by rw [hi]; exact HGP.out)
     have hend:=fun w1 (hE1:Ext wr w1)=>HEND.out q hlt2 _ w1 (hBr.ext hE1) (hP.ext hE1) (hTr.tab.ext hE1) (hE0r.trans' hE1)
     rw [hj] at hend;have HEN1:=hide (show ∀ w1,Ext wr w1→Calls Tryz.prog 74 #[.pointer (some ⟨gb,0,none⟩),.int .i64 (q:Int)] w1 (fun e w'=>e = .returned (.int .i64 (j:Int))∧Ext w1 w') from hend)
     have s1:=hBr.c13;have s2:=hP.cell 4;have s3:=(hM.cell (p:=⟨gf,j,none⟩) hgs hgfp).trans (HR8.out j hjk);obtain ⟨fj,hfj⟩:=V1 (s.first j)
     rw [← hfj] at s3 hst;have HST:=hide hst;simp only [gA,gH,gS] at s2;have j0:=nZ j;have j1:(j:Int) < (k:Int):=by omega
     have i0:=nZ q;have i1:(q:Int) < (k:Int):=by omega
     have hsz:=hM.size;obtain ⟨HSZW,HPr,HOB⟩:=Z3 hsz hP (own_block hO);clear hP hO hM hBr hTr hE0r hend hj hfj hst hjk;go_upto_region 11 with fail
     rename_i Kz hKz
     refine Qax 14 19 (by kernel_rfl) (by kernel_rfl) (fun w'=>w'.cell? ⟨gb,13,none⟩=some (.pointer (some ⟨gp,0,none⟩))∧w'.cell? ⟨gp,4,none⟩=some (.slice Ao q co)) ⟨s1,s2⟩ ?_
     intro I _ f hf;have q1:=fun n=>(hf n).1
     have q2:=fun n=>(hf n).2
     clear hf;simp only [List.take_succ_cons,List.take_zero,List.drop_succ_cons,List.drop_zero];repeat (go_big_quiet_step ((fail)))
     refine wpQuiet_nil ?_;clear q1 q2;refine seqF_plain (by decide) rfl ?_
     intro K1 hK1;go_simp;refine (HEN1.out _ (Ext.drew' (Ext.rfl' wr))).mono ?_;rintro e wz ⟨rfl,hEz⟩;have hEz':=((Ext.rfl' wr).drew').trans' hEz;have zsz:=hEz'.size;have z1:=(hEz'.cell (p:=⟨gb,13,none⟩) (by show gb < _; omega)).trans s1
     have z2:=(hEz'.cell (p:=⟨gp,4,none⟩) (by show gp < _; omega)).trans s2
     have z3:=(hEz'.cell (p:=⟨gf,j,none⟩) (by show gf < _; omega)).trans s3
     obtain ⟨HEz,HZ12⟩:=Z2 hEz' (And.intro z1 z2);clear hEz hEz' s1 s2 s3 z1 z2;refine hK1 _ _ HZ12.out ?_;refine seqF_plain (by decide) rfl ?_
     intro K2 hK2;go_simp;refine hK2 _ _ HZ12.out ?_;refine seqF_plain (by decide) rfl ?_
     intro K3 hK3;go_simp;refine hK3 _ _ HZ12.out ?_;refine seqF_plain (by decide) rfl ?_
     intro K4 hK4;go_simp;refine hK4 _ _ ⟨(World.cell?_alloc_lt _ _ ⟨gb,13,none⟩ (by show gb < _; omega)).trans HZ12.out.1,(World.cell?_alloc_lt _ _ ⟨gp,4,none⟩ (by show gp < _; omega)).trans HZ12.out.2⟩ ?_
     refine seqF_plain (by decide) rfl ?_
     intro K5 hK5;refine wp_append_N _ (.tmp 54) (.tmp 61) rfl w8.heap.size (.slice Ao q co) q (starts s q) rfl wz.heap.size fj 1 rfl ((own_ext HO.out HEz.out).alloc _) (reads_at _ _ _ _ rfl) (by omega) (by simp only [World.size_alloc]; omega) ?_
     intro A4 c4 w4 hown4 hgrow4 _;have hX4:∀ i,i < w8.heap.size→w4.heap[i]? = wz.heap[i]?:=fun i hi=>(hgrow4.block i (by simp only [World.size_alloc]; omega) (fun e=>by have:=HOB.out i e.symm; omega)).trans (Below.heap_alloc _ _ i (by omega))
     have HM4:=hide (show Mv (fun i=>i=gp) w8 w4 from ⟨hgrow4.os.trans (HEz.out.os.trans HM.out.os),hgrow4.tape.trans (HEz.out.tape.trans HM.out.tape),hgrow4.output.trans (HEz.out.output.trans HM.out.output),by have:=hgrow4.size; simp only [World.size_alloc] at this; omega,fun i hi hx=>(hX4 i hi).trans ((HEz.out.block i (by omega)).trans (HM.out.block i hi hx))⟩)
     have hP4:Blk w4 gp 83 #[.pointer (some ⟨gl,0,none⟩),NV,.int .i64 r0,.pointer (some ⟨gt,0,none⟩),.slice Ao q co]:=(hX4 gp lgp).trans (HPr.out.ext HEz.out);obtain ⟨HP4,HO4⟩:=Z2 hP4 hown4;refine hK5 _ _ ⟨(World.cell?_of_block (hX4 gb lgb)).trans HZ12.out.1,(World.cell?_of_block (hX4 gp lgp)).trans HZ12.out.2⟩ ?_;refine seqF_there (by decide) ?_
     obtain ⟨-,-,-,-,p0⟩:=X5 hP4;have p1:=hP4.free 4;clear hown4 hgrow4 hX4 hP4 z3;go_wp2_with fail
     refine hKz _ _ ?_;go_wp2_with fail
     go_roundw
     case rel =>
      have hm:=(Mv.rfl' (fun i=>i=gp) w4).set (g:=gp) (i:=4) (.inr rfl) (.slice A4 (q + 1) c4)
      refine ⟨q + 1,A4,c4,by omega,by go_num,HP4.out.set_ 4 _,?_,HM4.out.set (.inr rfl) _⟩
      rw [Qnb,HST.out];exact hm.own HO4.out fun g hg e=>by have:=own_block HO4.out g hg; omega
     case measure=>simp [intOf]; omega
    ·have hqk:q=k:=by omega
     obtain ⟨HQK,HPr⟩:=Z2 hqk hP;clear hP hO hM hqk;have hqk2:¬ (q:Int) < (k:Int):=by omega
     go_wp2_with fail
     refine bodyPost_ret (results_none rfl _ _ _) rfl ?_;refine ⟨rfl,(Mv.of_ext HE8.out).trans HM.out,Ao,co,?_,?_,?_⟩
     ·rw [← HQK.out]; exact HPr.out
     ·have:=Reads.of_own HO.out
      rw [← HQK.out];unfold NatAt;rw [Qb1];exact this
     ·intro a ha;exact Nat.le_trans HE8.out.size (own_base HO.out a ha)
theorem Qd7 (s:Sch):s.names.length=s.n:=by simp [Sch.names]
theorem Qlq {s:Sch} {k:Nat} (hk:k < s.names.length):s.names[k]=(s.nm k).1:=by simp [Sch.names]
theorem Qo7 {s:Sch} {k:Nat} (hk:k < s.n):s.names.take (k + 1)=s.names.take k ++ [(s.nm k).1]:=by
 have hk':k < s.names.length:=by rw [Qd7]; exact hk
 rw [List.take_add_one,List.getElem?_eq_getElem hk',Qlq hk'];rfl
theorem nameAt_none {s:Sch} {k:Nat} : s.nameAt k=none↔listE s.names k=0:=by
 unfold Sch.nameAt;split
 ·exact ⟨fun _=>by assumption,fun _=>rfl⟩
 ·exact ⟨fun h=>(by cases h),fun h=>(by contradiction)⟩
theorem Qhi {s:Sch} (h:64 < s.n):s.calledF=(8,(s.nm 64).2):=if_pos h
theorem Qix {s:Sch} {k:Nat} {ev:Int} (h64:¬ 64 < s.n) (hk:k < s.n) (h:∀ j,j < k→s.nameAt j=none) (he:listE s.names k=ev) (hev:ev≠0):s.calledF=(ev,(s.nm k).2):=by
 unfold Sch.calledF;rw [if_neg h64,Qk (k:=k) (x:=(ev,(s.nm k).2)) hk h (by unfold Sch.nameAt; rw [he,if_neg hev])]
 rfl
theorem Qhj {s:Sch} (h64:¬ 64 < s.n) (h:∀ j,j < s.n→s.nameAt j=none):s.calledF=(0,0):=by
 unfold Sch.calledF;rw [if_neg h64,firstOf_miss.2 h];rfl
theorem Qq3 {s:Sch} {k:Nat} (hk:k < s.n) (h:∀ j,j < k→s.nameAt j=none) :
  (Qj (s.nm k).1=false→listE s.names k=9)∧(Qj (s.nm k).1=true→(0≤twiceL (s.names.take (k + 1))→listE s.names k=10)∧(twiceL (s.names.take (k + 1)) < 0→s.nameAt k=none)):=by
 have hk':k < s.names.length:=by rw [Qd7]; exact hk
 have hg:s.names.getD k ⟨#[]⟩=(s.nm k).1:=by rw [List.getD_eq_getElem?_getD,List.getElem?_eq_getElem hk',Qlq hk']; rfl
 have ht:=Qjq hk' (fun j hj=>(Qid (nameAt_none.1 (h j hj))).2)
 unfold listE;rw [hg];refine ⟨fun hr=>if_pos hr,fun hr=>⟨fun hh=>?_,fun hh=>nameAt_none.2 ?_⟩⟩
 ·rw [if_neg (by rw [hr]; decide),if_pos]
  cases hx:twiceP s.names k with
  | true=>rfl
  | false=>have:=ht.2 hx; omega
 ·unfold listE;rw [hg,if_neg (by rw [hr]; decide),ht.1 hh]
  rfl
theorem TabB.set {w:World} {D:Nat→Prop} {t g i:Nat} {l:List ByteArray} {v:Value} (h:TabB w D t l) (hD:¬ D g):TabB (w.setCell ⟨g,i,none⟩ v) D t l :=
 h.mv (X:=fun j=>j=g) ((Mv.rfl' (fun j=>j=g) w).set (.inr rfl) v) (fun j hj e=>by rw [e] at hj; exact hD hj)
def Qhk (s:Sch) (gl gp:Nat) (NV MV:Value) (r0:Int) (w:World) (e:Ending) (w':World):Prop :=
 e = .returned (fltV s.calledF)∧Mv (fun i=>i=gp) w w'∧(s.calledF.1=0→∃ gt,Blk w' gp 83 #[.pointer (some ⟨gl,0,none⟩),NV,.int .i64 r0,.pointer (some ⟨gt,0,none⟩),MV]∧TabB w' (fun i=>w.heap.size≤i) gt s.names)
set_option maxRecDepth 100000 in
theorem Qnc (gb gl gp n c3:Nat) (A3:Option Addr) (xs:List Value) (mm r0:Int) (NV TV MV:Value) (s:Sch) (w:World) (hB:BldAt w gb A3 n c3 xs gl gp mm) (hn:n=s.n) (hsz:∀ i,i < n→(s.nm i).1.size≤maxLen)
  (hP:Blk w gp 83 #[.pointer (some ⟨gl,0,none⟩),NV,.int .i64 r0,TV,MV]) (hN:NamedAt w w.heap.size A3 n s.nm s.ty) :
  Calls Tryz.prog 30 #[.pointer (some ⟨gb,0,none⟩)] w (Qhk s gl gp NV MV r0 w):=by
 obtain ⟨w1,g,hw1,hg,Hw1,Hg,hZ,hZE⟩:=T0 w 34 #[.int .i64 0,.int .i64 0];obtain ⟨HE1,HZ⟩:=Z2 hZE hZ;have hB1:=hB.ext hZE;have hP1:=hP.ext hZE;have hN1:=hN.ext hZE;have hgbl:=hB.lt;have hgpl:=hP.lt;have b2:=hB1.c2;by_cases c1:64 < n
 ·have HR:=hide (Qhi (s:=s) (by omega))
  unfold Qhk;rw [HR.out];obtain ⟨b,o,rfl,hb,hc⟩:=hN1 (by omega)
  obtain ⟨vt,h1,h2⟩:=hc 64 (by omega)
  have d1:w1.cell? ⟨b,o + 64 * 11 + 1,none⟩=some (.int .i64 (s.nm 64).2):=h1 1 _ rfl;obtain ⟨x,hx⟩:=V1 ((s.nm 64).2);rw [← hx] at d1 ⊢;rw [show o + 64 * 11 + 1=o + 705 by omega] at d1
  obtain ⟨z0,z1⟩:=X2 hZ;obtain ⟨f0,f1⟩:=Y2 hZ;have i0:(64:Int) < (n:Int):=by omega
  clear hw1 hg hZ hZE hB1 hP1 hN1 hB hP hN hn hc h1 h2 hx HR hsz;go_enter Tryz.func30,Tryz.ntmps30
  go_upto_region 1 with fail
  rw [← Hw1.out,← Hg.out];go_wp2_with fail
  exact Qa (f:=(8,x)) (g:=g) ((HZ.out.set_ 0 _).set_ 1 _) rfl rfl rfl ⟨rfl,.of_ext (ext_two' HE1.out (by rw [Hg.out]; exact Nat.le_refl _) _ _),fun h=>by cases h⟩
 obtain ⟨HIT,HMI,HLE,HMO⟩:=Z4 (fun k (hk:k < n) (hh:∀ j,j < k→s.nameAt j=none) (ev:Int) (he:listE s.names k=ev) (hev:ev≠0)=>Qix (s:=s) (k:=k) (ev:=ev) (by omega) (by omega) hh he hev) (fun (hh:∀ j,j < n→s.nameAt j=none)=>Qhj (s:=s) (by omega) (fun j hj=>hh j (by omega))) (fun k (hk:k < n) (hh:∀ j,j < k→s.nameAt j=none)=>Qq3 (s:=s) (k:=k) (by omega) hh) (fun k (hk:k < n)=>Qo7 (s:=s) (k:=k) (by omega))
 have HLN:=hide (show s.names.length=n by rw [Qd7,hn])
 obtain ⟨NL,hNL⟩:=V1 (s.names);obtain ⟨HSZ,HB,HP,HN⟩:=Z4 hsz hB1 hP1 hN1;have i1:¬ (64:Int) < (n:Int):=by omega
 have h64:n≤64:=by omega
 clear hw1 hg hZ hZE hB1 hP1 hN1 hB hP hN hn hsz c1 hNL NL;go_enter Tryz.func30,Tryz.ntmps30
 go_upto_region 1 with fail
 rw [← Hw1.out,← Hg.out];go_wp2_with fail
 clear b2;go_loopw [29,3] (fun i o wr=>∃ (k:Nat) (Ao:Option Addr) (co:Nat),k≤n∧i = .int .i64 (k:Int)∧o = .slice Ao k co∧Ext w1 wr∧wr.ownsRow w1.heap.size 9 1 (.slice Ao k co) k (Qg (s.names.take k))∧Hid (∀ j,j < k→s.nameAt j=none)) (fun i _ _=>n - (intOf i).toNat)
 case atStart=>exact ⟨0,none,0,Nat.zero_le _,rfl,rfl,Ext.rfl' _,World.ownsRow_nil _ _ _ _,fun j hj=>absurd hj (Nat.not_lt_zero _)⟩
 case round =>
  obtain ⟨k,Ao,co,hk,rfl,rfl,hE,hO,HA⟩:=hrel;have HE:=hide hE;by_cases hlt:k < n
  ·obtain ⟨b,o,rfl,hb,hc⟩:=HN.out (by omega)
   obtain ⟨vt,h1,h2⟩:=hc k hlt;have hrg:=fun j' (v:Value) hv=>(hE.cell (p:=⟨b,o + k * 11 + j',none⟩) hb).trans (h1 j' v hv)
   obtain ⟨h,np,p,t,An,cn,Ap,cp,hty,rfl⟩:=h2.open2;have HRG:=hide (show wr.rangeAt b (o + k * 11) ([.string (s.nm k).1,.int .i64 (s.nm k).2] ++ tyV h An cn Ap np cp) from hrg)
   unfold tyV at HRG;simp only [List.cons_append,List.nil_append] at HRG;obtain ⟨x,hx,y,hy⟩:=V2 ((s.nm k).1) ((s.nm k).2);rw [← hx,← hy] at HRG;have hsx:=HSZ.out k hlt;have hle:=HLE.out k hlt HA.out;have hit:=HIT.out k hlt HA.out;have hmo:=HMO.out k hlt;rw [← hx] at hsx hle hmo;rw [← hy] at hit;obtain ⟨HRI,HHIT,HMO',HST⟩:=Z4 (fun w=>right_any x w hsx) hit hmo (fun h=>Q0 HA.out (show s.nameAt k=none from h))
   obtain ⟨rb,hrb⟩:=V1 (Qj x);rw [← hrb] at HRI hle;obtain ⟨tw,htw⟩:=V1 (twiceL (s.names.take (k + 1)));rw [← htw] at hle;obtain ⟨HTW,HLE'⟩:=Z2 htw hle;obtain ⟨w5,g5,hw5,hg5,Hw5,Hg5,hV,hVE⟩:=T0 wr 90 #[.string x,.int .i64 y,.int .i64 h.kind,.int .i64 h.at_,.int .i64 h.lo,.int .i64 h.hi,.int .i64 h.most,.slice An h.names.length cn,.slice Ap np cp,.string h.name.1,.int .i64 h.name.2];obtain ⟨HE5,HV,HO5⟩:=Z3 (hE.trans' hVE) hV (own_ext hO hVE);have hg5:w1.heap.size≤g5:=by rw [hg5]; exact hE.size
   have HGO:=hide (show ∀ q,Value.ownBlock (.slice Ao k co)=some q→q < g5 from fun q e=>by have:=(hO.lt q e).2; have:=Hg5.out; omega)
   obtain ⟨v0,v1⟩:=X2 hV;have i0:=nZ k;have i2:(k:Int) < (n:Int):=by omega
   clear hrg h1 h2 hc hE hO hw5 hV hVE hx hy hty hsx hle hit hmo hrb htw HA HIT HMI HLE HMO;rename_i hg5_
   clear hg5_;go_upto_region 6 with fail
   refine wp_region_lit ?_;refine wpList_plain rfl fun K0 hK0=>?_
   go_simp;refine hK0 _ _ ?_;refine wpList_load_mid rfl 90 _ rfl b (o + k * 11) rfl _ _ HRG.out Tryz.underlying90 rfl Qa2 ?_;refine wpList_plain rfl fun K0 hK0=>?_
   go_simp;refine hK0 _ _ ?_;refine Qc rfl 90 _ _ rfl _ #[.string x,.int .i64 y,.int .i64 h.kind,.int .i64 h.at_,.int .i64 h.lo,.int .i64 h.hi,.int .i64 h.most,.slice An h.names.length cn,.slice Ap np cp,.string h.name.1,.int .i64 h.name.2] rfl rfl Qa2 rfl (by simp [Value.oneCell']) ?_
   go_upto_region 7 with fail
   rw [← Hw5.out,← Hg5.out];go_wp2_with (at_builtin; refine Qa0 _ rfl _ _ rfl w1.heap.size _ k (s.names.take k) rfl w5.heap.size x _ rfl (HO5.out.alloc _) (reads_at _ _ _ _ rfl) (by omega) (by simp only [World.size_alloc]; have:=HE5.out.size; omega) ?_)
   intro A6 c6 w6 hown6 hgrow6 _;have hE6:Ext w1 w6:=grown_ext' (w:=w1) (wr:=w5) (base:=w1.heap.size) HE5.out ((Ext.rfl' w5).alloc nL _) hgrow6 HO5.out nL;have hV6:Blk w6 g5 90 #[.string x,.int .i64 y,.int .i64 h.kind,.int .i64 h.at_,.int .i64 h.lo,.int .i64 h.hi,.int .i64 h.most,.slice An h.names.length cn,.slice Ap np cp,.string h.name.1,.int .i64 h.name.2] :=
    (hgrow6.block g5 (HV.out.alloc _).lt (fun e=>absurd (HGO.out g5 e.symm) (Nat.lt_irrefl _))).trans (HV.out.alloc _)
   rw [← HMO'.out] at hown6;have hsa:StrAt w6 w6.heap.size A6 (s.names.take (k + 1)):=by
    have:=Reads.of_own hown6
    unfold StrAt;rw [show (s.names.take (k + 1)).length=k + 1 by rw [List.length_take,HLN.out]; omega]
    exact this
   have htc:=Qf0 A6 c6 (k + 1) (s.names.take (k + 1)) w6 hsa (by rw [List.length_take,HLN.out]; omega) (by omega)
   rw [← HTW.out] at htc;obtain ⟨HTC,HE6,HO6,HZ6,HV6⟩:=Z5 htc hE6 hown6 (HZ.out.ext hE6) hV6;obtain ⟨u0,u1⟩:=X2 hV6;clear hown6 hgrow6 hE6 hV6 hsa htc v0 v1 HV HGO HO5 HTW;cases rb with
   | false =>
    have HX:=hide (HHIT.out 9 (HLE'.out.1 rfl) (by decide))
    obtain ⟨z0,z1⟩:=X2 HZ6.out;obtain ⟨f0,f1⟩:=Y2 HZ6.out;go_upto_region 8 with fail
    go_wp2_with fail
    refine (HRI.out _).mono ?_;rintro e w7 ⟨rfl,rfl⟩;go_wp2_with fail
    exact Qa (f:=(9,y)) (g:=g) ((HZ6.out.set_ 0 _).set_ 1 _) rfl rfl rfl ⟨by rw [HX.out],.of_ext (ext_two' (HE1.out.trans' HE6.out) (by rw [Hg.out]; exact Nat.le_refl _) _ _),fun h=>by rw [HX.out] at h; cases h⟩
   | true =>
    by_cases ht:0≤tw
    ·have HX:=hide (HHIT.out 10 ((HLE'.out.2 rfl).1 ht) (by decide))
     go_upto_region 8 with fail
     go_wp2_with fail
     refine (HRI.out _).mono ?_;rintro e w7 ⟨rfl,rfl⟩;go_wp2_with fail
     refine HTC.out.mono ?_;rintro e w8 ⟨rfl,hE8⟩;obtain ⟨HE8,HZ8⟩:=Z2 ((HE1.out.trans' HE6.out).trans' hE8) (HZ6.out.ext hE8);have t0:=(HV6.out.ext hE8).cell 0;have t1:=(HV6.out.ext hE8).cell 1;obtain ⟨z0,z1⟩:=X2 HZ8.out;obtain ⟨f0,f1⟩:=Y2 HZ8.out;simp only [gA,gH,gS] at t0 t1;clear hE8 u0 u1;go_wp2_with fail
     exact Qa (f:=(10,y)) (g:=g) ((HZ8.out.set_ 0 _).set_ 1 _) rfl rfl rfl ⟨by rw [HX.out],.of_ext (ext_two' HE8.out (by rw [Hg.out]; exact Nat.le_refl _) _ _),fun h=>by rw [HX.out] at h; cases h⟩
    ·have HA2:=hide (HST.out ((HLE'.out.2 rfl).2 (by omega)))
     go_upto_region 8 with fail
     go_wp2_with fail
     refine (HRI.out _).mono ?_;rintro e w7 ⟨rfl,rfl⟩;go_wp2_with fail
     refine HTC.out.mono ?_;rintro e w8 ⟨rfl,hE8⟩;obtain ⟨HE8,HO8⟩:=Z2 (HE6.out.trans' hE8) (own_ext HO6.out hE8);clear hE8 u0 u1;go_wp2_with fail
     go_roundw
     case rel=>exact ⟨k + 1,A6,c6,by omega,by go_num,rfl,HE8.out,HO8.out,HA2.out⟩
     case measure=>simp [intOf]; omega
  ·obtain rfl:k=n:=by omega
   have HX:=hide (HMI.out HA.out);have htk:s.names.take k=s.names:=List.take_of_length_le (by rw [HLN.out]; exact Nat.le_refl _)
   rw [htk] at hO;have hsa:StrAt wr wr.heap.size Ao s.names:=by
    have:=Reads.of_own hO
    unfold StrAt;rw [HLN.out];exact this
   have HNEW:=hide (fun w2 (hE2:Ext wr w2)=>Qg9 Ao co k s.names w2 (hsa.ext hE2) HLN.out.symm (by omega))
   have hs:wr.cell? ⟨gb,13,none⟩=some (.pointer (some ⟨gp,0,none⟩)):=(HB.out.ext hE).c13;have hgbw:gb < wr.heap.size:=Nat.lt_of_lt_of_le hgbl (Nat.le_trans HE1.out.size hE.size);obtain ⟨HPr,HZr⟩:=Z2 (HP.out.ext hE) (HZ.out.ext hE);clear hO hsa htk HIT HMI HLE HMO hE;go_wp2_with fail
   rename_i Kz hKz
   refine Qax 5 6 (by kernel_rfl) (by kernel_rfl) (fun w'=>w'.cell? ⟨gb,13,none⟩=some (.pointer (some ⟨gp,0,none⟩))) hs ?_
   intro I _ f hf;simp only [List.take_succ_cons,List.take_zero,List.drop_succ_cons,List.drop_zero];repeat (go_big_quiet_step ((fail)))
   refine wpQuiet_nil ?_;clear hf;refine seqF_plain (by decide) rfl ?_
   intro K1 hK1;go_simp;refine (HNEW.out _ (Ext.drew' (Ext.rfl' wr))).mono ?_;rintro e w7 ⟨gt,rfl,hT7,hE7⟩;have hE7':=((Ext.rfl' wr).drew').trans' hE7;obtain ⟨HE7,HT7,HP7⟩:=Z3 hE7' hT7 (HPr.out.ext hE7');have hz7:=HZr.out.ext hE7';have s7:=(hE7'.cell (p:=⟨gb,13,none⟩) hgbw).trans hs;have p1:=HP7.out.free 3;have p0:=HP7.out.cell 3;have hgg:gp≠g:=by rw [Hg.out]; omega
   obtain ⟨z0,z1⟩:=X2 hz7;obtain ⟨f0,f1⟩:=Y2 hz7;simp only [gA,gH,gS] at p0;have HZ7:=hide hz7;clear hE7 hE7' hT7 hz7 hs;refine hK1 _ _ s7 ?_;refine seqF_there (by decide) ?_
   go_wp2_with fail
   refine hKz _ _ ?_;go_wp2_with fail
   have HX0:s.calledF.1=0:=by rw [HX.out]
   refine Qa (f:=(0,0)) (g:=g) (((HZ7.out.far (fun e=>hgg e.symm) _).set_ 0 _).set_ 1 _) rfl rfl rfl ⟨by rw [HX.out],?_,fun _=>?_⟩
   ·exact (((Mv.of_ext (X:=fun i=>i=gp) ((HE1.out.trans' HE.out).trans' HE7.out)).set (g:=gp) (.inr rfl) _).set (g:=g) (.inl (Nat.le_of_eq Hg.out.symm)) _).set (g:=g) (.inl (Nat.le_of_eq Hg.out.symm)) _
   ·refine ⟨gt,((HP7.out.set_ 3 _).far hgg _).far hgg _,?_⟩;have hgs:g < wr.heap.size:=Nat.lt_of_lt_of_le HZ.out.lt HE.out.size;have hgp':gp < wr.heap.size:=Nat.lt_of_lt_of_le HP.out.lt HE.out.size;exact (((HT7.out.set (i:=3) (Nat.not_le.2 hgp')).set (i:=0) (Nat.not_le.2 hgs)).set (i:=1) (Nat.not_le.2 hgs)).more fun i hi=>Nat.le_trans (HE1.out.trans' HE.out).size hi
def Qge (t:Ty) (m:Int):Wr :=
 if (chk t 1 0).1.1≠0 then ((chk t 1 0).1,m) else if 512 < IntKind.i64.wrap (m + Q6 t) then ((8,t.pl),IntKind.i64.wrap (m + Q6 t)) else ((0,0),IntKind.i64.wrap (m + Q6 t))
theorem Qs0 (s:Sch) (i:Nat) (m:Int):s.rightG i m=Qge (s.all i) m:=rfl
theorem TyAt.at1 {t:Ty} {w:World} {B:Nat} {vs:List Value} (h:TyAt w B t vs):vs[1]? = some (.int .i64 t.pl):=by
 cases t with
 | nil=>exact h.elim
 | mk h' n p k=>obtain ⟨An,cn,Ap,cp,rfl,_⟩:=h; rfl
theorem Mv.set_at {g i:Nat} {a b:World} (h:Mv (fun k=>k=g) a b) (v:Value):Mv (fun k=>k=g) a (b.setCell ⟨g,i,none⟩ v):=h.set (.inr rfl) v
theorem BldAt.set_far {w:World} {gb:Nat} {A3:Option Addr} {n c3:Nat} {xs:List Value} {gl gp:Nat} {m:Int} (h:BldAt w gb A3 n c3 xs gl gp m) {g:Nat} (hg:gb≠g) {i j:Nat} {u v:Value} : BldAt ((w.setCell ⟨g,i,none⟩ u).setCell ⟨g,j,none⟩ v) gb A3 n c3 xs gl gp m :=
 h.mv (X:=fun k=>k=g) (((Mv.rfl' (fun k=>k=g) w).set (.inr rfl) u).set (.inr rfl) v) hg
def Qa3 (r:Wr) (gb:Nat) (A3:Option Addr) (n c3:Nat) (xs:List Value) (gl gp:Nat) (w:World) (e:Ending) (w':World):Prop:=e = .returned (fltV r.1)∧BldAt w' gb A3 n c3 xs gl gp r.2∧Mv (fun i=>i=gb) w w'
set_option maxRecDepth 100000 in
theorem Qq4 (gb gl gp n c3:Nat) (A3:Option Addr) (xs:List Value) (m:Int) (t:Ty) (w:World) (vs:List Value) (hB:BldAt w gb A3 n c3 xs gl gp m) (h:TyAt w w.heap.size t vs) (hs:Qr t) :
  Calls Tryz.prog 32 #[.pointer (some ⟨gb,0,none⟩),.agg vs.toArray] w (Qa3 (Qge t m) gb A3 n c3 xs gl gp w):=by
 have hri:=fun w1 (hE:Ext w w1)=>Qo2 t w1 vs (h.ext hE) hs
 have hct:=fun w1 (hE:Ext w w1)=>Qqe t w1 vs (h.ext hE) hs
 have h1:=h.at1;obtain ⟨x0,x1,x2,x3,x4,x5,x6,x7,x8,rfl⟩:=h.nine;obtain rfl:x1 = .int .i64 t.pl:=by injection h1
 obtain ⟨⟨⟨E,A⟩,M⟩,hC⟩:∃ x,x=chk t 1 0:=⟨_,rfl⟩;rw [← hC] at hri;obtain ⟨C,hCC⟩:=V1 (Q6 t);rw [← hCC] at hct;obtain ⟨pl,hpl⟩:=V1 (t.pl);rw [← hpl] at hri hct ⊢;have HRT:=hide (show Qge t m=if E≠0 then ((E,A),m) else if 512 < IntKind.i64.wrap (m + C) then ((8,pl),IntKind.i64.wrap (m + C)) else ((0,0),IntKind.i64.wrap (m + C)) by unfold Qge; rw [← hC,← hCC,← hpl])
 have HRI:=hide (show ∀ w1,Ext w w1→Calls Tryz.prog 70 #[.agg #[x0,.int .i64 pl,x2,x3,x4,x5,x6,x7,x8]] w1 (fun e w'=>e = .returned (.agg #[.int .i64 E,.int .i64 A])∧Ext w1 w') from hri)
 have HCT:=hide (show ∀ w1,Ext w w1→Calls Tryz.prog 71 #[.agg #[x0,.int .i64 pl,x2,x3,x4,x5,x6,x7,x8]] w1 (fun e w'=>e = .returned (.int .i64 C)∧Ext w1 w') from hct)
 obtain ⟨R,hR⟩:=V1 (Qge t m);rw [← hR] at HRT ⊢;obtain ⟨w1,g1,hw1,hg1,Hw1,Hg1,hT,hTE⟩:=T0 w 29 #[x0,.int .i64 pl,x2,x3,x4,x5,x6,x7,x8];obtain ⟨w2,g2,hw2,hg2,Hw2,Hg2,hZ,hZE⟩:=T0 w1 34 #[.int .i64 0,.int .i64 0];have Hg2':=hide (show g2=g1 + 1 by rw [hg2,hw1,World.size_alloc,← hg1])
 obtain ⟨HE2,HB,HT2,HZ2⟩:=Z4 (hTE.trans' hZE) hB (hT.ext hZE) hZ;have hgb:=hB.lt;have hgg:gb≠g2:=by have:=hTE.size; omega
 have HGG:=hide hgg;have hlo2:w.heap.size≤g2:=by have:=hTE.size; omega
 show Calls Tryz.prog 32 #[.pointer (some ⟨gb,0,none⟩),.agg #[x0,.int .i64 pl,x2,x3,x4,x5,x6,x7,x8]] w _
 obtain ⟨t0,t1,t2,t3,t4,t5,t6,t7,t8⟩:=X9 HT2.out;clear hw1 hg1 hw2 hg2 hT hZ hTE hZE hB h hs hri hct hC hCC hpl hR h1 hgg;go_enter Tryz.func32,Tryz.ntmps32
 go_upto_region 1 with fail
 rw [← Hw1.out,← Hg1.out,← Hw2.out,← Hg2'.out];go_wp2_with fail
 refine (HRI.out w2 HE2.out).mono ?_;rintro e w3 ⟨rfl,hE3⟩;obtain ⟨HT3,HZ3,HE3⟩:=Z3 (HT2.out.ext hE3) (HZ2.out.ext hE3) (HE2.out.trans' hE3);clear hE3 t0 t1 t2 t3 t4 t5 t6 t7 t8;obtain ⟨w4,g4,hw4,hg4,Hw4,Hg4,hF,hFE⟩:=T0 w3 34 #[.int .i64 E,.int .i64 A];obtain ⟨HT4,HZ4,HE4⟩:=Z3 (HT3.out.ext hFE) (HZ3.out.ext hFE) (HE3.out.trans' hFE);obtain ⟨u0,u1⟩:=X2 hF;clear hw4 hg4 hF hFE;go_upto_region 2 with fail
 rw [← Hw4.out,← Hg4.out];by_cases hE0:E=0
 ·have hEb:(E == 0)=true:=by simpa using hE0
  have hEb2:(E != 0)=false:=by simpa using hE0
  have hrt:=HRT.out;rw [if_neg (by rw [hE0]; simp)] at hrt
  obtain ⟨q,hq⟩:=V1 (IntKind.i64.wrap (m + C));rw [← hq] at hrt;obtain ⟨HQ,HR2⟩:=Z2 hq hrt;obtain ⟨t0,t1,t2,t3,t4,t5,t6,t7,t8⟩:=X9 HT4.out;have s1:=(HB.out.ext HE4.out).c14;have hgs:gb < w4.heap.size:=Nat.lt_of_lt_of_le hgb HE4.out.size;have HBf:=hide (HB.out.ext HE4.out);clear hrt hq HRT hE0;go_wp2_with fail
  rename_i Kz hKz
  refine Qax 5 7 (by kernel_rfl) (by kernel_rfl) (fun w'=>w'.cell? ⟨gb,14,none⟩=some (.int .i64 m)∧Blk w' g1 29 #[x0,.int .i64 pl,x2,x3,x4,x5,x6,x7,x8]) ⟨s1,HT4.out.drewN 1⟩ ?_
  intro I _ f hf;have r14:=fun n=>(hf n).1
  have r0:∀ n,(f n).cell? ⟨g1,0,none⟩=some x0:=fun n=>(hf n).2.cell 0
  have r1:∀ n,(f n).cell? ⟨g1,1,none⟩=some (.int .i64 pl):=fun n=>(hf n).2.cell 1
  have r2:∀ n,(f n).cell? ⟨g1,2,none⟩=some x2:=fun n=>(hf n).2.cell 2
  have r3:∀ n,(f n).cell? ⟨g1,3,none⟩=some x3:=fun n=>(hf n).2.cell 3
  have r4:∀ n,(f n).cell? ⟨g1,4,none⟩=some x4:=fun n=>(hf n).2.cell 4
  have r5:∀ n,(f n).cell? ⟨g1,5,none⟩=some x5:=fun n=>(hf n).2.cell 5
  have r6:∀ n,(f n).cell? ⟨g1,6,none⟩=some x6:=fun n=>(hf n).2.cell 6
  have r7:∀ n,(f n).cell? ⟨g1,7,none⟩=some x7:=fun n=>(hf n).2.cell 7
  have r8:∀ n,(f n).cell? ⟨g1,8,none⟩=some x8:=fun n=>(hf n).2.cell 8
  clear hf;simp only [List.take_succ_cons,List.take_zero,List.drop_succ_cons,List.drop_zero];repeat (go_big_quiet_step ((fail)))
  refine wpQuiet_nil ?_;clear r14 r0 r1 r2 r3 r4 r5 r6 r7 r8;refine seqF_plain (by decide) rfl ?_
  intro K1 hK1;go_simp;refine (HCT.out _ (HE4.out.drew')).mono ?_;rintro e w5 ⟨rfl,hE5⟩;have hE5':=((Ext.rfl' w4).drew').trans' hE5;obtain ⟨HE5,HT5,HZ5,HB5⟩:=Z4 (HE4.out.trans' hE5') (HT4.out.ext hE5') (HZ4.out.ext hE5') (HBf.out.ext hE5');have s5:=HB5.out.c14;have f14:=HB5.out.f14;clear hE5 hE5' s1 t0 t1 t2 t3 t4 t5 t6 t7 t8 u0 u1;refine hK1 _ _ ⟨s5,HT5.out⟩ ?_;refine seqF_plain (by decide) rfl ?_
  intro K2 hK2;go_simp;rw [← HQ.out];refine hK2 _ _ ⟨s5,HT5.out⟩ ?_;refine seqF_there (by decide) ?_
  go_wp2_with fail
  refine hKz _ _ ?_;obtain ⟨w6,hw6⟩:=V1 (w5.setCell ⟨gb,14,none⟩ (.int .i64 q));have hb6:BldAt w6 gb A3 n c3 xs gl gp q:=by rw [hw6]; exact HB5.out.set14 q
  have hm6:Mv (fun i=>i=gb) w w6:=by rw [hw6]; exact (Mv.of_ext (X:=fun i=>i=gb) HE5.out).set_at _
  have hz6:Blk w6 g2 34 #[.int .i64 0,.int .i64 0]:=by rw [hw6]; exact HZ5.out.far (fun e=>HGG.out e.symm) _
  have ht6:Blk w6 g1 29 #[x0,.int .i64 pl,x2,x3,x4,x5,x6,x7,x8]:=by rw [hw6]; exact HT5.out.far (HB5.out.ne HT5.out (by decide)) _
  rw [← hw6];obtain ⟨HBM,HZ6⟩:=Z2 (And.intro hb6 hm6) hz6;have c14:=hb6.c14;obtain ⟨-,t1⟩:=X2 ht6;obtain ⟨z0,z1⟩:=X2 HZ6.out;obtain ⟨f0,f1⟩:=Y2 HZ6.out;clear hw6 hb6 hm6 hz6 ht6 s5 f14;by_cases hq5:512 < q
  ·have hrt:=HR2.out;rw [if_pos hq5] at hrt;have HR3:=hide hrt;clear hrt HR2;go_wp2_with fail
   exact Qa (f:=(8,pl)) (g:=g2) ((HZ6.out.set_ 0 _).set_ 1 _) rfl rfl rfl ⟨by rw [HR3.out],BldAt.set_far (by rw [HR3.out]; exact HBM.out.1) HGG.out,((HBM.out.2.set (g:=g2) (.inl hlo2) _).set (g:=g2) (.inl hlo2) _)⟩
  ·have hrt:=HR2.out;rw [if_neg hq5] at hrt;have HR3:=hide hrt;clear hrt HR2;go_wp2_with fail
   exact Qa (f:=(0,0)) (g:=g2) ((HZ6.out.set_ 0 _).set_ 1 _) rfl rfl rfl ⟨by rw [HR3.out],BldAt.set_far (by rw [HR3.out]; exact HBM.out.1) HGG.out,((HBM.out.2.set (g:=g2) (.inl hlo2) _).set (g:=g2) (.inl hlo2) _)⟩
 ·have hEb:(E == 0)=false:=by simpa using hE0
  have hEb2:(E != 0)=true:=by simpa using hE0
  have hrt:=HRT.out;rw [if_pos hE0] at hrt;obtain ⟨HR2,HBM⟩:=Z2 hrt (And.intro (HB.out.ext HE4.out) (Mv.of_ext (X:=fun i=>i=gb) HE4.out))
  obtain ⟨z0,z1⟩:=X2 HZ4.out;obtain ⟨f0,f1⟩:=Y2 HZ4.out;clear hrt hE0;go_wp2_with fail
  exact Qa (f:=(E,A)) (g:=g2) ((HZ4.out.set_ 0 _).set_ 1 _) rfl rfl rfl ⟨by rw [HR2.out],BldAt.set_far (by rw [HR2.out]; exact HBM.out.1) HGG.out,((HBM.out.2.set (g:=g2) (.inl hlo2) _).set (g:=g2) (.inl hlo2) _)⟩
theorem Qlr {g:Nat→Int→Wr} {k n:Nat} {m:Int} {r:Wr} (hk:k < n) (h0:(goTo g k m).1.1=0) (hr:g k (goTo g k m).2=r) (hn:r.1.1≠0):goTo g n m=r:=by
 have e:=Qae h0;rw [hr] at e;rw [Qa1 (show k + 1≤n by omega) (by rw [e]; exact hn),e]
set_option maxRecDepth 100000 in
theorem Qo8 (G:Nat→Int→Wr) (gb gl gp n c3:Nat) (A3:Option Addr) (xs:List Value) (m0:Int) (s:Sch) (w0 w:World) (hB:BldAt w gb A3 n c3 xs gl gp m0) (hn:n=s.n) (h64:n≤64) (hE0:Ext w0 w) (hgb:w0.heap.size≤gb)
  (hN:NamedAt w0 w0.heap.size A3 n s.nm s.ty) (hroot:TyAt w0 w0.heap.size s.root xs)
  (hdo:∀ k,k≤n→∀ (m:Int) (w1:World) (vs:List Value),BldAt w1 gb A3 n c3 xs gl gp m→Mv (fun i=>i=gb) w w1→TyAt w1 w1.heap.size (s.all k) vs→Calls Tryz.prog 32 #[.pointer (some ⟨gb,0,none⟩),.agg vs.toArray] w1 (Qa3 (G k m) gb A3 n c3 xs gl gp w1)) :
  Calls Tryz.prog 31 #[.pointer (some ⟨gb,0,none⟩),.func (.func 32) #[.pointer (some ⟨gb,0,none⟩)] #[]] w (Qa3 (goTo G (n + 1) m0) gb A3 n c3 xs gl gp w):=by
 obtain ⟨x0,x1,x2,x3,x4,x5,x6,x7,x8,rfl⟩:=hroot.nine;have hgbl:=hB.lt;have hle:(n:Int)≤64:=by omega
 have hle0:=nZ n;obtain ⟨HHIT,HNX,HDO,HN,HRT,HGB,HE0,HALL⟩:=Z8 (fun k (hk:k < n + 1) (h0:(goTo G k m0).1.1=0) (r:Wr) (hr:G k (goTo G k m0).2=r) (hh:r.1.1≠0)=>Qlr (n:=n + 1) hk h0 hr hh) (fun k (h0:(goTo G k m0).1.1=0)=>Qae (g:=G) (k:=k) (m:=m0) h0) hdo hN hroot hgb hE0 (fun k (hk:k < n)=>Sch.all_lt (s:=s) (i:=k) (by omega))
 have HEND:=hide (show s.all n=s.root by rw [hn]; exact Sch.all_end s)
 obtain ⟨R,hR⟩:=V1 (goTo G (n + 1) m0);have HR:=hide hR;rw [← hR];obtain ⟨w1,g,hw1,hg,Hw1,Hg,hZ,hZE⟩:=T0 w 34 #[.int .i64 0,.int .i64 0];obtain ⟨HE1,HZ⟩:=Z2 hZE hZ;have hB1:=hB.ext hZE;have b2:=hB1.c2;have HB1:=hide hB1;have hgg:gb≠g:=by omega
 have HGG:=hide hgg;have hsz1:w.heap.size≤w1.heap.size:=hZE.size;clear hw1 hg hZ hZE hB1 hB hn hE0 hgb hN hroot hdo hR hgg;go_enter Tryz.func31,Tryz.ntmps31
 go_upto_region 1 with fail
 rw [← Hw1.out,← Hg.out];go_wp2_with fail
 clear b2;go_loopw [14] (fun i wr=>∃ k:Nat,k≤n∧i = .int .i64 (k:Int)∧Hid ((goTo G k m0).1.1=0)∧BldAt wr gb A3 n c3 [x0,x1,x2,x3,x4,x5,x6,x7,x8] gl gp (goTo G k m0).2∧Mv (fun i=>i=gb) w1 wr) (fun i _=>n - (intOf i).toNat)
 case atStart=>exact ⟨0,Nat.zero_le _,rfl,rfl,HB1.out,Mv.rfl' _ _⟩
 case round =>
  clear HB1;obtain ⟨k,hk,rfl,HZ0,hB,hM⟩:=hrel;have HM:=hide hM;have hEw:Ext w0 wr:=hM.below (HE0.out.trans' HE1.out) (fun i hi=>by rw [hi]; exact HGB.out)
  have hszr:=hM.size;by_cases hlt:k < n
  ·obtain ⟨b,o,rfl,hb,hc⟩:=HN.out (by omega)
   obtain ⟨vt,h1,h2⟩:=hc k hlt;have hrg:=fun j' (v:Value) hv=>(hEw.cell (p:=⟨b,o + k * 11 + j',none⟩) hb).trans (h1 j' v hv)
   obtain ⟨h,np,p,t,An,cn,Ap,cp,hty,rfl⟩:=h2.open2;have HRG:=hide (show wr.rangeAt b (o + k * 11) ([.string (s.nm k).1,.int .i64 (s.nm k).2] ++ tyV h An cn Ap np cp) from hrg)
   unfold tyV at HRG;simp only [List.cons_append,List.nil_append] at HRG;obtain ⟨x,hx,y,hy⟩:=V2 ((s.nm k).1) ((s.nm k).2);rw [← hx,← hy] at HRG;obtain ⟨w5,g5,hw5,hg5,Hw5,Hg5,hV,hVE⟩:=T0 wr 90 #[.string x,.int .i64 y,.int .i64 h.kind,.int .i64 h.at_,.int .i64 h.lo,.int .i64 h.hi,.int .i64 h.most,.slice An h.names.length cn,.slice Ap np cp,.string h.name.1,.int .i64 h.name.2];have HV:=hide hV;have hB5:=hB.ext hVE;have HE5:=hide hVE;have hM5:=hM.ext hVE;have hdo:=HDO.out k hk _ w5 _ hB5 ((Mv.of_ext HE1.out).trans hM5) (by rw [HALL.out k hlt]; exact h2.ext (hEw.trans' hVE))
   have hit:=HHIT.out k (by omega) HZ0.out
   have hnx:=HNX.out k HZ0.out;obtain ⟨⟨⟨E,A⟩,M⟩,hr⟩:∃ r,r=G k (goTo G k m0).2:=⟨_,rfl⟩;rw [← hr] at hdo hit hnx;have hit:=hit _ rfl;rw [← HR.out] at hit;obtain ⟨HIT,HNX'⟩:=Z2 hit hnx;have HCALL:=hide (show Calls Tryz.prog 32 #[.pointer (some ⟨gb,0,none⟩),.agg #[.int .i64 h.kind,.int .i64 h.at_,.int .i64 h.lo,.int .i64 h.hi,.int .i64 h.most,.slice An h.names.length cn,.slice Ap np cp,.string h.name.1,.int .i64 h.name.2]] w5 (Qa3 ((E,A),M) gb _ n c3 [x0,x1,x2,x3,x4,x5,x6,x7,x8] gl gp w5) from hdo)
   obtain ⟨HM5,HZ5⟩:=Z2 hM5 ((hM5.blk HZ.out (fun e=>HGG.out e.symm)))
   obtain ⟨-,-,v2,v3,v4,v5,v6,v7,v8,v9,v10⟩:=X11 hV;have i0:=nZ k;have i1:(k:Int) < (n:Int):=by omega
   have hgs5:g5≠gb:=by omega
   have HGS:=hide hgs5;clear hrg h1 h2 hc hEw hM hB hw5 hV hVE hx hy hty hdo hit hnx hr hB5 hM5 hgs5 HHIT HNX HM;clear hg5;go_upto_region 3 with fail
   refine wp_region_lit ?_;refine wpList_plain rfl fun K0 hK0=>?_
   go_simp;refine hK0 _ _ ?_;refine wpList_load_mid rfl 90 _ rfl b (o + k * 11) rfl _ _ HRG.out Tryz.underlying90 rfl Qa2 ?_;refine wpList_plain rfl fun K0 hK0=>?_
   go_simp;refine hK0 _ _ ?_;refine Qc rfl 90 _ _ rfl _ #[.string x,.int .i64 y,.int .i64 h.kind,.int .i64 h.at_,.int .i64 h.lo,.int .i64 h.hi,.int .i64 h.most,.slice An h.names.length cn,.slice Ap np cp,.string h.name.1,.int .i64 h.name.2] rfl rfl Qa2 rfl (by simp [Value.oneCell']) ?_
   go_upto_region 4 with fail
   rw [← Hw5.out,← Hg5.out];go_wp2_with fail
   refine HCALL.out.mono ?_;rintro e w6 ⟨rfl,hB6,hM6⟩;unfold fltV;dsimp only at hB6 ⊢
   obtain ⟨w7,g7,hw7,hg7,Hw7,Hg7,hF,hFE⟩:=T0 w6 34 #[.int .i64 E,.int .i64 A];obtain ⟨HB7,HM7,HZ7⟩:=Z3 (hB6.ext hFE) ((HM5.out.trans hM6).ext hFE) ((hM6.blk HZ5.out (fun e=>HGG.out e.symm)).ext hFE)
   obtain ⟨u0,u1⟩:=X2 hF;clear hB6 hM6 hw7 hg7 hF hFE v2 v3 v4 v5 v6 v7 v8 v9 v10;go_upto_region 5 with fail
   rw [← Hw7.out,← Hg7.out];by_cases hE0:E=0
   ·have hEb:(E == 0)=true:=by simpa using hE0
    have hEb2:(E != 0)=false:=by simpa using hE0
    have HZN:=hide (show (goTo G (k + 1) m0).1.1=0 by rw [HNX'.out]; exact hE0)
    have HBN:=hide (show BldAt w7 gb _ n c3 [x0,x1,x2,x3,x4,x5,x6,x7,x8] gl gp (goTo G (k + 1) m0).2 by rw [HNX'.out]; exact HB7.out)
    clear hE0;go_wp2_with fail
    go_roundw
    case rel=>exact ⟨k + 1,by omega,by go_num,HZN.out,HBN.out,HM7.out⟩
    case measure=>simp [intOf]; omega
   ·have hEb:(E == 0)=false:=by simpa using hE0
    have hEb2:(E != 0)=true:=by simpa using hE0
    have HRR:=hide (HIT.out hE0);obtain ⟨z0,z1⟩:=X2 HZ7.out;obtain ⟨f0,f1⟩:=Y2 HZ7.out;clear hE0;go_wp2_with fail
    exact Qa (f:=(E,A)) (g:=g) ((HZ7.out.set_ 0 _).set_ 1 _) rfl rfl rfl ⟨by rw [HRR.out],BldAt.set_far (by rw [HRR.out]; exact HB7.out) HGG.out,(((Mv.of_ext HE1.out).trans HM7.out).set (g:=g) (.inl (Nat.le_of_eq Hg.out.symm)) _).set (g:=g) (.inl (Nat.le_of_eq Hg.out.symm)) _⟩
  ·obtain rfl:k=n:=by omega
   have hdo:=HDO.out k nL _ wr _ hB ((Mv.of_ext HE1.out).trans hM) (by rw [HEND.out]; exact HRT.out.ext hEw)
   have hnx:=HNX.out k HZ0.out;obtain ⟨⟨⟨E,A⟩,M⟩,hr⟩:∃ r,r=G k (goTo G k m0).2:=⟨_,rfl⟩;rw [← hr] at hdo hnx;rw [← HR.out] at hnx;have HRR:=hide hnx;have HCALL:=hide (show Calls Tryz.prog 32 #[.pointer (some ⟨gb,0,none⟩),.agg #[x0,x1,x2,x3,x4,x5,x6,x7,x8]] wr (Qa3 ((E,A),M) gb A3 k c3 [x0,x1,x2,x3,x4,x5,x6,x7,x8] gl gp wr) from hdo)
   have HZr:=hide (hM.blk HZ.out (fun e=>HGG.out e.symm))
   have hrt:=hB.root;have r0:wr.cell? ⟨gb,3,none⟩=some x0:=hrt 0 _ rfl;have r1:wr.cell? ⟨gb,4,none⟩=some x1:=hrt 1 _ rfl;have r2:wr.cell? ⟨gb,5,none⟩=some x2:=hrt 2 _ rfl;have r3:wr.cell? ⟨gb,6,none⟩=some x3:=hrt 3 _ rfl;have r4:wr.cell? ⟨gb,7,none⟩=some x4:=hrt 4 _ rfl;have r5:wr.cell? ⟨gb,8,none⟩=some x5:=hrt 5 _ rfl;have r6:wr.cell? ⟨gb,9,none⟩=some x6:=hrt 6 _ rfl;have r7:wr.cell? ⟨gb,10,none⟩=some x7:=hrt 7 _ rfl;have r8:wr.cell? ⟨gb,11,none⟩=some x8:=hrt 8 _ rfl;clear hdo hnx hr hB hM hEw HHIT HNX hrt;go_wp2_with fail
   refine HCALL.out.mono ?_;rintro e w6 ⟨rfl,hB6,hM6⟩;unfold fltV;dsimp only at hB6 ⊢
   obtain ⟨HB7,HM7,HZ7⟩:=Z3 hB6 (HM.out.trans hM6) (hM6.blk HZr.out (fun e=>HGG.out e.symm))
   obtain ⟨z0,z1⟩:=X2 HZ7.out;obtain ⟨f0,f1⟩:=Y2 HZ7.out;clear hB6 hM6 r0 r1 r2 r3 r4 r5 r6 r7 r8;go_wp2_with fail
   exact Qa (f:=(E,A)) (g:=g) ((HZ7.out.set_ 0 _).set_ 1 _) rfl rfl rfl ⟨by rw [HRR.out],BldAt.set_far (by rw [HRR.out]; exact HB7.out) HGG.out,(((Mv.of_ext HE1.out).trans HM7.out).set (g:=g) (.inl (Nat.le_of_eq Hg.out.symm)) _).set (g:=g) (.inl (Nat.le_of_eq Hg.out.symm)) _⟩
set_option maxRecDepth 100000 in
theorem Qo9 (G:Nat→Int→Wr) (gb gl gp n c3:Nat) (A3:Option Addr) (xs:List Value) (m0:Int) (s:Sch) (w0 w:World) (hB:BldAt w gb A3 n c3 xs gl gp m0) (hn:n=s.n) (h64:n≤64) (hE0:Ext w0 w) (hgb:w0.heap.size≤gb)
  (hN:NamedAt w0 w0.heap.size A3 n s.nm s.ty) (hroot:TyAt w0 w0.heap.size s.root xs)
  (hdo:∀ k,k≤n→∀ (m:Int) (w1:World) (vs:List Value),BldAt w1 gb A3 n c3 xs gl gp m→Mv (fun i=>i=gb) w w1→TyAt w1 w1.heap.size (s.all k) vs→Calls Tryz.prog 33 #[.pointer (some ⟨gb,0,none⟩),.agg vs.toArray] w1 (Qa3 (G k m) gb A3 n c3 xs gl gp w1)) :
  Calls Tryz.prog 31 #[.pointer (some ⟨gb,0,none⟩),.func (.func 33) #[.pointer (some ⟨gb,0,none⟩)] #[]] w (Qa3 (goTo G (n + 1) m0) gb A3 n c3 xs gl gp w):=by
 obtain ⟨x0,x1,x2,x3,x4,x5,x6,x7,x8,rfl⟩:=hroot.nine;have hgbl:=hB.lt;have hle:(n:Int)≤64:=by omega
 have hle0:=nZ n;obtain ⟨HHIT,HNX,HDO,HN,HRT,HGB,HE0,HALL⟩:=Z8 (fun k (hk:k < n + 1) (h0:(goTo G k m0).1.1=0) (r:Wr) (hr:G k (goTo G k m0).2=r) (hh:r.1.1≠0)=>Qlr (n:=n + 1) hk h0 hr hh) (fun k (h0:(goTo G k m0).1.1=0)=>Qae (g:=G) (k:=k) (m:=m0) h0) hdo hN hroot hgb hE0 (fun k (hk:k < n)=>Sch.all_lt (s:=s) (i:=k) (by omega))
 have HEND:=hide (show s.all n=s.root by rw [hn]; exact Sch.all_end s)
 obtain ⟨R,hR⟩:=V1 (goTo G (n + 1) m0);have HR:=hide hR;rw [← hR];obtain ⟨w1,g,hw1,hg,Hw1,Hg,hZ,hZE⟩:=T0 w 34 #[.int .i64 0,.int .i64 0];obtain ⟨HE1,HZ⟩:=Z2 hZE hZ;have hB1:=hB.ext hZE;have b2:=hB1.c2;have HB1:=hide hB1;have hgg:gb≠g:=by omega
 have HGG:=hide hgg;have hsz1:w.heap.size≤w1.heap.size:=hZE.size;clear hw1 hg hZ hZE hB1 hB hn hE0 hgb hN hroot hdo hR hgg;go_enter Tryz.func31,Tryz.ntmps31
 go_upto_region 1 with fail
 rw [← Hw1.out,← Hg.out];go_wp2_with fail
 clear b2;go_loopw [14] (fun i wr=>∃ k:Nat,k≤n∧i = .int .i64 (k:Int)∧Hid ((goTo G k m0).1.1=0)∧BldAt wr gb A3 n c3 [x0,x1,x2,x3,x4,x5,x6,x7,x8] gl gp (goTo G k m0).2∧Mv (fun i=>i=gb) w1 wr) (fun i _=>n - (intOf i).toNat)
 case atStart=>exact ⟨0,Nat.zero_le _,rfl,rfl,HB1.out,Mv.rfl' _ _⟩
 case round =>
  clear HB1;obtain ⟨k,hk,rfl,HZ0,hB,hM⟩:=hrel;have HM:=hide hM;have hEw:Ext w0 wr:=hM.below (HE0.out.trans' HE1.out) (fun i hi=>by rw [hi]; exact HGB.out)
  have hszr:=hM.size;by_cases hlt:k < n
  ·obtain ⟨b,o,rfl,hb,hc⟩:=HN.out (by omega)
   obtain ⟨vt,h1,h2⟩:=hc k hlt;have hrg:=fun j' (v:Value) hv=>(hEw.cell (p:=⟨b,o + k * 11 + j',none⟩) hb).trans (h1 j' v hv)
   obtain ⟨h,np,p,t,An,cn,Ap,cp,hty,rfl⟩:=h2.open2;have HRG:=hide (show wr.rangeAt b (o + k * 11) ([.string (s.nm k).1,.int .i64 (s.nm k).2] ++ tyV h An cn Ap np cp) from hrg)
   unfold tyV at HRG;simp only [List.cons_append,List.nil_append] at HRG;obtain ⟨x,hx,y,hy⟩:=V2 ((s.nm k).1) ((s.nm k).2);rw [← hx,← hy] at HRG;obtain ⟨w5,g5,hw5,hg5,Hw5,Hg5,hV,hVE⟩:=T0 wr 90 #[.string x,.int .i64 y,.int .i64 h.kind,.int .i64 h.at_,.int .i64 h.lo,.int .i64 h.hi,.int .i64 h.most,.slice An h.names.length cn,.slice Ap np cp,.string h.name.1,.int .i64 h.name.2];have HV:=hide hV;have hB5:=hB.ext hVE;have HE5:=hide hVE;have hM5:=hM.ext hVE;have hdo:=HDO.out k hk _ w5 _ hB5 ((Mv.of_ext HE1.out).trans hM5) (by rw [HALL.out k hlt]; exact h2.ext (hEw.trans' hVE))
   have hit:=HHIT.out k (by omega) HZ0.out
   have hnx:=HNX.out k HZ0.out;obtain ⟨⟨⟨E,A⟩,M⟩,hr⟩:∃ r,r=G k (goTo G k m0).2:=⟨_,rfl⟩;rw [← hr] at hdo hit hnx;have hit:=hit _ rfl;rw [← HR.out] at hit;obtain ⟨HIT,HNX'⟩:=Z2 hit hnx;have HCALL:=hide (show Calls Tryz.prog 33 #[.pointer (some ⟨gb,0,none⟩),.agg #[.int .i64 h.kind,.int .i64 h.at_,.int .i64 h.lo,.int .i64 h.hi,.int .i64 h.most,.slice An h.names.length cn,.slice Ap np cp,.string h.name.1,.int .i64 h.name.2]] w5 (Qa3 ((E,A),M) gb _ n c3 [x0,x1,x2,x3,x4,x5,x6,x7,x8] gl gp w5) from hdo)
   obtain ⟨HM5,HZ5⟩:=Z2 hM5 ((hM5.blk HZ.out (fun e=>HGG.out e.symm)))
   obtain ⟨-,-,v2,v3,v4,v5,v6,v7,v8,v9,v10⟩:=X11 hV;have i0:=nZ k;have i1:(k:Int) < (n:Int):=by omega
   have hgs5:g5≠gb:=by omega
   have HGS:=hide hgs5;clear hrg h1 h2 hc hEw hM hB hw5 hV hVE hx hy hty hdo hit hnx hr hB5 hM5 hgs5 HHIT HNX HM;clear hg5;go_upto_region 3 with fail
   refine wp_region_lit ?_;refine wpList_plain rfl fun K0 hK0=>?_
   go_simp;refine hK0 _ _ ?_;refine wpList_load_mid rfl 90 _ rfl b (o + k * 11) rfl _ _ HRG.out Tryz.underlying90 rfl Qa2 ?_;refine wpList_plain rfl fun K0 hK0=>?_
   go_simp;refine hK0 _ _ ?_;refine Qc rfl 90 _ _ rfl _ #[.string x,.int .i64 y,.int .i64 h.kind,.int .i64 h.at_,.int .i64 h.lo,.int .i64 h.hi,.int .i64 h.most,.slice An h.names.length cn,.slice Ap np cp,.string h.name.1,.int .i64 h.name.2] rfl rfl Qa2 rfl (by simp [Value.oneCell']) ?_
   go_upto_region 4 with fail
   rw [← Hw5.out,← Hg5.out];go_wp2_with fail
   refine HCALL.out.mono ?_;rintro e w6 ⟨rfl,hB6,hM6⟩;unfold fltV;dsimp only at hB6 ⊢
   obtain ⟨w7,g7,hw7,hg7,Hw7,Hg7,hF,hFE⟩:=T0 w6 34 #[.int .i64 E,.int .i64 A];obtain ⟨HB7,HM7,HZ7⟩:=Z3 (hB6.ext hFE) ((HM5.out.trans hM6).ext hFE) ((hM6.blk HZ5.out (fun e=>HGG.out e.symm)).ext hFE)
   obtain ⟨u0,u1⟩:=X2 hF;clear hB6 hM6 hw7 hg7 hF hFE v2 v3 v4 v5 v6 v7 v8 v9 v10;go_upto_region 5 with fail
   rw [← Hw7.out,← Hg7.out];by_cases hE0:E=0
   ·have hEb:(E == 0)=true:=by simpa using hE0
    have hEb2:(E != 0)=false:=by simpa using hE0
    have HZN:=hide (show (goTo G (k + 1) m0).1.1=0 by rw [HNX'.out]; exact hE0)
    have HBN:=hide (show BldAt w7 gb _ n c3 [x0,x1,x2,x3,x4,x5,x6,x7,x8] gl gp (goTo G (k + 1) m0).2 by rw [HNX'.out]; exact HB7.out)
    clear hE0;go_wp2_with fail
    go_roundw
    case rel=>exact ⟨k + 1,by omega,by go_num,HZN.out,HBN.out,HM7.out⟩
    case measure=>simp [intOf]; omega
   ·have hEb:(E == 0)=false:=by simpa using hE0
    have hEb2:(E != 0)=true:=by simpa using hE0
    have HRR:=hide (HIT.out hE0);obtain ⟨z0,z1⟩:=X2 HZ7.out;obtain ⟨f0,f1⟩:=Y2 HZ7.out;clear hE0;go_wp2_with fail
    exact Qa (f:=(E,A)) (g:=g) ((HZ7.out.set_ 0 _).set_ 1 _) rfl rfl rfl ⟨by rw [HRR.out],BldAt.set_far (by rw [HRR.out]; exact HB7.out) HGG.out,(((Mv.of_ext HE1.out).trans HM7.out).set (g:=g) (.inl (Nat.le_of_eq Hg.out.symm)) _).set (g:=g) (.inl (Nat.le_of_eq Hg.out.symm)) _⟩
  ·obtain rfl:k=n:=by omega
   have hdo:=HDO.out k nL _ wr _ hB ((Mv.of_ext HE1.out).trans hM) (by rw [HEND.out]; exact HRT.out.ext hEw)
   have hnx:=HNX.out k HZ0.out;obtain ⟨⟨⟨E,A⟩,M⟩,hr⟩:∃ r,r=G k (goTo G k m0).2:=⟨_,rfl⟩;rw [← hr] at hdo hnx;rw [← HR.out] at hnx;have HRR:=hide hnx;have HCALL:=hide (show Calls Tryz.prog 33 #[.pointer (some ⟨gb,0,none⟩),.agg #[x0,x1,x2,x3,x4,x5,x6,x7,x8]] wr (Qa3 ((E,A),M) gb A3 k c3 [x0,x1,x2,x3,x4,x5,x6,x7,x8] gl gp wr) from hdo)
   have HZr:=hide (hM.blk HZ.out (fun e=>HGG.out e.symm))
   have hrt:=hB.root;have r0:wr.cell? ⟨gb,3,none⟩=some x0:=hrt 0 _ rfl;have r1:wr.cell? ⟨gb,4,none⟩=some x1:=hrt 1 _ rfl;have r2:wr.cell? ⟨gb,5,none⟩=some x2:=hrt 2 _ rfl;have r3:wr.cell? ⟨gb,6,none⟩=some x3:=hrt 3 _ rfl;have r4:wr.cell? ⟨gb,7,none⟩=some x4:=hrt 4 _ rfl;have r5:wr.cell? ⟨gb,8,none⟩=some x5:=hrt 5 _ rfl;have r6:wr.cell? ⟨gb,9,none⟩=some x6:=hrt 6 _ rfl;have r7:wr.cell? ⟨gb,10,none⟩=some x7:=hrt 7 _ rfl;have r8:wr.cell? ⟨gb,11,none⟩=some x8:=hrt 8 _ rfl;clear hdo hnx hr hB hM hEw HHIT HNX hrt;go_wp2_with fail
   refine HCALL.out.mono ?_;rintro e w6 ⟨rfl,hB6,hM6⟩;unfold fltV;dsimp only at hB6 ⊢
   obtain ⟨HB7,HM7,HZ7⟩:=Z3 hB6 (HM.out.trans hM6) (hM6.blk HZr.out (fun e=>HGG.out e.symm))
   obtain ⟨z0,z1⟩:=X2 HZ7.out;obtain ⟨f0,f1⟩:=Y2 HZ7.out;clear hB6 hM6 r0 r1 r2 r3 r4 r5 r6 r7 r8;go_wp2_with fail
   exact Qa (f:=(E,A)) (g:=g) ((HZ7.out.set_ 0 _).set_ 1 _) rfl rfl rfl ⟨by rw [HRR.out],BldAt.set_far (by rw [HRR.out]; exact HB7.out) HGG.out,(((Mv.of_ext HE1.out).trans HM7.out).set (g:=g) (.inl (Nat.le_of_eq Hg.out.symm)) _).set (g:=g) (.inl (Nat.le_of_eq Hg.out.symm)) _⟩
end Go.Proofs.YtanpljalbijfkaaGreat
