/- . -/
import Derived.Test.YtanpljalbijfkaaGreatQ06
import Derived.Laws.Tables
namespace Go.Proofs.YtanpljalbijfkaaGreat
open Go.RowKit
set_option maxHeartbeats 16000000
def mat (M:List (List Bool)) (a b:Nat):Bool:=(M.getD a []).getD b false
theorem MatAt.form {w:World} {B:Nat} {A:Option Addr} {M:List (List Bool)} (h:MatAt w B A M) (hsq:∀ r ∈ M,r.length=M.length) (hn:0 < M.length) :
  ∃ b o,A=some ⟨b,o,none⟩∧b < B∧∀ k,k < M.length→∃ bk ok ck,w.cell? ⟨b,o + k,none⟩=some (.slice (some ⟨bk,ok,none⟩) M.length ck)∧bk < B∧∀ j,j < M.length→w.cell? ⟨bk,ok + j,none⟩=some (.bool (mat M k j)):=by
 obtain ⟨vs,hv,hr,hb⟩:=h;obtain ⟨b,o,e,hlt,hc⟩:=hr.form hn (by omega)
 refine ⟨b,o,e,hlt,fun k hk=>?_⟩
 have hk':k < vs.length:=by omega
 obtain ⟨Ak,ck,ev,hrd⟩:=hb k vs[k] M[k] (List.getElem?_eq_getElem hk') (List.getElem?_eq_getElem hk);have hl:M[k].length=M.length:=hsq _ (List.getElem_mem hk);rw [hl] at ev hrd;obtain ⟨bk,ok,e2,hlt2,hc2⟩:=hrd.form hn (by omega)
 subst e2;refine ⟨bk,ok,ck,?_,hlt2,fun j hj=>hc2 j _ ?_⟩
 ·rw [hc k vs[k] (List.getElem?_eq_getElem hk'),ev]
 ·simp [mat,List.getD,hk,hl,hj]
def Qa7 (M:List (List Bool)) (a:Nat):Bool:=(List.range M.length).any fun b=>(a != b) && mat M a b && mat M b a
def Qac (M:List (List Bool)):Option Nat:=(List.range M.length).find? (Qa7 M)
def Qbc (M:List (List Bool)):Int:=match Qac M with | some a=>a | none=>-1
theorem Qhb {M:List (List Bool)} {a b:Nat} (hb:b < M.length) (hne:a≠b) (h1:mat M a b=true) (h2:mat M b a=true):Qa7 M a=true:=by
 unfold Qa7;rw [List.any_eq_true];exact ⟨b,List.mem_range.2 hb,by simp [hne,h1,h2]⟩
theorem rowLoop_no {M:List (List Bool)} {a:Nat} (h:∀ b,b < M.length→((a != b) && mat M a b && mat M b a)=false):Qa7 M a=false:=by
 unfold Qa7;rw [List.any_eq_false];intro b hb;simpa using h b (List.mem_range.1 hb)
theorem Qk3 {M:List (List Bool)} {a:Nat} (ha:a < M.length) (h0:∀ j,j < a→Qa7 M j=false) (h:Qa7 M a=true):Qbc M=a:=by
 have:Qac M=some a:=by
  unfold Qac;rw [List.find?_range_eq_some];exact ⟨h,List.mem_range.2 ha,fun j hj=>by simp [h0 j hj]⟩
 simp [Qbc,this]
theorem Qk4 {M:List (List Bool)} (h0:∀ j,j < M.length→Qa7 M j=false):Qbc M = -1:=by
 have:Qac M=none:=by
  unfold Qac;rw [List.find?_eq_none];intro j hj;simp [h0 j (List.mem_range.1 hj)]
 simp [Qbc,this]
theorem below_step {P:Nat→Prop} {k:Nat} (h:∀ j,j < k→P j) (hk:P k):∀ j,j < k + 1→P j:=fun j hj=>by
 by_cases e:j=k
 ·rw [e]; exact hk
 ·exact h j (by omega)
set_option maxRecDepth 100000 in
theorem Qmu (A:Option Addr) (c:Nat) (M:List (List Bool)) (w:World) (h:MatAt w w.heap.size A M) (hsq:∀ r ∈ M,r.length=M.length) (hl:M.length≤64) :
  Calls Tryz.prog 88 #[.slice A M.length c] w (fun e w'=>e = .returned (.int .i64 (Qbc M))∧w=w'):=by
 obtain ⟨n,hn⟩:=V1 (M.length);have HF:=fun hp=>h.form hsq (by rw [← hn]; exact hp)
 rw [← hn] at HF hl ⊢;have HN:=hide hn;clear hn hsq h;go_enter Tryz.func88,Tryz.ntmps88
 go_wp2
 go_loop [3] (fun i=>∃ a:Nat,a≤n∧i = .int .i64 a∧∀ j,j < a→Qa7 M j=false) (fun i=>n - (intOf i).toNat)
 case atStart=>exact ⟨0,Nat.zero_le _,rfl,fun j hj=>absurd hj (by omega)⟩
 case round =>
  obtain ⟨a,ha,rfl,hall⟩:=hrel;have HA:=hide hall;clear hall;by_cases hlt:a < n
  ·obtain ⟨b0,o0,rfl,_,hrow⟩:=HF (by omega)
   clear HF;have HROW:=hide hrow;clear hrow;go_wp2
   go_loop [4] (fun i=>∃ b:Nat,b≤n∧i = .int .i64 b∧∀ j,j < b→((a != j) && mat M a j && mat M j a)=false) (fun i=>n - (intOf i).toNat)
   case atStart=>exact ⟨0,Nat.zero_le _,rfl,fun j hj=>absurd hj (by omega)⟩
   case round =>
    obtain ⟨b,hb,rfl,hall⟩:=hrel;have HB:=hide hall;clear hall;by_cases hbn:b < n
    ·by_cases hab:a=b
     ·subst hab;go_wp2
      go_round
      case rel=>exact ⟨a + 1,by omega,by go_num,below_step HB.out (by simp)⟩
      case measure=>simp [intOf]; omega
     ·have hne:((a:Int) != (b:Int))=true:=by rw [bne_iff_ne]; omega
      obtain ⟨ba,oa,ca,fa,_,ga⟩:=HROW.out a hlt;obtain ⟨bb,ob,cb,fb,_,gb⟩:=HROW.out b hbn;have ga':=ga b hbn;have gb':=gb a hlt;obtain ⟨x,hx,y,hy⟩:=V2 (mat M a b) (mat M b a);rw [← hx] at ga';rw [← hy] at gb';obtain ⟨HX,HY⟩:=Z2 hx hy;clear ga gb hx hy;cases x with
      | false =>
       go_wp2
       go_round
       case rel=>exact ⟨b + 1,by omega,by go_num,below_step HB.out (by rw [← HX.out]; simp)⟩
       case measure=>simp [intOf]; omega
      | true =>
       cases y with
       | false =>
        go_wp2
        go_round
        case rel=>exact ⟨b + 1,by omega,by go_num,below_step HB.out (by rw [← HY.out]; simp)⟩
        case measure=>simp [intOf]; omega
       | true =>
        go_wp2
        go_ret
        exact ⟨Qq (Qk3 (by rw [← HN.out]; exact hlt) HA.out (Qhb (by rw [← HN.out]; exact hbn) hab HX.out.symm HY.out.symm)).symm,rfl⟩
    ·obtain rfl:b=n:=by omega
     go_wp2
     go_round
     case rel=>exact ⟨a + 1,by omega,by go_num,below_step HA.out (rowLoop_no (by rw [← HN.out]; exact HB.out))⟩
     case measure=>simp [intOf]; omega
  ·obtain rfl:a=n:=by omega
   go_wp2
   go_ret
   exact ⟨Qq (Qk4 (by rw [← HN.out]; exact HA.out)).symm,rfl⟩
theorem RelAt.ext {w w':World} {b:Nat} {rs:List Nat} (h:RelAt w b rs) (hb:Ext w w'):RelAt w' b rs:=by
 obtain ⟨A,c,h1,h2,h3,h4⟩:=h;exact ⟨A,c,h1.ext hb,own_ext h2 hb,h3,h4⟩
def Qsa (rs:List Nat) (w:World) (e:Ending) (w':World):Prop :=
 e = .returned (.tuple #[.int .i64 ((Qcg (RelM.close rs)).getD 0),.bool (Qcg (RelM.close rs)).isSome])∧Ext w w'
theorem Qmv {rs:List Nat} {k:Nat} (hk:k < rs.length) (h0:∀ j,j < k→Qbx rs j=false) (h:Qbx rs k=true):Qcg rs=some k:=by
 unfold Qcg;rw [List.find?_range_eq_some];exact ⟨h,List.mem_range.2 hk,fun j hj=>by simp [h0 j hj]⟩
theorem Qmw {rs:List Nat} (h0:∀ j,j < rs.length→Qbx rs j=false):Qcg rs=none:=by
 unfold Qcg;rw [List.find?_eq_none];intro j hj;simp [h0 j (List.mem_range.1 hj)]
set_option maxRecDepth 100000 in
theorem Qmx (b:Nat) (rs:List Nat) (w:World) (h:RelAt w b rs) :
  Calls Tryz.prog 65 #[.pointer (some ⟨b,0,none⟩)] w (Qsa rs w):=by
 go_enter Tryz.func65,Tryz.ntmps65
 go_wp2_with fail
 refine (Qf3 b rs _ h).mono ?_;rintro e w1 ⟨bo,rfl,hR,hE⟩;obtain ⟨cs,hcs⟩:=V1 (RelM.close rs);rw [← hcs] at hR;have HCS:=hide hcs;clear hcs;have hl:cs.length≤64:=by obtain ⟨_,_,_,_,h,_⟩:=hR; exact h
 obtain ⟨HR,HE⟩:=Z2 hR hE;clear hR hE h;go_wp2_with fail
 refine (Qif bo cs _ HR.out).mono ?_;rintro e w' ⟨rfl,rfl⟩;go_wp2_with fail
 go_loop [10] (fun i=>∃ k:Nat,k≤cs.length∧i = .int .i64 k∧∀ j,j < k→Qbx cs j=false) (fun i=>cs.length - (intOf i).toNat)
 case atStart=>exact ⟨0,Nat.zero_le _,rfl,fun j hj=>absurd hj (by omega)⟩
 case round =>
  obtain ⟨k,hk,rfl,hall⟩:=hrel;have HA:=hide hall;clear hall;by_cases hlt:k < cs.length
  ·have hbt:=Qtr (Qf2 cs k cs.length) hl;go_wp2_with fail
   refine (Qms bo cs _ HR.out k).mono ?_;rintro e w' ⟨rfl,rfl⟩;obtain ⟨row,hrow⟩:=V1 (backTo cs k cs.length);rw [← hrow] at hbt ⊢;have HW:=hide hrow;clear hrow;go_wp2_with fail
   refine (Qr7 row hbt _).mono ?_;rintro e w' ⟨rfl,rfl⟩;obtain ⟨m,hm⟩:=V1 (OnesM.popc row);rw [← hm];have HM:=hide hm;clear hm;by_cases hin:1 < m
   ·go_wp2_with fail
    go_ret2
    have hs:=Qmv hlt HA.out (show Qbx cs k=true by rw [HM.out,HW.out] at hin; simpa [Qbx] using hin)
    refine ⟨?_,HE.out⟩;rw [← HCS.out,hs];rfl
   ·go_wp2_with fail
    go_round
    case rel =>
     refine ⟨k + 1,by omega,by go_num,fun j hj=>?_⟩
     by_cases e:j=k
     ·rw [e]; rw [HM.out,HW.out] at hin; simpa [Qbx] using hin
     ·exact HA.out j (by omega)
    case measure=>simp [intOf]; omega
  ·obtain rfl:k=cs.length:=by omega
   go_wp2_with fail
   go_ret2
   refine ⟨?_,HE.out⟩;rw [← HCS.out,Qmw HA.out];rfl
theorem Qsb (rs:List Nat) (x y:Nat) (hx:x < rs.length) (a b:Nat):RelM.bit (addP rs ((x:Int),(y:Int))) a b=(RelM.bit rs a b || (decide (a=x) && decide (b=y))):=by
 unfold addP;simp only [Int.toNat_natCast];rw [RelM.bit_set _ _ _ _ _ hx];by_cases ha:a=x
 ·subst ha;rw [if_pos rfl,Nat.testBit_or,Nat.one_shiftLeft,Nat.testBit_two_pow];unfold RelM.bit;by_cases hb:b=y
  ·subst hb; simp
  ·simp [hb,Ne.symm hb]
 ·simp [ha]
theorem Qer (n:Nat) (ps:List (Int × Int)) (hok:Qah n ps=true) (a b:Nat):RelM.bit (newRows n ps) a b=true↔(a,b) ∈ natP ps:=by
 suffices h:∀ rs:List Nat,rs.length=n→(RelM.bit (ps.foldl addP rs) a b=true↔(RelM.bit rs a b=true∨(a,b) ∈ natP ps)) by
  have:=h (List.replicate n 0) (by simp)
  unfold newRows;rw [this];have h0:RelM.bit (List.replicate n 0) a b=false:=by
   unfold RelM.bit;simp only [List.getD,List.getElem?_replicate];split <;> simp
  simp [h0]
 induction ps with
 | nil=>intro rs _; simp [natP]
 | cons p ps ih =>
  intro rs hl;obtain ⟨x,y,hp,hx,hy⟩:=okPs_at hok 0 (by simp)
  have hp':p=((x:Int),(y:Int)):=by simpa using hp
  subst hp';have hok':Qah n ps=true:=by
   unfold Qah at hok ⊢;rw [List.all_cons,Bool.and_eq_true] at hok;exact hok.2
  rw [List.foldl_cons,ih hok' _ (by simp [addP,hl]),Qsb rs x y (by omega)]
  simp only [natP,List.map_cons,List.mem_cons,Int.toNat_natCast,Prod.mk.injEq,Bool.or_eq_true,Bool.and_eq_true,decide_eq_true_eq];constructor
  ·rintro ((h | h) | h)
   ·exact .inl h
   ·exact .inr (.inl h)
   ·exact .inr (.inr h)
  ·rintro (h | h | h)
   ·exact .inl (.inl h)
   ·exact .inl (.inr h)
   ·exact .inr h
theorem Qjf {n:Nat} {ps:List (Int × Int)} (hok:Qah n ps=true):∀ p ∈ natP ps,p.1 < n∧p.2 < n:=by
 intro p hp;obtain ⟨q,hq,rfl⟩:=List.mem_map.1 hp;obtain ⟨i,hi,rfl⟩:=List.getElem_of_mem hq;obtain ⟨x,y,e,hx,hy⟩:=okPs_at hok i hi;rw [e];exact ⟨by simpa using hx,by simpa using hy⟩
theorem Qol {n:Nat} {ps:List (Int × Int)} (hok:Qah n ps=true):∀ a b,RelM.bit (newRows n ps) a b=true→a < n∧b < n:=fun a b h=>Qjf hok _ ((Qer n ps hok a b).1 h)
theorem Qb4 {n:Nat} {ps:List (Int × Int)} (hok:Qah n ps=true) (a b:Nat) (ha:a < n):mat (leads n ps) a b=true↔RelM.Reach (fun x y=>(x,y) ∈ natP ps) a b:=by
 unfold mat leads;rw [show ((List.range n).map (leadRow n ps)).getD a []=leadRow n ps a by simp [List.getD,ha]]
 exact RelM.rounds_reach n (natP ps) (Qjf hok) a ha b
theorem Qp7 {n:Nat} {ps:List (Int × Int)} (hok:Qah n ps=true) (a b:Nat) (ha:a < n):RelM.bit (RelM.close (newRows n ps)) a b=true↔RelM.Reach (fun x y=>(x,y) ∈ natP ps) a b:=by
 have hl:=Q9 n ps;rw [RelM.close_reach (newRows n ps) (fun x y h=>by rw [hl]; exact (Qol hok x y h).2) a b (by omega)]
 constructor
 ·exact RelM.Reach.mono fun x y h=>(Qer n ps hok x y).1 h.2
 ·exact RelM.Reach.mono fun x y h=>⟨by rw [hl]; exact (Qjf hok _ h).1,(Qer n ps hok x y).2 h⟩
theorem Qmy {n:Nat} {ps:List (Int × Int)} (hok:Qah n ps=true) (a b:Nat) (ha:a < n):RelM.bit (RelM.close (newRows n ps)) a b=mat (leads n ps) a b:=by
 rw [Bool.eq_iff_iff,Qp7 hok a b ha,Qb4 hok a b ha]
theorem Qsc (rs:List Nat) (a b:Nat):Qad rs a b=(decide (a < rs.length∧b < rs.length) && RelM.bit rs a b):=by
 unfold Qad RelM.bit;simp only [Int.toNat_natCast];congr 1
 rw [Bool.eq_iff_iff,decide_eq_true_eq,decide_eq_true_eq];omega
theorem Qbz {n:Nat} {ps:List (Int × Int)} (hok:Qah n ps=true) (a b:Nat) (ha:a < n) (hb:b < n):Qad (RelM.close (newRows n ps)) a b=mat (leads n ps) a b:=by
 rw [Qsc,RelM.close_length,Q9,Qmy hok a b ha];simp [ha,hb]
theorem leads_length (n:Nat) (ps:List (Int × Int)):(leads n ps).length=n:=by simp [leads]
theorem Qdx (n:Nat) (ps:List (Int × Int)):∀ r ∈ leads n ps,r.length=(leads n ps).length:=by
 intro r hr;rw [leads_length];obtain ⟨a,_,rfl⟩:=List.mem_map.1 hr;rw [leadRow,RelM.relaxN_length];simp [RelM.start]
theorem backTo_bit (rs:List Nat) (a k j:Nat):(backTo rs a k).testBit j=(decide (j < k) && backB rs a j):=by
 induction k with
 | zero=>simp [backTo]
 | succ k ih =>
  simp only [backTo];by_cases h:backB rs a k=true
  ·rw [if_pos h,Nat.testBit_or,ih,Nat.one_shiftLeft,Nat.testBit_two_pow];by_cases e:j=k
   ·subst e; simp [h]
   ·have:(decide (j < k + 1))=decide (j < k):=by rw [Bool.eq_iff_iff,decide_eq_true_eq,decide_eq_true_eq]; omega
    simp [this,Ne.symm e]
  ·rw [if_neg h,ih];by_cases e:j=k
   ·subst e; simp [h]
   ·have:(decide (j < k + 1))=decide (j < k):=by rw [Bool.eq_iff_iff,decide_eq_true_eq,decide_eq_true_eq]; omega
    simp [this]
theorem Qom {n:Nat} {ps:List (Int × Int)} (hn:n≤64) (hok:Qah n ps=true) (a:Nat) (ha:a < n):Qbx (RelM.close (newRows n ps)) a=Qa7 (leads n ps) a:=by
 have hl:(RelM.close (newRows n ps)).length=n:=by rw [RelM.close_length,Q9]
 have hbk:∀ j,j < n→backB (RelM.close (newRows n ps)) a j=(mat (leads n ps) a j && mat (leads n ps) j a):=fun j hj=>by
  unfold backB;rw [Qbz hok a j ha hj,Qbz hok j a hj ha]
 have hrefl:mat (leads n ps) a a=true:=(Qb4 hok a a ha).2 (.refl a);unfold Qbx;rw [hl,Bool.eq_iff_iff,decide_eq_true_eq,OnesM.popc_two _ (Nat.lt_of_lt_of_le (Qf2 _ _ _) (Nat.pow_le_pow_right (by omega) hn))]
 unfold Qa7;rw [List.any_eq_true,leads_length];constructor
 ·rintro ⟨i,j,hij,h1,h2⟩;rw [backTo_bit] at h1 h2;simp only [Bool.and_eq_true,decide_eq_true_eq] at h1 h2;rw [hbk i h1.1,Bool.and_eq_true] at h1;rw [hbk j h2.1,Bool.and_eq_true] at h2;by_cases e:a=i
  ·exact ⟨j,List.mem_range.2 h2.1,by simp [h2.2]; omega⟩
  ·exact ⟨i,List.mem_range.2 h1.1,by simp [h1.2]; omega⟩
 ·rintro ⟨b,hb,h⟩;have hb':=List.mem_range.1 hb;simp only [Bool.and_eq_true,bne_iff_ne,ne_eq] at h;have k1:(backTo (RelM.close (newRows n ps)) a n).testBit a=true:=by rw [backTo_bit,hbk a ha]; simp [ha,hrefl]
  have k2:(backTo (RelM.close (newRows n ps)) a n).testBit b=true:=by rw [backTo_bit,hbk b hb']; simp [hb',h.1.2,h.2]
  rcases Nat.lt_trichotomy a b with q | q | q
  ·exact ⟨a,b,q,k1,k2⟩
  ·exact absurd q h.1.1
  ·exact ⟨b,a,q,k2,k1⟩
theorem Qii {l:List Nat} {p q:Nat→Bool} (h:∀ i,i ∈ l→p i=q i):l.find? p=l.find? q:=by
 induction l with
 | nil=>rfl
 | cons x l ih =>
  rw [List.find?_cons,List.find?_cons,h x (by simp),ih (fun i hi=>h i (by simp [hi]))]
theorem loop_eq {n:Nat} {ps:List (Int × Int)} (hn:n≤64) (hok:Qah n ps=true):Qcg (RelM.close (newRows n ps))=Qac (leads n ps):=by
 unfold Qcg Qac;rw [RelM.close_length,Q9,leads_length];exact Qii fun i hi=>Qom hn hok i (List.mem_range.1 hi)
theorem Qup {n:Nat} {ps:List (Int × Int)} (_hok:Qah n ps=true) (h:Qac (leads n ps)=none) (a b:Nat) (ha:a < n) (hb:b < n) (hne:a≠b) (h1:mat (leads n ps) a b=true):mat (leads n ps) b a=false:=by
 unfold Qac at h;rw [List.find?_eq_none,leads_length] at h;have:=h a (List.mem_range.2 ha)
 cases h2:mat (leads n ps) b a
 ·rfl
 ·exact absurd (Qhb (by rw [leads_length]; exact hb) hne h1 h2) this
def Qe8 (n:Nat):List Value:=Value.slice none 0 0 :: .pointer none :: .pointer none :: List.replicate n (.int .i64 0)
theorem Qk5 (n:Nat):(Qe8 n).length=n + 3:=by simp [Qe8]
theorem Qp8 (n:Nat):(Qe8 n)[2]? = some (.pointer none):=rfl
theorem Qsd {n i:Nat} (h:i < n):(Qe8 n)[3 + i]? = some (.int .i64 0):=by
 unfold Qe8;rw [show 3 + i=i + 1 + 1 + 1 by omega,gS,gS,gS,List.getElem?_replicate,if_pos h]
theorem Qse:((Tryz.prog.info? 119).bind (·.zero)).map (fun z=>z.cells.toList)=some (Qe8 2048):=by kernel_rfl
theorem Qon:(match Tryz.prog.underlying 119 with | some (.struct fields)=>(fields.toList.mapM fun f=>(Tryz.prog.info? f.type).map fun i=>(f.offset,i.size)) | _=>none)=some [(0,1),(1,1),(2,1),(3,1024),(1027,1024)]:=by kernel_rfl
theorem Qp9 (a b:Value) (ha:a.cells=#[a]) (hb:b.cells=#[b]):∃ cs:Array Value,Tryz.prog.built 119 [(0,a),(1,b)]=some cs∧cs.size=2051∧cs[0]? = some a∧cs[1]? = some b∧cs[2]? = some (.pointer none)∧∀ i,i < 2048→cs[3 + i]? = some (.int .i64 0):=by
 have hz:=Qse;have hp:=Qon;have hl:=Qk5 2048;have h2:=Qp8 2048;have h3:=fun i (h:i < 2048)=>Qsd h
 generalize Qe8 2048=Z at hz hl h2 h3
 cases hi:Tryz.prog.info? 119 with
 | none=>rw [hi] at hz; cases hz
 | some it =>
  rw [hi] at hz;cases hu:Tryz.prog.underlying 119 with
  | none=>rw [hu] at hp; cases hp
  | some d =>
   rw [hu] at hp;cases d with
   | struct fields =>
    cases hzz:it.zero with
    | none=>simp [hzz] at hz
    | some z =>
     simp only [hzz,Option.bind_some,Option.map_some,Option.some.injEq] at hz;subst hz;have hsz:z.cells.size=2051:=by rw [← Array.length_toList,hl]
     refine ⟨(z.cells.setIfInBounds 0 a).setIfInBounds 1 b,?_,by simp [hsz],?_,?_,?_,?_⟩
     ·unfold Program.built;simp only [hi,hu,hzz];simp only [] at hp;rw [hp];simp [Instr.fill,ha,hb,hsz]
     ·rw [Array.getElem?_setIfInBounds,if_neg (by decide),Array.getElem?_setIfInBounds,if_pos rfl,if_pos (by omega)]
     ·rw [Array.getElem?_setIfInBounds,if_pos rfl,if_pos (by simp [hsz])]
     ·rw [Array.getElem?_setIfInBounds,if_neg (by decide),Array.getElem?_setIfInBounds,if_neg (by decide),← Array.getElem?_toList,h2]
     ·intro i hi';rw [Array.getElem?_setIfInBounds,if_neg (by omega),Array.getElem?_setIfInBounds,if_neg (by omega),← Array.getElem?_toList,h3 i hi']
   | _=>cases hp
end Go.Proofs.YtanpljalbijfkaaGreat
