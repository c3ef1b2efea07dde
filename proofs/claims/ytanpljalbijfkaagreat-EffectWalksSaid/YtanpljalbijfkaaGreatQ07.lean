/- . -/
import Derived.Test.YtanpljalbijfkaaGreatQ06
import Derived.Laws.Tables
namespace Go.Proofs.YtanpljalbijfkaaGreat
open Go.RowKit
set_option maxHeartbeats 16000000
def mat (M:List (List Bool)) (a b:Nat):Bool:=(M.getD a []).getD b false
theorem MatAt.form {w:World} {B:Nat} {A:Option Addr} {M:List (List Bool)} (h:MatAt w B A M) (hsq:∀ r ∈ M,r.length=M.length) (hn:0 < M.length) :
  ∃ b o,A=some ⟨b,o,none⟩∧b < B∧∀ k,k < M.length→∃ bk ok ck,w.cell? ⟨b,o + k,none⟩=some (.slice (some ⟨bk,ok,none⟩) M.length ck)∧bk < B∧∀ j,j < M.length→w.cell? ⟨bk,ok + j,none⟩=some (.bool (mat M k j)):=by
 obtain ⟨vs,hv,hr,hb⟩:=h
 obtain ⟨b,o,e,hlt,hc⟩:=hr.form hn (by omega)
 refine ⟨b,o,e,hlt,fun k hk=>?_⟩
 have hk':k < vs.length:=by omega
 obtain ⟨Ak,ck,ev,hrd⟩:=hb k vs[k] M[k] (List.getElem?_eq_getElem hk') (List.getElem?_eq_getElem hk)
 have hl:M[k].length=M.length:=hsq _ (List.getElem_mem hk)
 rw [hl] at ev hrd
 obtain ⟨bk,ok,e2,hlt2,hc2⟩:=hrd.form hn (by omega)
 subst e2
 refine ⟨bk,ok,ck,?_,hlt2,fun j hj=>hc2 j _ ?_⟩
 ·rw [hc k vs[k] (List.getElem?_eq_getElem hk'),ev]
 ·simp [mat,List.getD,hk,hl,hj]
def Qb4 (M:List (List Bool)) (a:Nat):Bool:=(List.range M.length).any fun b=>(a != b) && mat M a b && mat M b a
def Qax (M:List (List Bool)):Option Nat:=(List.range M.length).find? (Qb4 M)
def Qb9 (M:List (List Bool)):Int:=match Qax M with | some a=>a | none=>-1
theorem Qi0 {M:List (List Bool)} {a b:Nat} (hb:b < M.length) (hne:a≠b) (h1:mat M a b=true) (h2:mat M b a=true):Qb4 M a=true:=by
 unfold Qb4
 rw [List.any_eq_true]
 exact ⟨b,List.mem_range.2 hb,by simp [hne,h1,h2]⟩
theorem rowLoop_no {M:List (List Bool)} {a:Nat} (h:∀ b,b < M.length→((a != b) && mat M a b && mat M b a)=false):Qb4 M a=false:=by
 unfold Qb4
 rw [List.any_eq_false]
 intro b hb
 simpa using h b (List.mem_range.1 hb)
theorem Qm9 {M:List (List Bool)} {a:Nat} (ha:a < M.length) (h0:∀ j,j < a→Qb4 M j=false) (h:Qb4 M a=true):Qb9 M=a:=by
 have:Qax M=some a:=by
  unfold Qax
  rw [List.find?_range_eq_some]
  exact ⟨h,List.mem_range.2 ha,fun j hj=>by simp [h0 j hj]⟩
 simp [Qb9,this]
theorem Qna {M:List (List Bool)} (h0:∀ j,j < M.length→Qb4 M j=false):Qb9 M = -1:=by
 have:Qax M=none:=by
  unfold Qax
  rw [List.find?_eq_none]
  intro j hj
  simp [h0 j (List.mem_range.1 hj)]
 simp [Qb9,this]
theorem below_step {P:Nat→Prop} {k:Nat} (h:∀ j,j < k→P j) (hk:P k):∀ j,j < k + 1→P j:=fun j hj=>by
 by_cases e:j=k
 ·rw [e]; exact hk
 ·exact h j (by omega)
set_option maxRecDepth 100000 in
theorem Qox (A:Option Addr) (c:Nat) (M:List (List Bool)) (w:World) (h:MatAt w w.heap.size A M) (hsq:∀ r ∈ M,r.length=M.length) (hl:M.length≤64) :
  Calls Tryz.prog 88 #[.slice A M.length c] w (fun e w'=>e = .returned (.int .i64 (Qb9 M))∧w=w'):=by
 obtain ⟨n,hn⟩:=V1 (M.length)
 have HF:=fun hp=>h.form hsq (by rw [← hn]; exact hp)
 rw [← hn] at HF hl ⊢
 have HN:=hide hn
 clear hn hsq h
 go_enter Tryz.func88,Tryz.ntmps88
 go_wp2
 go_loop [3] (fun i=>∃ a:Nat,a≤n∧i = .int .i64 a∧∀ j,j < a→Qb4 M j=false) (fun i=>n - (intOf i).toNat)
 case atStart=>exact ⟨0,Nat.zero_le _,rfl,fun j hj=>absurd hj (by omega)⟩
 case round =>
  obtain ⟨a,ha,rfl,hall⟩:=hrel
  have HA:=hide hall
  clear hall
  by_cases hlt:a < n
  ·obtain ⟨b0,o0,rfl,_,hrow⟩:=HF (by omega)
   clear HF
   have HROW:=hide hrow
   clear hrow
   go_wp2
   go_loop [4] (fun i=>∃ b:Nat,b≤n∧i = .int .i64 b∧∀ j,j < b→((a != j) && mat M a j && mat M j a)=false) (fun i=>n - (intOf i).toNat)
   case atStart=>exact ⟨0,Nat.zero_le _,rfl,fun j hj=>absurd hj (by omega)⟩
   case round =>
    obtain ⟨b,hb,rfl,hall⟩:=hrel
    have HB:=hide hall
    clear hall
    by_cases hbn:b < n
    ·by_cases hab:a=b
     ·subst hab
      go_wp2
      go_round
      case rel=>exact ⟨a + 1,by omega,by go_num,below_step HB.out (by simp)⟩
      case measure=>simp [intOf]; omega
     ·have hne:((a:Int) != (b:Int))=true:=by rw [bne_iff_ne]; omega
      obtain ⟨ba,oa,ca,fa,_,ga⟩:=HROW.out a hlt
      obtain ⟨bb,ob,cb,fb,_,gb⟩:=HROW.out b hbn
      have ga':=ga b hbn
      have gb':=gb a hlt
      obtain ⟨x,hx,y,hy⟩:=V2 (mat M a b) (mat M b a)
      rw [← hx] at ga'
      rw [← hy] at gb'
      obtain ⟨HX,HY⟩:=Z2 hx hy
      clear ga gb hx hy
      cases x with
      | false =>
       go_wp2
       go_round
       case rel=>exact ⟨b + 1,by omega,by go_num,below_step HB.out (by rw [← HX.out]; simp)⟩
       case measure=>simp [intOf]; omega
      | true =>
       cases y with
       | false =>
        go_wp2
        go_round
        case rel=>exact ⟨b + 1,by omega,by go_num,below_step HB.out (by rw [← HY.out]; simp)⟩
        case measure=>simp [intOf]; omega
       | true =>
        go_wp2
        go_ret
        exact ⟨Q7 (Qm9 (by rw [← HN.out]; exact hlt) HA.out (Qi0 (by rw [← HN.out]; exact hbn) hab HX.out.symm HY.out.symm)).symm,rfl⟩
    ·obtain rfl:b=n:=by omega
     go_wp2
     go_round
     case rel=>exact ⟨a + 1,by omega,by go_num,below_step HA.out (rowLoop_no (by rw [← HN.out]; exact HB.out))⟩
     case measure=>simp [intOf]; omega
  ·obtain rfl:a=n:=by omega
   go_wp2
   go_ret
   exact ⟨Q7 (Qna (by rw [← HN.out]; exact HA.out)).symm,rfl⟩
theorem RelAt.ext {w w':World} {b:Nat} {rs:List Nat} (h:RelAt w b rs) (hb:Ext w w'):RelAt w' b rs:=by
 obtain ⟨A,c,h1,h2,h3,h4⟩:=h
 exact ⟨A,c,h1.ext hb,Qt h2 hb,h3,h4⟩
def Quw (rs:List Nat) (w:World) (e:Ending) (w':World):Prop :=
 e = .returned (.tuple #[.int .i64 ((Qdm (RelM.close rs)).getD 0),.bool (Qdm (RelM.close rs)).isSome])∧Ext w w'
theorem Qoy {rs:List Nat} {k:Nat} (hk:k < rs.length) (h0:∀ j,j < k→Qc3 rs j=false) (h:Qc3 rs k=true):Qdm rs=some k:=by
 unfold Qdm
 rw [List.find?_range_eq_some]
 exact ⟨h,List.mem_range.2 hk,fun j hj=>by simp [h0 j hj]⟩
theorem Qoz {rs:List Nat} (h0:∀ j,j < rs.length→Qc3 rs j=false):Qdm rs=none:=by
 unfold Qdm
 rw [List.find?_eq_none]
 intro j hj
 simp [h0 j (List.mem_range.1 hj)]
set_option maxRecDepth 100000 in
theorem Qo0 (b:Nat) (rs:List Nat) (w:World) (h:RelAt w b rs) :
  Calls Tryz.prog 65 #[.pointer (some ⟨b,0,none⟩)] w (Quw rs w):=by
 go_enter Tryz.func65,Tryz.ntmps65
 go_wp2_with fail
 refine (Qhs b rs _ h).mono ?_
 rintro e w1 ⟨bo,rfl,hR,hE⟩
 obtain ⟨cs,hcs⟩:=V1 (RelM.close rs)
 rw [← hcs] at hR
 have HCS:=hide hcs
 clear hcs
 have hl:cs.length≤64:=by obtain ⟨_,_,_,_,h,_⟩:=hR; exact h
 obtain ⟨HR,HE⟩:=Z2 hR hE
 clear hR hE h
 go_wp2_with fail
 refine (Qkj bo cs _ HR.out).mono ?_
 rintro e w' ⟨rfl,rfl⟩
 go_wp2_with fail
 go_loop [10] (fun i=>∃ k:Nat,k≤cs.length∧i = .int .i64 k∧∀ j,j < k→Qc3 cs j=false) (fun i=>cs.length - (intOf i).toNat)
 case atStart=>exact ⟨0,Nat.zero_le _,rfl,fun j hj=>absurd hj (by omega)⟩
 case round =>
  obtain ⟨k,hk,rfl,hall⟩:=hrel
  have HA:=hide hall
  clear hall
  by_cases hlt:k < cs.length
  ·have hbt:=Qwd (Qhr cs k cs.length) hl
   go_wp2_with fail
   refine (Qov bo cs _ HR.out k).mono ?_
   rintro e w' ⟨rfl,rfl⟩
   obtain ⟨row,hrow⟩:=V1 (backTo cs k cs.length)
   rw [← hrow] at hbt ⊢
   have HW:=hide hrow
   clear hrow
   go_wp2_with fail
   refine (Qut row hbt _).mono ?_
   rintro e w' ⟨rfl,rfl⟩
   obtain ⟨m,hm⟩:=V1 (OnesM.popc row)
   rw [← hm]
   have HM:=hide hm
   clear hm
   by_cases hin:1 < m
   ·go_wp2_with fail
    go_ret2
    have hs:=Qoy hlt HA.out (show Qc3 cs k=true by rw [HM.out,HW.out] at hin; simpa [Qc3] using hin)
    refine ⟨?_,HE.out⟩
    rw [← HCS.out,hs]
    rfl
   ·go_wp2_with fail
    go_round
    case rel =>
     refine ⟨k + 1,by omega,by go_num,fun j hj=>?_⟩
     by_cases e:j=k
     ·rw [e]; rw [HM.out,HW.out] at hin; simpa [Qc3] using hin
     ·exact HA.out j (by omega)
    case measure=>simp [intOf]; omega
  ·obtain rfl:k=cs.length:=by omega
   go_wp2_with fail
   go_ret2
   refine ⟨?_,HE.out⟩
   rw [← HCS.out,Qoz HA.out]
   rfl
theorem Qux (rs:List Nat) (x y:Nat) (hx:x < rs.length) (a b:Nat):RelM.bit (addP rs ((x:Int),(y:Int))) a b=(RelM.bit rs a b || (decide (a=x) && decide (b=y))):=by
 unfold addP
 simp only [Int.toNat_natCast]
 rw [RelM.bit_set _ _ _ _ _ hx]
 by_cases ha:a=x
 ·subst ha
  rw [if_pos rfl,Nat.testBit_or,Nat.one_shiftLeft,Nat.testBit_two_pow]
  unfold RelM.bit
  by_cases hb:b=y
  ·subst hb; simp
  ·simp [hb,Ne.symm hb]
 ·simp [ha]
theorem Qf9 (n:Nat) (ps:List (Int × Int)) (hok:Qa8 n ps=true) (a b:Nat):RelM.bit (Qx n ps) a b=true↔(a,b) ∈ natP ps:=by
 suffices h:∀ rs:List Nat,rs.length=n→(RelM.bit (ps.foldl addP rs) a b=true↔(RelM.bit rs a b=true∨(a,b) ∈ natP ps)) by
  have:=h (List.replicate n 0) (by simp)
  unfold Qx
  rw [this]
  have h0:RelM.bit (List.replicate n 0) a b=false:=by
   unfold RelM.bit
   simp only [List.getD,List.getElem?_replicate]
   split <;> simp
  simp [h0]
 induction ps with
 | nil=>intro rs _; simp [natP]
 | cons p ps ih =>
  intro rs hl
  obtain ⟨x,y,hp,hx,hy⟩:=Qlj hok 0 (by simp)
  have hp':p=((x:Int),(y:Int)):=by simpa using hp
  subst hp'
  have hok':Qa8 n ps=true:=by
   unfold Qa8 at hok ⊢
   rw [List.all_cons,Bool.and_eq_true] at hok
   exact hok.2
  rw [List.foldl_cons,ih hok' _ (by simp [addP,hl]),Qux rs x y (by omega)]
  simp only [natP,List.map_cons,List.mem_cons,Int.toNat_natCast,Prod.mk.injEq,Bool.or_eq_true,Bool.and_eq_true,decide_eq_true_eq]
  constructor
  ·rintro ((h | h) | h)
   ·exact .inl h
   ·exact .inr (.inl h)
   ·exact .inr (.inr h)
  ·rintro (h | h | h)
   ·exact .inl (.inl h)
   ·exact .inl (.inr h)
   ·exact .inr h
theorem Qlk {n:Nat} {ps:List (Int × Int)} (hok:Qa8 n ps=true):∀ p ∈ natP ps,p.1 < n∧p.2 < n:=by
 intro p hp
 obtain ⟨q,hq,rfl⟩:=List.mem_map.1 hp
 obtain ⟨i,hi,rfl⟩:=List.getElem_of_mem hq
 obtain ⟨x,y,e,hx,hy⟩:=Qlj hok i hi
 rw [e]
 exact ⟨by simpa using hx,by simpa using hy⟩
theorem Qqt {n:Nat} {ps:List (Int × Int)} (hok:Qa8 n ps=true):∀ a b,RelM.bit (Qx n ps) a b=true→a < n∧b < n:=fun a b h=>Qlk hok _ ((Qf9 n ps hok a b).1 h)
theorem Qdd {n:Nat} {ps:List (Int × Int)} (hok:Qa8 n ps=true) (a b:Nat) (ha:a < n):mat (Qz n ps) a b=true↔RelM.Reach (fun x y=>(x,y) ∈ natP ps) a b:=by
 unfold mat Qz
 rw [show ((List.range n).map (Qd2 n ps)).getD a []=Qd2 n ps a by simp [List.getD,ha]]
 exact RelM.rounds_reach n (natP ps) (Qlk hok) a ha b
theorem Qsn {n:Nat} {ps:List (Int × Int)} (hok:Qa8 n ps=true) (a b:Nat) (ha:a < n):RelM.bit (RelM.close (Qx n ps)) a b=true↔RelM.Reach (fun x y=>(x,y) ∈ natP ps) a b:=by
 have hl:=Qav n ps
 rw [RelM.close_reach (Qx n ps) (fun x y h=>by rw [hl]; exact (Qqt hok x y h).2) a b (by omega)]
 constructor
 ·exact RelM.Reach.mono fun x y h=>(Qf9 n ps hok x y).1 h.2
 ·exact RelM.Reach.mono fun x y h=>⟨by rw [hl]; exact (Qlk hok _ h).1,(Qf9 n ps hok x y).2 h⟩
theorem Qo1 {n:Nat} {ps:List (Int × Int)} (hok:Qa8 n ps=true) (a b:Nat) (ha:a < n):RelM.bit (RelM.close (Qx n ps)) a b=mat (Qz n ps) a b:=by
 rw [Bool.eq_iff_iff,Qsn hok a b ha,Qdd hok a b ha]
theorem Quy (rs:List Nat) (a b:Nat):Qa2 rs a b=(decide (a < rs.length∧b < rs.length) && RelM.bit rs a b):=by
 unfold Qa2 RelM.bit
 simp only [Int.toNat_natCast]
 congr 1
 rw [Bool.eq_iff_iff,decide_eq_true_eq,decide_eq_true_eq]
 omega
theorem Qc5 {n:Nat} {ps:List (Int × Int)} (hok:Qa8 n ps=true) (a b:Nat) (ha:a < n) (hb:b < n):Qa2 (RelM.close (Qx n ps)) a b=mat (Qz n ps) a b:=by
 rw [Quy,RelM.close_length,Qav,Qo1 hok a b ha]
 simp [ha,hb]
theorem Qao (n:Nat) (ps:List (Int × Int)):(Qz n ps).length=n:=by simp [Qz]
theorem Qe9 (n:Nat) (ps:List (Int × Int)):∀ r ∈ Qz n ps,r.length=(Qz n ps).length:=by
 intro r hr
 rw [Qao]
 obtain ⟨a,_,rfl⟩:=List.mem_map.1 hr
 rw [Qd2,RelM.relaxN_length]
 simp [RelM.start]
theorem Qgr (rs:List Nat) (a k j:Nat):(backTo rs a k).testBit j=(decide (j < k) && backB rs a j):=by
 induction k with
 | zero=>simp [backTo]
 | succ k ih =>
  simp only [backTo]
  by_cases h:backB rs a k=true
  ·rw [if_pos h,Nat.testBit_or,ih,Nat.one_shiftLeft,Nat.testBit_two_pow]
   by_cases e:j=k
   ·subst e; simp [h]
   ·have:(decide (j < k + 1))=decide (j < k):=by rw [Bool.eq_iff_iff,decide_eq_true_eq,decide_eq_true_eq]; omega
    simp [this,Ne.symm e]
  ·rw [if_neg h,ih]
   by_cases e:j=k
   ·subst e; simp [h]
   ·have:(decide (j < k + 1))=decide (j < k):=by rw [Bool.eq_iff_iff,decide_eq_true_eq,decide_eq_true_eq]; omega
    simp [this]
theorem Qqu {n:Nat} {ps:List (Int × Int)} (hn:n≤64) (hok:Qa8 n ps=true) (a:Nat) (ha:a < n):Qc3 (RelM.close (Qx n ps)) a=Qb4 (Qz n ps) a:=by
 have hl:(RelM.close (Qx n ps)).length=n:=by rw [RelM.close_length,Qav]
 have hbk:∀ j,j < n→backB (RelM.close (Qx n ps)) a j=(mat (Qz n ps) a j && mat (Qz n ps) j a):=fun j hj=>by
  unfold backB
  rw [Qc5 hok a j ha hj,Qc5 hok j a hj ha]
 have hrefl:mat (Qz n ps) a a=true:=(Qdd hok a a ha).2 (.refl a)
 unfold Qc3
 rw [hl,Bool.eq_iff_iff,decide_eq_true_eq,OnesM.popc_two _ (Nat.lt_of_lt_of_le (Qhr _ _ _) (Nat.pow_le_pow_right (by omega) hn))]
 unfold Qb4
 rw [List.any_eq_true,Qao]
 constructor
 ·rintro ⟨i,j,hij,h1,h2⟩
  rw [Qgr] at h1 h2
  simp only [Bool.and_eq_true,decide_eq_true_eq] at h1 h2
  rw [hbk i h1.1,Bool.and_eq_true] at h1
  rw [hbk j h2.1,Bool.and_eq_true] at h2
  by_cases e:a=i
  ·exact ⟨j,List.mem_range.2 h2.1,by simp [h2.2]; omega⟩
  ·exact ⟨i,List.mem_range.2 h1.1,by simp [h1.2]; omega⟩
 ·rintro ⟨b,hb,h⟩
  have hb':=List.mem_range.1 hb
  simp only [Bool.and_eq_true,bne_iff_ne,ne_eq] at h
  have k1:(backTo (RelM.close (Qx n ps)) a n).testBit a=true:=by rw [Qgr,hbk a ha]; simp [ha,hrefl]
  have k2:(backTo (RelM.close (Qx n ps)) a n).testBit b=true:=by rw [Qgr,hbk b hb']; simp [hb',h.1.2,h.2]
  rcases Nat.lt_trichotomy a b with q | q | q
  ·exact ⟨a,b,q,k1,k2⟩
  ·exact absurd q h.1.1
  ·exact ⟨b,a,q,k2,k1⟩
theorem Qkm {l:List Nat} {p q:Nat→Bool} (h:∀ i,i ∈ l→p i=q i):l.find? p=l.find? q:=by
 induction l with
 | nil=>rfl
 | cons x l ih =>
  rw [List.find?_cons,List.find?_cons,h x (by simp),ih (fun i hi=>h i (by simp [hi]))]
theorem Qwj {n:Nat} {ps:List (Int × Int)} (hn:n≤64) (hok:Qa8 n ps=true):Qdm (RelM.close (Qx n ps))=Qax (Qz n ps):=by
 unfold Qdm Qax
 rw [RelM.close_length,Qav,Qao]
 exact Qkm fun i hi=>Qqu hn hok i (List.mem_range.1 hi)
theorem Qw2 {n:Nat} {ps:List (Int × Int)} (_hok:Qa8 n ps=true) (h:Qax (Qz n ps)=none) (a b:Nat) (ha:a < n) (hb:b < n) (hne:a≠b) (h1:mat (Qz n ps) a b=true):mat (Qz n ps) b a=false:=by
 unfold Qax at h
 rw [List.find?_eq_none,Qao] at h
 have:=h a (List.mem_range.2 ha)
 cases h2:mat (Qz n ps) b a
 ·rfl
 ·exact absurd (Qi0 (by rw [Qao]; exact hb) hne h1 h2) this
def Qgs (n:Nat):List Value:=Value.slice none 0 0 :: .pointer none :: .pointer none :: List.replicate n (.int .i64 0)
theorem Qnb (n:Nat):(Qgs n).length=n + 3:=by simp [Qgs]
theorem Qso (n:Nat):(Qgs n)[2]? = some (.pointer none):=rfl
theorem Quz {n i:Nat} (h:i < n):(Qgs n)[3 + i]? = some (.int .i64 0):=by
 unfold Qgs
 rw [show 3 + i=i + 1 + 1 + 1 by omega,gS,gS,gS,List.getElem?_replicate,if_pos h]
theorem Qu0:((Tryz.prog.info? 119).bind (·.zero)).map (fun z=>z.cells.toList)=some (Qgs 2048):=by kernel_rfl
theorem Qqv:(match Tryz.prog.underlying 119 with | some (.struct fields)=>(fields.toList.mapM fun f=>(Tryz.prog.info? f.type).map fun i=>(f.offset,i.size)) | _=>none)=some [(0,1),(1,1),(2,1),(3,1024),(1027,1024)]:=by kernel_rfl
theorem Qsp (a b:Value) (ha:a.cells=#[a]) (hb:b.cells=#[b]):∃ cs:Array Value,Tryz.prog.built 119 [(0,a),(1,b)]=some cs∧cs.size=2051∧cs[0]? = some a∧cs[1]? = some b∧cs[2]? = some (.pointer none)∧∀ i,i < 2048→cs[3 + i]? = some (.int .i64 0):=by
 have hz:=Qu0
 have hp:=Qqv
 have hl:=Qnb 2048
 have h2:=Qso 2048
 have h3:=fun i (h:i < 2048)=>Quz h
 generalize Qgs 2048=Z at hz hl h2 h3
 cases hi:Tryz.prog.info? 119 with
 | none=>rw [hi] at hz; cases hz
 | some it =>
  rw [hi] at hz
  cases hu:Tryz.prog.underlying 119 with
  | none=>rw [hu] at hp; cases hp
  | some d =>
   rw [hu] at hp
   cases d with
   | struct fields =>
    cases hzz:it.zero with
    | none=>simp [hzz] at hz
    | some z =>
     simp only [hzz,Option.bind_some,Option.map_some,Option.some.injEq] at hz
     subst hz
     have hsz:z.cells.size=2051:=by rw [← Array.length_toList,hl]
     refine ⟨(z.cells.setIfInBounds 0 a).setIfInBounds 1 b,?_,by simp [hsz],?_,?_,?_,?_⟩
     ·unfold Program.built
      simp only [hi,hu,hzz]
      simp only [] at hp
      rw [hp]
      simp [Instr.fill,ha,hb,hsz]
     ·rw [Array.getElem?_setIfInBounds,if_neg (by decide),Array.getElem?_setIfInBounds,if_pos rfl,if_pos (by omega)]
     ·rw [Array.getElem?_setIfInBounds,if_pos rfl,if_pos (by simp [hsz])]
     ·rw [Array.getElem?_setIfInBounds,if_neg (by decide),Array.getElem?_setIfInBounds,if_neg (by decide),← Array.getElem?_toList,h2]
     ·intro i hi'
      rw [Array.getElem?_setIfInBounds,if_neg (by omega),Array.getElem?_setIfInBounds,if_neg (by omega),← Array.getElem?_toList,h3 i hi']
   | _=>cases hp
end Go.Proofs.YtanpljalbijfkaaGreat
