/- . -/
import Derived.Test.YtanpljalbijfkaaGreatQ06
import Derived.Laws.Tables
namespace Go.Proofs.YtanpljalbijfkaaGreat
open Go.RowKit
set_option maxHeartbeats 16000000
def mat (M:List (List Bool)) (a b:Nat):Bool:=(M.getD a []).getD b false
def Qen (M:List (List Bool)) (a:Nat):Bool:=(List.range M.length).any fun b=>(a != b) && mat M a b && mat M b a
def Qb3 (M:List (List Bool)):Option Nat:=(List.range M.length).find? (Qen M)
theorem Qls {M:List (List Bool)} {a b:Nat} (hb:b < M.length) (hne:a≠b) (h1:mat M a b=true) (h2:mat M b a=true):Qen M a=true:=by
 unfold Qen
 rw [List.any_eq_true]
 exact ⟨b,List.mem_range.2 hb,by simp [hne,h1,h2]⟩
theorem below_step {P:Nat→Prop} {k:Nat} (h:∀ j,j < k→P j) (hk:P k):∀ j,j < k + 1→P j:=fun j hj=>by
 by_cases e:j=k
 ·rw [e]; exact hk
 ·exact h j (by omega)
theorem RelAt.ext {w w':World} {b:Nat} {rs:List Nat} (h:RelAt w b rs) (hb:Ext w w'):RelAt w' b rs:=by
 obtain ⟨A,c,h1,h2,h3,h4⟩:=h
 exact ⟨A,c,h1.ext hb,Qz h2 hb,h3,h4⟩
def Qq1 (rs:List Nat) (w:World) (e:Ending) (w':World):Prop :=
 e = .returned (.tuple #[.int .i64 ((Qct (RelM.close rs)).getD 0),.bool (Qct (RelM.close rs)).isSome])∧Ext w w'
theorem Qlt {rs:List Nat} {k:Nat} (hk:k < rs.length) (h0:∀ j,j < k→Qcd rs j=false) (h:Qcd rs k=true):Qct rs=some k:=by
 unfold Qct
 rw [List.find?_range_eq_some]
 exact ⟨h,List.mem_range.2 hk,fun j hj=>by simp [h0 j hj]⟩
theorem Qlu {rs:List Nat} (h0:∀ j,j < rs.length→Qcd rs j=false):Qct rs=none:=by
 unfold Qct
 rw [List.find?_eq_none]
 intro j hj
 simp [h0 j (List.mem_range.1 hj)]
set_option maxRecDepth 100000 in
theorem Qlv (b:Nat) (rs:List Nat) (w:World) (h:RelAt w b rs) :
  Calls Tryz.prog 65 #[.pointer (some ⟨b,0,none⟩)] w (Qq1 rs w):=by
 go_enter Tryz.func65,Tryz.ntmps65
 go_wp2_with fail
 refine (Qfk b rs _ h).mono ?_
 rintro e w1 ⟨bo,rfl,hR,hE⟩
 obtain ⟨cs,hcs⟩:=V1 (RelM.close rs)
 rw [← hcs] at hR
 have HCS:=Qa hcs
 clear hcs
 have hl:cs.length≤64:=by obtain ⟨_,_,_,_,h,_⟩:=hR; exact h
 obtain ⟨HR,HE⟩:=Z2 hR hE
 clear hR hE h
 go_wp2_with fail
 refine (Qhv bo cs _ HR.out).mono ?_
 rintro e w' ⟨rfl,rfl⟩
 go_wp2_with fail
 go_loop [10] (fun i=>∃ k:Nat,k≤cs.length∧i = .int .i64 k∧∀ j,j < k→Qcd cs j=false) (fun i=>cs.length - (intOf i).toNat)
 case atStart=>exact ⟨0,Nat.zero_le _,rfl,fun j hj=>absurd hj (by omega)⟩
 case round =>
  obtain ⟨k,hk,rfl,hall⟩:=hrel
  have HA:=Qa hall
  clear hall
  by_cases hlt:k < cs.length
  ·have hbt:=Qr6 (Qfj cs k cs.length) hl
   go_wp2_with fail
   refine (Qlr bo cs _ HR.out k).mono ?_
   rintro e w' ⟨rfl,rfl⟩
   obtain ⟨row,hrow⟩:=V1 (backTo cs k cs.length)
   rw [← hrow] at hbt ⊢
   have HW:=Qa hrow
   clear hrow
   go_wp2_with fail
   refine (Qqy row hbt _).mono ?_
   rintro e w' ⟨rfl,rfl⟩
   obtain ⟨m,hm⟩:=V1 (OnesM.popc row)
   rw [← hm]
   have HM:=Qa hm
   clear hm
   by_cases hin:1 < m
   ·go_wp2_with fail
    go_ret2
    have hs:=Qlt hlt HA.out (show Qcd cs k=true by rw [HM.out,HW.out] at hin; simpa [Qcd] using hin)
    refine ⟨?_,HE.out⟩
    rw [← HCS.out,hs]
    rfl
   ·go_wp2_with fail
    go_round
    case rel =>
     refine ⟨k + 1,by omega,by go_num,fun j hj=>?_⟩
     by_cases e:j=k
     ·rw [e]; rw [HM.out,HW.out] at hin; simpa [Qcd] using hin
     ·exact HA.out j (by omega)
    case measure=>simp [intOf]; omega
  ·obtain rfl:k=cs.length:=by omega
   go_wp2_with fail
   go_ret2
   refine ⟨?_,HE.out⟩
   rw [← HCS.out,Qlu HA.out]
   rfl
theorem Qq2 (rs:List Nat) (x y:Nat) (hx:x < rs.length) (a b:Nat):RelM.bit (addP rs ((x:Int),(y:Int))) a b=(RelM.bit rs a b || (decide (a=x) && decide (b=y))):=by
 unfold addP
 simp only [Int.toNat_natCast]
 rw [RelM.bit_set _ _ _ _ _ hx]
 by_cases ha:a=x
 ·subst ha
  rw [if_pos rfl,Nat.testBit_or,Nat.one_shiftLeft,Nat.testBit_two_pow]
  unfold RelM.bit
  by_cases hb:b=y
  ·subst hb; simp
  ·simp [hb,Ne.symm hb]
 ·simp [ha]
theorem Qef (n:Nat) (ps:List (Int × Int)) (hok:Qap n ps=true) (a b:Nat):RelM.bit (Qm n ps) a b=true↔(a,b) ∈ natP ps:=by
 suffices h:∀ rs:List Nat,rs.length=n→(RelM.bit (ps.foldl addP rs) a b=true↔(RelM.bit rs a b=true∨(a,b) ∈ natP ps)) by
  have:=h (List.replicate n 0) (by simp)
  unfold Qm
  rw [this]
  have h0:RelM.bit (List.replicate n 0) a b=false:=by
   unfold RelM.bit
   simp only [List.getD,List.getElem?_replicate]
   split <;> simp
  simp [h0]
 induction ps with
 | nil=>intro rs _; simp [natP]
 | cons p ps ih =>
  intro rs hl
  obtain ⟨x,y,hp,hx,hy⟩:=Qms hok 0 (by simp)
  have hp':p=((x:Int),(y:Int)):=by simpa using hp
  subst hp'
  have hok':Qap n ps=true:=by
   unfold Qap at hok ⊢
   rw [List.all_cons,Bool.and_eq_true] at hok
   exact hok.2
  rw [List.foldl_cons,ih hok' _ (by simp [addP,hl]),Qq2 rs x y (by omega)]
  simp only [natP,List.map_cons,List.mem_cons,Int.toNat_natCast,Prod.mk.injEq,Bool.or_eq_true,Bool.and_eq_true,decide_eq_true_eq]
  constructor
  ·rintro ((h | h) | h)
   ·exact .inl h
   ·exact .inr (.inl h)
   ·exact .inr (.inr h)
  ·rintro (h | h | h)
   ·exact .inl (.inl h)
   ·exact .inl (.inr h)
   ·exact .inr h
theorem Qiw {n:Nat} {ps:List (Int × Int)} (hok:Qap n ps=true):∀ p ∈ natP ps,p.1 < n∧p.2 < n:=by
 intro p hp
 obtain ⟨q,hq,rfl⟩:=List.mem_map.1 hp
 obtain ⟨i,hi,rfl⟩:=List.getElem_of_mem hq
 obtain ⟨x,y,e,hx,hy⟩:=Qms hok i hi
 rw [e]
 exact ⟨by simpa using hx,by simpa using hy⟩
theorem Qna {n:Nat} {ps:List (Int × Int)} (hok:Qap n ps=true):∀ a b,RelM.bit (Qm n ps) a b=true→a < n∧b < n:=fun a b h=>Qiw hok _ ((Qef n ps hok a b).1 h)
theorem Qco {n:Nat} {ps:List (Int × Int)} (hok:Qap n ps=true) (a b:Nat) (ha:a < n):mat (Qan n ps) a b=true↔RelM.Reach (fun x y=>(x,y) ∈ natP ps) a b:=by
 unfold mat Qan
 rw [show ((List.range n).map (Qiv n ps)).getD a []=Qiv n ps a by simp [List.getD,ha]]
 exact RelM.rounds_reach n (natP ps) (Qiw hok) a ha b
theorem Qoz {n:Nat} {ps:List (Int × Int)} (hok:Qap n ps=true) (a b:Nat) (ha:a < n):RelM.bit (RelM.close (Qm n ps)) a b=true↔RelM.Reach (fun x y=>(x,y) ∈ natP ps) a b:=by
 have hl:=Qac n ps
 rw [RelM.close_reach (Qm n ps) (fun x y h=>by rw [hl]; exact (Qna hok x y h).2) a b (by omega)]
 constructor
 ·exact RelM.Reach.mono fun x y h=>(Qef n ps hok x y).1 h.2
 ·exact RelM.Reach.mono fun x y h=>⟨by rw [hl]; exact (Qiw hok _ h).1,(Qef n ps hok x y).2 h⟩
theorem Qlw {n:Nat} {ps:List (Int × Int)} (hok:Qap n ps=true) (a b:Nat) (ha:a < n):RelM.bit (RelM.close (Qm n ps)) a b=mat (Qan n ps) a b:=by
 rw [Bool.eq_iff_iff,Qoz hok a b ha,Qco hok a b ha]
theorem Qq3 (rs:List Nat) (a b:Nat):Qag rs a b=(decide (a < rs.length∧b < rs.length) && RelM.bit rs a b):=by
 unfold Qag RelM.bit
 simp only [Int.toNat_natCast]
 congr 1
 rw [Bool.eq_iff_iff,decide_eq_true_eq,decide_eq_true_eq]
 omega
theorem Qce {n:Nat} {ps:List (Int × Int)} (hok:Qap n ps=true) (a b:Nat) (ha:a < n) (hb:b < n):Qag (RelM.close (Qm n ps)) a b=mat (Qan n ps) a b:=by
 rw [Qq3,RelM.close_length,Qac,Qlw hok a b ha]
 simp [ha,hb]
theorem Qby (n:Nat) (ps:List (Int × Int)):(Qan n ps).length=n:=by simp [Qan]
theorem Qey (rs:List Nat) (a k j:Nat):(backTo rs a k).testBit j=(decide (j < k) && backB rs a j):=by
 induction k with
 | zero=>simp [backTo]
 | succ k ih =>
  simp only [backTo]
  by_cases h:backB rs a k=true
  ·rw [if_pos h,Nat.testBit_or,ih,Nat.one_shiftLeft,Nat.testBit_two_pow]
   by_cases e:j=k
   ·subst e; simp [h]
   ·have:(decide (j < k + 1))=decide (j < k):=by rw [Bool.eq_iff_iff,decide_eq_true_eq,decide_eq_true_eq]; omega
    simp [this,Ne.symm e]
  ·rw [if_neg h,ih]
   by_cases e:j=k
   ·subst e; simp [h]
   ·have:(decide (j < k + 1))=decide (j < k):=by rw [Bool.eq_iff_iff,decide_eq_true_eq,decide_eq_true_eq]; omega
    simp [this]
theorem Qnb {n:Nat} {ps:List (Int × Int)} (hn:n≤64) (hok:Qap n ps=true) (a:Nat) (ha:a < n):Qcd (RelM.close (Qm n ps)) a=Qen (Qan n ps) a:=by
 have hl:(RelM.close (Qm n ps)).length=n:=by rw [RelM.close_length,Qac]
 have hbk:∀ j,j < n→backB (RelM.close (Qm n ps)) a j=(mat (Qan n ps) a j && mat (Qan n ps) j a):=fun j hj=>by
  unfold backB
  rw [Qce hok a j ha hj,Qce hok j a hj ha]
 have hrefl:mat (Qan n ps) a a=true:=(Qco hok a a ha).2 (.refl a)
 unfold Qcd
 rw [hl,Bool.eq_iff_iff,decide_eq_true_eq,OnesM.popc_two _ (Nat.lt_of_lt_of_le (Qfj _ _ _) (Nat.pow_le_pow_right (by omega) hn))]
 unfold Qen
 rw [List.any_eq_true,Qby]
 constructor
 ·rintro ⟨i,j,hij,h1,h2⟩
  rw [Qey] at h1 h2
  simp only [Bool.and_eq_true,decide_eq_true_eq] at h1 h2
  rw [hbk i h1.1,Bool.and_eq_true] at h1
  rw [hbk j h2.1,Bool.and_eq_true] at h2
  by_cases e:a=i
  ·exact ⟨j,List.mem_range.2 h2.1,by simp [h2.2]; omega⟩
  ·exact ⟨i,List.mem_range.2 h1.1,by simp [h1.2]; omega⟩
 ·rintro ⟨b,hb,h⟩
  have hb':=List.mem_range.1 hb
  simp only [Bool.and_eq_true,bne_iff_ne,ne_eq] at h
  have k1:(backTo (RelM.close (Qm n ps)) a n).testBit a=true:=by rw [Qey,hbk a ha]; simp [ha,hrefl]
  have k2:(backTo (RelM.close (Qm n ps)) a n).testBit b=true:=by rw [Qey,hbk b hb']; simp [hb',h.1.2,h.2]
  rcases Nat.lt_trichotomy a b with q | q | q
  ·exact ⟨a,b,q,k1,k2⟩
  ·exact absurd q h.1.1
  ·exact ⟨b,a,q,k2,k1⟩
theorem Qnc {l:List Nat} {p q:Nat→Bool} (h:∀ i,i ∈ l→p i=q i):l.find? p=l.find? q:=by
 induction l with
 | nil=>rfl
 | cons x l ih =>
  rw [List.find?_cons,List.find?_cons,h x (by simp),ih (fun i hi=>h i (by simp [hi]))]
theorem Qsb {n:Nat} {ps:List (Int × Int)} (hn:n≤64) (hok:Qap n ps=true):Qct (RelM.close (Qm n ps))=Qb3 (Qan n ps):=by
 unfold Qct Qb3
 rw [RelM.close_length,Qac,Qby]
 exact Qnc fun i hi=>Qnb hn hok i (List.mem_range.1 hi)
theorem Qsz {n:Nat} {ps:List (Int × Int)} (_hok:Qap n ps=true) (h:Qb3 (Qan n ps)=none) (a b:Nat) (ha:a < n) (hb:b < n) (hne:a≠b) (h1:mat (Qan n ps) a b=true):mat (Qan n ps) b a=false:=by
 unfold Qb3 at h
 rw [List.find?_eq_none,Qby] at h
 have:=h a (List.mem_range.2 ha)
 cases h2:mat (Qan n ps) b a
 ·rfl
 ·exact absurd (Qls (by rw [Qby]; exact hb) hne h1 h2) this
def Qez (n:Nat):List Value:=Value.slice none 0 0 :: .pointer none :: .pointer none :: List.replicate n (.int .i64 0)
theorem Qkf (n:Nat):(Qez n).length=n + 3:=by simp [Qez]
theorem Qo0 (n:Nat):(Qez n)[2]? = some (.pointer none):=rfl
theorem Qq4 {n i:Nat} (h:i < n):(Qez n)[3 + i]? = some (.int .i64 0):=by
 unfold Qez
 rw [show 3 + i=i + 1 + 1 + 1 by omega,gS,gS,gS,List.getElem?_replicate,if_pos h]
theorem Qq5:((Tryz.prog.info? 119).bind (·.zero)).map (fun z=>z.cells.toList)=some (Qez 2048):=by kernel_rfl
theorem Qnd:(match Tryz.prog.underlying 119 with | some (.struct fields)=>(fields.toList.mapM fun f=>(Tryz.prog.info? f.type).map fun i=>(f.offset,i.size)) | _=>none)=some [(0,1),(1,1),(2,1),(3,1024),(1027,1024)]:=by kernel_rfl
theorem Qo1 (a b:Value) (ha:a.cells=#[a]) (hb:b.cells=#[b]):∃ cs:Array Value,Tryz.prog.built 119 [(0,a),(1,b)]=some cs∧cs.size=2051∧cs[0]? = some a∧cs[1]? = some b∧cs[2]? = some (.pointer none)∧∀ i,i < 2048→cs[3 + i]? = some (.int .i64 0):=by
 have hz:=Qq5
 have hp:=Qnd
 have hl:=Qkf 2048
 have h2:=Qo0 2048
 have h3:=fun i (h:i < 2048)=>Qq4 h
 generalize Qez 2048=Z at hz hl h2 h3
 cases hi:Tryz.prog.info? 119 with
 | none=>rw [hi] at hz; cases hz
 | some it =>
  rw [hi] at hz
  cases hu:Tryz.prog.underlying 119 with
  | none=>rw [hu] at hp; cases hp
  | some d =>
   rw [hu] at hp
   cases d with
   | struct fields =>
    cases hzz:it.zero with
    | none=>simp [hzz] at hz
    | some z =>
     simp only [hzz,Option.bind_some,Option.map_some,Option.some.injEq] at hz
     subst hz
     have hsz:z.cells.size=2051:=by rw [← Array.length_toList,hl]
     refine ⟨(z.cells.setIfInBounds 0 a).setIfInBounds 1 b,?_,by simp [hsz],?_,?_,?_,?_⟩
     ·unfold Program.built
      simp only [hi,hu,hzz]
      simp only [] at hp
      rw [hp]
      simp [Instr.fill,ha,hb,hsz]
     ·rw [Array.getElem?_setIfInBounds,if_neg (by decide),Array.getElem?_setIfInBounds,if_pos rfl,if_pos (by omega)]
     ·rw [Array.getElem?_setIfInBounds,if_pos rfl,if_pos (by simp [hsz])]
     ·rw [Array.getElem?_setIfInBounds,if_neg (by decide),Array.getElem?_setIfInBounds,if_neg (by decide),← Array.getElem?_toList,h2]
     ·intro i hi'
      rw [Array.getElem?_setIfInBounds,if_neg (by omega),Array.getElem?_setIfInBounds,if_neg (by omega),← Array.getElem?_toList,h3 i hi']
   | _=>cases hp
end Go.Proofs.YtanpljalbijfkaaGreat
