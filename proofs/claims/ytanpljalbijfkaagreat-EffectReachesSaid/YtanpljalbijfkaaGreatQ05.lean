/- . -/
import Derived.Test.YtanpljalbijfkaaGreatQ00
import Derived.Test.YtanpljalbijfkaaGreatRows
namespace Go.Proofs.YtanpljalbijfkaaGreat
open Go.RowKit
set_option maxHeartbeats 16000000
abbrev u64v (r:Nat):Value:=.int .u64 (r:Int)
def RelAt (w:World) (b:Nat) (rs:List Nat):Prop:=∃ A c,Blk w b 160 #[.slice A rs.length c]∧w.ownsRow 0 157 1 (.slice A rs.length c) rs.length (rs.map u64v)∧rs.length≤64∧∀ r ∈ rs,r < 18446744073709551616
theorem Qjd {rs:List Nat} {B:Nat} (h:∀ r ∈ rs,r < B) (hB:0 < B) {n:Nat} : rs.getD n 0 < B:=by
 by_cases hn:n < rs.length
 ·simp only [List.getD,List.getElem?_eq_getElem hn,Option.getD_some];exact h _ (List.getElem_mem hn)
 ·simp only [List.getD,List.getElem?_eq_none (Nat.le_of_not_lt hn),Option.getD_none];exact hB
def Qad (rs:List Nat) (a b:Int):Bool:=decide (0≤a∧a < rs.length∧0≤b∧b < rs.length) && (rs.getD a.toNat 0).testBit b.toNat
theorem Qkz {w:World} {base:Nat} {e:TypeId} {A:Option Addr} {n c:Nat} {xs:List Value} (h:w.ownsRow base e 1 (.slice A n c) n xs) (hn:0 < n) :
  ∃ g,A=some ⟨g,0,none⟩∧base≤g∧(∀ j,j < n→w.cell? ⟨g,j,none⟩=xs[j]?)∧∀ j,w.frozen? ⟨g,j,none⟩=false:=by
 have hl:=h.lt;rcases h.2 with ⟨_,h0⟩ | ⟨g,cap,cur,hv,hg,_⟩
 ·omega
 ·injection hv with h1 h2 h3
  subst h1; subst h3;exact ⟨g,rfl,hg,fun j hj=>h.cellAt j (by omega),fun j=>h.frozenAt j⟩
theorem Qr6 {w:World} {A:Option Addr} {c:Nat} {rs:List Nat} {e:TypeId} (h:w.ownsRow 0 e 1 (.slice A rs.length c) rs.length (rs.map u64v)) (n:Nat) (hn:n < rs.length) :
  ∃ g,A=some ⟨g,0,none⟩∧w.cell? ⟨g,n,none⟩=some (u64v (rs.getD n 0)):=by
 obtain ⟨g,hA,_,hc,_⟩:=Qkz h (by omega)
 exact ⟨g,hA,by rw [hc n hn]; simp [List.getD,hn]⟩
theorem Qif (b:Nat) (rs:List Nat) (w:World) (h:RelAt w b rs) :
  Calls Tryz.prog 85 #[.pointer (some ⟨b,0,none⟩)] w fun e w'=>e = .returned (.int .i64 rs.length)∧w=w':=by
 obtain ⟨A,c,hb,_,_⟩:=h;have hc:=hb.cell 0;simp at hc
 go_enter Tryz.func85,Tryz.ntmps85
 go_wp2
 go_ret
 exact ⟨rfl,rfl⟩
theorem Qdk (b:Nat) (rs:List Nat) (w:World) (h:RelAt w b rs) (x y:Int) :
  Calls Tryz.prog 52 #[.pointer (some ⟨b,0,none⟩),.int .i64 x,.int .i64 y] w fun e w'=>e = .returned (.bool (Qad rs x y))∧w=w':=by
 obtain ⟨A,c,hb,ho,hl,hr⟩:=h;have hlen:=Qif b rs w ⟨A,c,hb,ho,hl,hr⟩;have hc:=hb.cell 0;simp at hc
 have HL:=hide hlen;clear hlen;by_cases h0:0≤x
 ·by_cases h1:x < rs.length
  ·by_cases h2:0≤y
   ·by_cases h3:y < rs.length
    ·obtain ⟨n,rfl⟩:=Int.eq_ofNat_of_zero_le h0;obtain ⟨m,rfl⟩:=Int.eq_ofNat_of_zero_le h2;obtain ⟨g,rfl,hx⟩:=Qr6 ho n (by omega)
     obtain ⟨r,hr'⟩:=V1 (rs.getD n 0);rw [← hr'] at hx;have HR:=hide hr';have HW:=hide (show r < 18446744073709551616 by rw [hr']; exact Qjd hr (by omega))
     clear hr' hr ho hb;go_enter Tryz.func52,Tryz.ntmps52
     go_wp2_with (go_at_call 85; refine HL.out.mono ?_; rintro e w' ⟨rfl,rfl⟩)
     go_ret
     refine ⟨?_,rfl⟩;refine Qb (Eq.trans (Qnx r m HW.out) ?_);rw [HR.out];simp [Qad]
     omega
    ·go_enter Tryz.func52,Tryz.ntmps52
     go_wp2_with (go_at_call 85; refine HL.out.mono ?_; rintro e w' ⟨rfl,rfl⟩)
     go_ret
     exact ⟨by simp [Qad]; omega,rfl⟩
   ·go_enter Tryz.func52,Tryz.ntmps52
    go_wp2_with (go_at_call 85; refine HL.out.mono ?_; rintro e w' ⟨rfl,rfl⟩)
    go_ret
    exact ⟨by simp [Qad]; omega,rfl⟩
  ·go_enter Tryz.func52,Tryz.ntmps52
   go_wp2_with (go_at_call 85; refine HL.out.mono ?_; rintro e w' ⟨rfl,rfl⟩)
   go_ret
   exact ⟨by simp [Qad]; omega,rfl⟩
 ·go_enter Tryz.func52,Tryz.ntmps52
  go_wp2
  go_ret
  exact ⟨by simp [Qad]; omega,rfl⟩
end Go.Proofs.YtanpljalbijfkaaGreat
namespace Go.Proofs.YtanpljalbijfkaaGreat.RelM
inductive Reach (E:Nat→Nat→Prop):Nat→Nat→Prop
 | refl (a:Nat):Reach E a a
 | step {a b c:Nat} : Reach E a b→E b c→Reach E a c
theorem Reach.trans {E:Nat→Nat→Prop} {a b c:Nat} (h:Reach E a b) (k:Reach E b c):Reach E a c:=by
 induction k with
 | refl=>exact h
 | step _ e ih=>exact .step ih e
theorem Reach.one {E:Nat→Nat→Prop} {a b:Nat} (h:E a b):Reach E a b:=.step (.refl a) h
theorem Reach.mono {E F:Nat→Nat→Prop} (hEF:∀ a b,E a b→F a b) {a b:Nat} (h:Reach E a b):Reach F a b:=by
 induction h with
 | refl=>exact .refl _
 | step _ e ih=>exact .step ih (hEF _ _ e)
theorem Reach.inside {E:Nat→Nat→Prop} {n:Nat} (hE:∀ a b,E a b→a < n∧b < n) {a b:Nat} (h:Reach E a b) (ha:a < n):b < n:=by
 induction h with
 | refl=>exact ha
 | step _ e _=>exact (hE _ _ e).2
def bit (rs:List Nat) (a b:Nat):Bool:=(rs.getD a 0).testBit b
theorem bit_set (rs:List Nat) (k x a b:Nat) (hk:k < rs.length):bit (rs.set k x) a b=if a=k then x.testBit b else bit rs a b:=by
 unfold bit;by_cases h:a=k
 ·subst h; simp [List.getD,hk]
 ·simp [List.getD,h,Ne.symm h]
def innerTo (k:Nat) (rs:List Nat):Nat→List Nat
 | 0=>rs
 | j + 1 =>
  let s:=innerTo k rs j
  if bit s j k then s.set j (s.getD j 0 ||| s.getD k 0) else s
theorem innerTo_length (k:Nat) (rs:List Nat) (j:Nat):(innerTo k rs j).length=rs.length:=by
 induction j with
 | zero=>rfl
 | succ j ih=>simp only [innerTo]; split <;> simp [ih]
theorem innerTo_bit (k:Nat) (rs:List Nat) (_hk:k < rs.length) (j:Nat) (hj:j≤rs.length) (a b:Nat) :
  bit (innerTo k rs j) a b=(bit rs a b || (decide (a < j) && bit rs a k && bit rs k b)):=by
 induction j generalizing a b with
 | zero=>simp [innerTo]
 | succ j ih =>
  have ih':=ih (by omega)
  have hl:=innerTo_length k rs j;simp only [innerTo];have e1:bit (innerTo k rs j) j k=bit rs j k:=by rw [ih']; simp
  have e2:∀ b,bit (innerTo k rs j) k b=bit rs k b:=fun b=>by
   rw [ih'];cases h1:bit rs k b <;> simp
  by_cases hb:bit (innerTo k rs j) j k=true
  ·rw [if_pos hb,bit_set _ _ _ _ _ (by omega)]
   rw [e1] at hb;by_cases ha:a=j
   ·subst ha;rw [if_pos rfl,Nat.testBit_or];have h1:=ih' a b;have h2:=e2 b;unfold bit at h1 h2 hb ⊢;rw [h1,h2,hb];simp
   ·rw [if_neg ha,ih'];congr 3
    rw [Bool.eq_iff_iff]; simp; omega
  ·rw [if_neg hb,ih'];rw [e1] at hb;by_cases ha:a=j
   ·subst ha; simp [hb]
   ·congr 3
    rw [Bool.eq_iff_iff]; simp; omega
def closeTo (rs:List Nat):Nat→List Nat
 | 0=>rs
 | k + 1 =>
  let s:=closeTo rs k
  innerTo k (s.set k (s.getD k 0 ||| 1 <<< k)) rs.length
theorem closeTo_length (rs:List Nat) (k:Nat):(closeTo rs k).length=rs.length:=by
 induction k with
 | zero=>rfl
 | succ k ih=>simp [closeTo,innerTo_length,ih]
def close (rs:List Nat):List Nat:=closeTo rs rs.length
theorem close_length (rs:List Nat):(close rs).length=rs.length:=closeTo_length rs _
theorem set_own_bit (s:List Nat) (k:Nat) (hk:k < s.length) (a b:Nat):bit (s.set k (s.getD k 0 ||| 1 <<< k)) a b=(bit s a b || (decide (a=k) && decide (b=k))):=by
 rw [bit_set _ _ _ _ _ hk];by_cases ha:a=k
 ·subst ha;rw [if_pos rfl,Nat.testBit_or,Nat.one_shiftLeft,Nat.testBit_two_pow];unfold bit;by_cases hb:b=a
  ·subst hb; simp
  ·simp [hb,Ne.symm hb]
 ·simp [ha]
theorem closeTo_bit (rs:List Nat) (k:Nat) (hk:k < rs.length) (a b:Nat) (ha:a < rs.length) :
  bit (closeTo rs (k + 1)) a b=true ↔
   (bit (closeTo rs k) a b=true∨(a=k∧b=k))∨((bit (closeTo rs k) a k=true∨a=k)∧(bit (closeTo rs k) k b=true∨b=k)):=by
 have hl:=closeTo_length rs k;simp only [closeTo];rw [innerTo_bit k _ (by simp; omega) _ (by simp; omega)]
 rw [set_own_bit _ _ (by omega),set_own_bit _ _ (by omega),set_own_bit _ _ (by omega)]
 simp [ha]
theorem close_sound (rs:List Nat) (k:Nat) (hk:k≤rs.length):∀ a b,a < rs.length→bit (closeTo rs k) a b=true→Reach (fun x y=>x < rs.length∧bit rs x y=true) a b:=by
 induction k with
 | zero=>exact fun a b ha h=>.one ⟨ha,h⟩
 | succ k ih =>
  intro a b ha h;have ih':=ih (by omega)
  rcases (closeTo_bit rs k (by omega) a b ha).1 h with (h | ⟨rfl,rfl⟩) | ⟨h1,h2⟩
  ·exact ih' a b ha h
  ·exact .refl _
  ·have r1:Reach (fun x y=>x < rs.length∧bit rs x y=true) a k:=by
    rcases h1 with h1 | rfl
    ·exact ih' _ _ ha h1
    ·exact .refl _
   have r2:Reach (fun x y=>x < rs.length∧bit rs x y=true) k b:=by
    rcases h2 with h2 | rfl
    ·exact ih' _ _ (by omega) h2
    ·exact .refl _
   exact r1.trans r2
theorem close_has (rs:List Nat) (k:Nat) (hk:k≤rs.length) :
  (∀ a b,a < rs.length→bit rs a b=true→bit (closeTo rs k) a b=true) ∧
  (∀ a,a < k→bit (closeTo rs k) a a=true) ∧
  (∀ i a b,i < k→a < rs.length→bit (closeTo rs k) a i=true→bit (closeTo rs k) i b=true→bit (closeTo rs k) a b=true):=by
 induction k with
 | zero=>exact ⟨fun _ _ _ h=>h,fun a h=>absurd h (by omega),fun i _ _ h=>absurd h (by omega)⟩
 | succ k ih =>
  obtain ⟨i1,i2,i3⟩:=ih (by omega)
  have hk':k < rs.length:=by omega
  refine ⟨fun a b ha h=>(closeTo_bit rs k hk' a b ha).2 (.inl (.inl (i1 a b ha h))),fun a h=>?_,fun i a b hi ha h1 h2=>?_⟩
  ·by_cases e:a=k
   ·exact (closeTo_bit rs k hk' a a (by omega)).2 (.inl (.inr ⟨e,e⟩))
   ·exact (closeTo_bit rs k hk' a a (by omega)).2 (.inl (.inl (i2 a (by omega))))
  ·have c1:=(closeTo_bit rs k hk' a i ha).1 h1;have c2:=(closeTo_bit rs k hk' i b (by omega)).1 h2
   refine (closeTo_bit rs k hk' a b ha).2 ?_;by_cases e:i=k
   ·subst e;have d1:bit (closeTo rs i) a i=true∨a=i:=by
     rcases c1 with (c | c) | c
     ·exact .inl c
     ·exact .inr c.1
     ·exact c.1
    have d2:bit (closeTo rs i) i b=true∨b=i:=by
     rcases c2 with (c | c) | c
     ·exact .inl c
     ·exact .inr c.2
     ·exact c.2
    exact .inr ⟨d1,d2⟩
   ·have hi':i < k:=by omega
    have t:=fun x y hx=>i3 i x y hi' hx
    rcases c1 with (c | c) | ⟨c,c'⟩
    ·rcases c2 with (d | d) | ⟨d,d'⟩
     ·exact .inl (.inl (t a b ha c d))
     ·exact absurd d.1 e
     ·rcases d with d | d
      ·exact .inr ⟨.inl (t a k ha c d),d'⟩
      ·exact absurd d e
    ·exact absurd c.2 e
    ·rcases c' with c' | c'
     ·rcases c2 with (d | d) | ⟨d,d'⟩
      ·exact .inr ⟨c,.inl (t k b hk' c' d)⟩
      ·exact absurd d.1 e
      ·exact .inr ⟨c,d'⟩
     ·exact absurd c' e
theorem close_reach (rs:List Nat) (hin:∀ a b,bit rs a b=true→b < rs.length) (a b:Nat) (ha:a < rs.length) :
  bit (close rs) a b=true↔Reach (fun x y=>x < rs.length∧bit rs x y=true) a b:=by
 refine ⟨close_sound rs rs.length nL a b ha,fun h=>?_⟩
 obtain ⟨h1,h2,h3⟩:=close_has rs rs.length nL;induction h with
 | refl=>exact h2 a ha
 | step r e ih=>exact h3 _ _ _ (Reach.inside (fun x y hxy=>⟨hxy.1,hin _ _ hxy.2⟩) r ha) ha ih (h1 _ _ e.1 e.2)
def relax (ps:List (Nat × Nat)) (r:List Bool):List Bool:=ps.foldl (fun r p=>if r.getD p.1 false then r.set p.2 true else r) r
def relaxN (ps:List (Nat × Nat)) (r:List Bool):Nat→List Bool
 | 0=>r
 | k + 1=>relax ps (relaxN ps r k)
def le (r s:List Bool):Prop:=r.length=s.length∧∀ b,r.getD b false=true→s.getD b false=true
theorem le_rfl (r:List Bool):le r r:=⟨rfl,fun _ h=>h⟩
theorem le_trans {r s t:List Bool} (h:le r s) (k:le s t):le r t:=⟨h.1.trans k.1,fun b hb=>k.2 b (h.2 b hb)⟩
theorem getD_set (r:List Bool) (k:Nat) (b:Nat):(r.set k true).getD b false=(r.getD b false || (decide (b=k) && decide (k < r.length))):=by
 by_cases h:b=k
 ·subst h;by_cases hl:b < r.length
  ·simp [List.getD,hl]
  ·simp [List.getD,hl]
 ·simp [List.getD,h,Ne.symm h]
theorem one_le (r:List Bool) (p:Nat × Nat):le r (if r.getD p.1 false then r.set p.2 true else r):=by
 split
 ·exact ⟨by simp,fun b hb=>by rw [getD_set,hb]; rfl⟩
 ·exact le_rfl r
theorem relax_le (ps:List (Nat × Nat)) (r:List Bool):le r (relax ps r):=by
 induction ps generalizing r with
 | nil=>exact le_rfl r
 | cons p ps ih=>exact le_trans (one_le r p) (ih _)
theorem relaxN_length (ps:List (Nat × Nat)) (r:List Bool) (k:Nat):(relaxN ps r k).length=r.length:=by
 induction k with
 | zero=>rfl
 | succ k ih=>exact (relax_le ps _).1.symm.trans ih
theorem le_antisymm {r s:List Bool} (h:le r s) (k:le s r):r=s:=by
 apply List.ext_getElem h.1
 intro i h1 h2;have a:=h.2 i;have b:=k.2 i;simp only [List.getD,List.getElem?_eq_getElem h1,List.getElem?_eq_getElem h2,Option.getD_some] at a b;cases hr:r[i] <;> cases hs:s[i] <;> simp_all
def cnt (r:List Bool):Nat:=r.countP id
theorem cnt_le {r s:List Bool} (h:le r s):cnt r≤cnt s∧(cnt r=cnt s→r=s):=by
 obtain ⟨hl,hb⟩:=h;induction r generalizing s with
 | nil =>
  have:s = []:=by simpa using hl.symm
  subst this;exact ⟨Nat.le_refl _,fun _=>rfl⟩
 | cons x r ih =>
  cases s with
  | nil=>simp at hl
  | cons y s =>
   have h':=ih (s:=s) (by simpa using hl) (fun b hb'=>by simpa using hb (b + 1) (by simpa using hb'))
   have h0:=hb 0;simp at h0
   unfold cnt at h' ⊢;cases x <;> cases y <;> simp_all
   omega
theorem fix_of_eq (ps:List (Nat × Nat)) (r:List Bool) (h:relax ps r=r):∀ p ∈ ps,r.getD p.1 false=true→p.2 < r.length→r.getD p.2 false=true:=by
 induction ps with
 | nil=>intro p hp; cases hp
 | cons q ps ih =>
  have h1:=one_le r q;have h2:le (if r.getD q.1 false then r.set q.2 true else r) r:=by
   have:=relax_le ps (if r.getD q.1 false then r.set q.2 true else r)
   have e:relax ps (if r.getD q.1 false then r.set q.2 true else r)=r:=h;rwa [e] at this
  have e1:(if r.getD q.1 false then r.set q.2 true else r)=r:=(le_antisymm h1 h2).symm;have h':relax ps r=r:=by
   have e:relax ps (if r.getD q.1 false then r.set q.2 true else r)=r:=h;rwa [e1] at e
  intro p hp hp1 hp2;rcases List.mem_cons.1 hp with rfl | hp
  ·have:=h2.2 p.2
   rw [if_pos hp1,getD_set] at this;exact this (by simp [hp2])
  ·exact ih h' p hp hp1 hp2
theorem grow (ps:List (Nat × Nat)) (r:List Bool) (k:Nat):(∃ j,j < k∧relax ps (relaxN ps r j)=relaxN ps r j)∨cnt r + k≤cnt (relaxN ps r k):=by
 induction k with
 | zero=>exact .inr nL
 | succ k ih =>
  rcases ih with ⟨j,hj,h⟩ | h
  ·exact .inl ⟨j,by omega,h⟩
  ·by_cases e:relax ps (relaxN ps r k)=relaxN ps r k
   ·exact .inl ⟨k,by omega,e⟩
   ·have c:=cnt_le (relax_le ps (relaxN ps r k));right
    have:cnt (relaxN ps r k)≠cnt (relax ps (relaxN ps r k)):=fun q=>e (c.2 q).symm
    show _≤cnt (relax ps (relaxN ps r k))
    omega
theorem cnt_bound (r:List Bool):cnt r≤r.length:=List.countP_le_length
theorem relaxN_fix (ps:List (Nat × Nat)) (r:List Bool) (j:Nat) (h:relax ps (relaxN ps r j)=relaxN ps r j) (d:Nat):relaxN ps r (j + d)=relaxN ps r j:=by
 induction d with
 | zero=>rfl
 | succ d ih=>show relax ps (relaxN ps r (j + d))=_; rw [ih]; exact h
theorem rounds_fix (ps:List (Nat × Nat)) (r:List Bool) (hr:0 < cnt r):relax ps (relaxN ps r r.length)=relaxN ps r r.length:=by
 rcases grow ps r r.length with ⟨j,hj,h⟩ | h
 ·obtain ⟨d,hd⟩:∃ d,r.length=j + d:=⟨r.length - j,by omega⟩
  rw [hd,relaxN_fix ps r j h d];exact h
 ·have:=cnt_bound (relaxN ps r r.length)
  rw [relaxN_length] at this;omega
def start (n a:Nat):List Bool:=(List.replicate n false).set a true
theorem relax_sound (ps qs:List (Nat × Nat)) (P:Nat→Prop) (hP:∀ p ∈ ps,P p.1→P p.2) (r:List Bool) (h:∀ b,r.getD b false=true→P b) (hq:∀ p ∈ qs,p ∈ ps) :
  ∀ b,(relax qs r).getD b false=true→P b:=by
 induction qs generalizing r with
 | nil=>exact h
 | cons q qs ih =>
  refine ih _ (fun b hb=>?_) (fun p hp=>hq p (List.mem_cons_of_mem _ hp))
  dsimp only at hb
  split at hb
  ·rename_i hq1
   rw [getD_set] at hb;rcases Bool.or_eq_true _ _ ▸ hb with hb | hb
   ·exact h b hb
   ·simp at hb
    rw [hb.1];exact hP q (hq q List.mem_cons_self) (h _ hq1)
  ·exact h b hb
theorem relaxN_sound (ps:List (Nat × Nat)) (P:Nat→Prop) (hP:∀ p ∈ ps,P p.1→P p.2) (r:List Bool) (h:∀ b,r.getD b false=true→P b) (k:Nat) :
  ∀ b,(relaxN ps r k).getD b false=true→P b:=by
 induction k with
 | zero=>exact h
 | succ k ih=>exact relax_sound ps ps P hP _ ih (fun _ h=>h)
theorem rounds_reach (n:Nat) (ps:List (Nat × Nat)) (hp:∀ p ∈ ps,p.1 < n∧p.2 < n) (a:Nat) (ha:a < n) (b:Nat) :
  (relaxN ps (start n a) n).getD b false=true↔Reach (fun x y=>(x,y) ∈ ps) a b:=by
 have hs:∀ c,(start n a).getD c false=true↔c=a:=fun c=>by
  unfold start;rw [getD_set];by_cases hc:c < n
  ·simp [List.getD,ha,hc]
  ·simp [List.getD,ha,hc]
 have hc:0 < cnt (start n a):=by
  unfold cnt;rw [List.countP_pos_iff];refine ⟨true,?_,rfl⟩;unfold start;rw [List.mem_iff_getElem];exact ⟨a,by simpa using ha,by simp⟩
 have hf:=rounds_fix ps (start n a) hc;have hl:(start n a).length=n:=by simp [start]
 rw [hl] at hf;constructor
 ·exact relaxN_sound ps (fun c=>Reach (fun x y=>(x,y) ∈ ps) a c) (fun p hp' h=>.step h hp') _ (fun c hc'=>by rw [(hs c).1 hc']; exact .refl _) n b
 ·intro h;induction h with
  | refl =>
   have:le (start n a) (relaxN ps (start n a) n):=by
    clear hf;generalize n=m at hl ⊢
    have gen:∀ (r:List Bool) (k:Nat),le r (relaxN ps r k):=fun r k=>by
     induction k with
     | zero=>exact le_rfl r
     | succ k ih=>exact le_trans ih (relax_le ps _)
    exact gen _ _
   exact this.2 a ((hs a).2 rfl)
  | @step b c _ e ih =>
   exact fix_of_eq ps _ hf (b,c) e ih (by rw [relaxN_length,hl]; exact (hp _ e).2)
end Go.Proofs.YtanpljalbijfkaaGreat.RelM
namespace Go.Proofs.YtanpljalbijfkaaGreat
open Go.RowKit
set_option maxHeartbeats 16000000
def backB (rs:List Nat) (a b:Nat):Bool:=Qad rs a b && Qad rs b a
def backTo (rs:List Nat) (a:Nat):Nat→Nat
 | 0=>0
 | k + 1=>if backB rs a k then backTo rs a k ||| 1 <<< k else backTo rs a k
theorem Qf2 (rs:List Nat) (a k:Nat):backTo rs a k < 2 ^ k:=by
 induction k with
 | zero=>simp [backTo]
 | succ k ih =>
  simp only [backTo];have:2 ^ k < 2 ^ (k + 1):=Nat.pow_lt_pow_right (by omega) (by omega)
  split
  ·exact Nat.or_lt_two_pow (by omega) (by rw [Nat.one_shiftLeft]; exact this)
  ·omega
theorem Qtr {x k:Nat} (h:x < 2 ^ k) (hk:k≤64):x < 18446744073709551616 :=
 Nat.lt_of_lt_of_le h (Nat.le_trans (Nat.pow_le_pow_right (by omega) hk) (by decide))
theorem Qms (b:Nat) (rs:List Nat) (w:World) (h:RelAt w b rs) (a:Nat) :
  Calls Tryz.prog 100 #[.pointer (some ⟨b,0,none⟩),.int .i64 a] w fun e w'=>e = .returned (.int .u64 (backTo rs a rs.length))∧w=w':=by
 have HH:=hide (fun x y=>Qdk b rs w h x y)
 obtain ⟨A,c,hb,ho,hl,hr⟩:=h;have hc:=hb.cell 0;simp at hc
 clear hr ho hb;go_enter Tryz.func100,Tryz.ntmps100
 go_wp2
 go_loop [12,5] (fun i r=>∃ k:Nat,k≤rs.length∧i = .int .i64 k∧r = .int .u64 (backTo rs a k)) (fun i _=>rs.length - (intOf i).toNat)
 case atStart=>exact ⟨0,Nat.zero_le _,rfl,rfl⟩
 case round =>
  obtain ⟨k,hk,rfl,rfl⟩:=hrel;go_wp2_with (go_at_call 52; refine (HH.out _ _).mono ?_; rintro e w' ⟨rfl,rfl⟩)
  ·have h1:Qad rs a k=true:=by assumption
   have h2:Qad rs k a=true:=by assumption
   go_round
   case rel =>
    refine ⟨k + 1,by omega,by go_num,?_⟩
    rw [Qkt _ k (Qtr (Qf2 rs a k) (by omega)) (by omega)]
    simp [backTo,backB,h1,h2]
   case measure=>simp [intOf]; omega
  ·have h2:Qad rs k a=false:=by assumption
   go_round
   case rel=>exact ⟨k + 1,by omega,by go_num,by simp [backTo,backB,h2]⟩
   case measure=>simp [intOf]; omega
  ·have h2:¬ Qad rs a k=true:=by assumption
   go_round
   case rel=>exact ⟨k + 1,by omega,by go_num,by simp [backTo,backB,h2]⟩
   case measure=>simp [intOf]; omega
  ·obtain rfl:k=rs.length:=by omega
   go_ret
   exact ⟨rfl,rfl⟩
end Go.Proofs.YtanpljalbijfkaaGreat
namespace Go.Proofs.YtanpljalbijfkaaGreat.OnesM
def ofD (s:Nat):List Nat→Nat
 | []=>0
 | d :: l=>d + 2 ^ s * ofD s l
def pair:List Nat→List Nat
 | a :: b :: l=>(a + b) :: pair l
 | _=>[]
def mask (s:Nat):Nat→Nat
 | 0=>0
 | n + 1=>(2 ^ s - 1) + 2 ^ (2 * s) * mask s n
theorem and_split (s d e x y:Nat) (hd:d < 2 ^ s) (he:e < 2 ^ s):(d + 2 ^ s * x) &&& (e + 2 ^ s * y)=(d &&& e) + 2 ^ s * (x &&& y):=by
 have hde:d &&& e < 2 ^ s:=Nat.lt_of_le_of_lt Nat.and_le_left hd;apply Nat.eq_of_testBit_eq
 intro i;rw [Nat.testBit_and,Nat.add_comm d,Nat.add_comm e,Nat.add_comm (d &&& e),Nat.testBit_two_pow_mul_add _ hd,Nat.testBit_two_pow_mul_add _ he,Nat.testBit_two_pow_mul_add _ hde];split <;> simp
theorem two_mul_pow (s:Nat):2 ^ (2 * s)=2 ^ s * 2 ^ s:=by rw [← Nat.pow_add]; congr 1; omega
theorem and_low (s d q:Nat) (hd:d < 2 ^ s):(d + 2 ^ s * q) &&& (2 ^ s - 1)=d:=by
 rw [Nat.and_two_pow_sub_one_eq_mod,Nat.add_mul_mod_self_left,Nat.mod_eq_of_lt hd]
theorem step_and (s:Nat) (n:Nat):∀ l:List Nat,l.length=2 * n→(∀ d ∈ l,d < 2 ^ s) →
  ((ofD s l / 2 ^ s) &&& mask s n) + (ofD s l &&& mask s n)=ofD (2 * s) (pair l):=by
 induction n with
 | zero=>intro l hl _; obtain rfl:l = []:=List.eq_nil_of_length_eq_zero (by omega); simp [mask,pair,ofD]
 | succ n ih =>
  intro l hl hd;match l,hl,hd with
  | d0 :: d1 :: l,hl,hd =>
   have h0:d0 < 2 ^ s:=hd d0 (by simp)
   have h1:d1 < 2 ^ s:=hd d1 (by simp)
   have ih':=ih l (by simp at hl; omega) (fun d h=>hd d (by simp [h]))
   have hp:0 < 2 ^ s:=Nat.two_pow_pos s;have hs2:=two_mul_pow s;simp only [ofD,pair,mask];generalize hX:ofD s l=X at ih' ⊢
   have hlow:2 ^ s - 1 < 2 ^ (2 * s):=by
    have:2 ^ s≤2 ^ (2 * s):=Nat.pow_le_pow_right (by omega) (by omega)
    omega
   have e1:(d0 + 2 ^ s * (d1 + 2 ^ s * X)) / 2 ^ s=(d1 + 2 ^ s * (X % 2 ^ s)) + 2 ^ (2 * s) * (X / 2 ^ s):=by
    rw [Nat.add_mul_div_left _ _ hp,Nat.div_eq_of_lt h0,Nat.zero_add,hs2,Nat.mul_assoc,Nat.add_assoc,← Nat.mul_add,Nat.mod_add_div]
   have e2:d0 + 2 ^ s * (d1 + 2 ^ s * X)=(d0 + 2 ^ s * d1) + 2 ^ (2 * s) * X:=by
    rw [hs2,Nat.mul_add,Nat.mul_assoc,Nat.add_assoc]
   have b1:d1 + 2 ^ s * (X % 2 ^ s) < 2 ^ (2 * s):=by
    rw [hs2];have:X % 2 ^ s < 2 ^ s:=Nat.mod_lt _ hp
    have:2 ^ s * (X % 2 ^ s)≤2 ^ s * (2 ^ s - 1):=Nat.mul_le_mul_left _ (by omega)
    rw [Nat.mul_sub,Nat.mul_one] at this;have:2 ^ s≤2 ^ s * 2 ^ s:=Nat.le_mul_of_pos_left _ hp
    omega
   have b2:d0 + 2 ^ s * d1 < 2 ^ (2 * s):=by
    rw [hs2];have:2 ^ s * d1≤2 ^ s * (2 ^ s - 1):=Nat.mul_le_mul_left _ (by omega)
    rw [Nat.mul_sub,Nat.mul_one] at this;have:2 ^ s≤2 ^ s * 2 ^ s:=Nat.le_mul_of_pos_left _ hp
    omega
   rw [e1,e2,and_split _ _ _ _ _ b1 hlow,and_split _ _ _ _ _ b2 hlow,and_low _ _ _ h1,and_low _ _ _ h0,← ih',Nat.mul_add];omega
theorem step_add (n:Nat):∀ l:List Nat,l.length=2 * n→(∀ d ∈ l,d≤4) →
  ((ofD 4 l / 16 + ofD 4 l) &&& mask 4 n)=ofD 8 (pair l):=by
 induction n with
 | zero=>intro l hl _; obtain rfl:l = []:=List.eq_nil_of_length_eq_zero (by omega); simp [mask,pair,ofD]
 | succ n ih =>
  intro l hl hd;match l,hl,hd with
  | d0 :: d1 :: l,hl,hd =>
   have h0:d0≤4:=hd d0 (by simp)
   have h1:d1≤4:=hd d1 (by simp)
   have ih':=ih l (by simp at hl; omega) (fun d h=>hd d (by simp [h]))
   simp only [ofD,pair,mask];have hX:∃ d2 Y,d2≤4∧ofD 4 l=d2 + 16 * Y:=by
    match l,hd with
    | [],_=>exact ⟨0,0,by omega,rfl⟩
    | d :: l,hd=>exact ⟨d,ofD 4 l,hd d (by simp),rfl⟩
   obtain ⟨d2,Y,h2,hY⟩:=hX;rw [hY] at ih' ⊢;have e1:(d0 + 2 ^ 4 * (d1 + 2 ^ 4 * (d2 + 16 * Y))) / 16 + (d0 + 2 ^ 4 * (d1 + 2 ^ 4 * (d2 + 16 * Y)))=((d0 + d1) + 2 ^ 4 * (d1 + d2)) + 2 ^ 8 * ((d2 + 16 * Y) / 16 + (d2 + 16 * Y)):=by omega
   rw [e1,show 2 * 4=8 from rfl,and_split 8 _ _ _ _ (by omega) (by omega),ih',and_low 4 _ _ (by omega)]
theorem sum_pair (n:Nat):∀ l:List Nat,l.length=2 * n→(pair l).sum=l.sum:=by
 induction n with
 | zero=>intro l hl; obtain rfl:l = []:=List.eq_nil_of_length_eq_zero (by omega); rfl
 | succ n ih =>
  intro l hl;match l,hl with
  | d0 :: d1 :: l,hl =>
   simp only [pair,List.sum_cons,ih l (by simp at hl; omega)]
   omega
theorem length_pair (n:Nat):∀ l:List Nat,l.length=2 * n→(pair l).length=n:=by
 induction n with
 | zero=>intro l hl; obtain rfl:l = []:=List.eq_nil_of_length_eq_zero (by omega); rfl
 | succ n ih =>
  intro l hl;match l,hl with
  | d0 :: d1 :: l,hl=>simp only [pair,List.length_cons,ih l (by simp at hl; omega)]
theorem le_pair (m:Nat):∀ (n:Nat) (l:List Nat),l.length=2 * n→(∀ d ∈ l,d≤m)→∀ d ∈ pair l,d≤2 * m:=by
 intro n;induction n with
 | zero=>intro l hl _; obtain rfl:l = []:=List.eq_nil_of_length_eq_zero (by omega); intro d hd; cases hd
 | succ n ih =>
  intro l hl hd;match l,hl,hd with
  | d0 :: d1 :: l,hl,hd =>
   intro d h;have a:=hd d0 (by simp)
   have b:=hd d1 (by simp)
   rcases List.mem_cons.1 h with rfl | h
   ·omega
   ·exact ih l (by simp at hl; omega) (fun d h=>hd d (by simp [h])) d h
theorem fold1 (x a b B C:Nat) (ha:a≤8) (hx:x=a + 256 * B) (hB:B=b + 256 * C):x / 256=B∧x + B=(a + b) + 256 * (B + C):=by omega
theorem fold2 (y p q Y:Nat) (hp:p≤16) (hq:q≤16) (hy:y=p + 256 * (q + 256 * Y)):y / 65536=Y:=by omega
theorem fold3 (z p q r s T:Nat) (hp:p≤32) (hq:q≤32) (hr:r≤32) (hs:s≤32) (hz:z=p + 256 * (q + 256 * (r + 256 * (s + 256 * T)))):z / 4294967296=T:=by omega
theorem fold4 (z p t U V n:Nat) (hz:z=p + 256 * V) (T:Nat) (hT:T=t + 256 * U) (hn:n=p + t) (h:n≤64):(z + T) % 128=n:=by omega
theorem last8' (a b c d e f g h:Nat) (ha:a≤8) (hb:b≤8) (hc:c≤8) (hd:d≤8) (he:e≤8) (hf:f≤8) (hg:g≤8) (hh:h≤8) (x:Nat)
  (hx:x=a + 2 ^ 8 * (b + 2 ^ 8 * (c + 2 ^ 8 * (d + 2 ^ 8 * (e + 2 ^ 8 * (f + 2 ^ 8 * (g + 2 ^ 8 * (h + 2 ^ 8 * 0)))))))) :
  ((x + x / 256 + (x + x / 256) / 65536) + (x + x / 256 + (x + x / 256) / 65536) / 4294967296) % 128=a + (b + (c + (d + (e + (f + (g + (h + 0))))))):=by
 obtain ⟨G,hG⟩:=V1 (g + 256 * h);obtain ⟨F,hF⟩:=V1 (f + 256 * G);obtain ⟨E,hE⟩:=V1 (e + 256 * F);obtain ⟨D,hD⟩:=V1 (d + 256 * E);obtain ⟨C,hC⟩:=V1 (c + 256 * D);obtain ⟨B,hB⟩:=V1 (b + 256 * C);have hx':x=a + 256 * B:=by rw [hx,hB,hC,hD,hE,hF,hG]; simp only [Nat.mul_zero,Nat.add_zero,show (2:Nat) ^ 8=256 from rfl]
 obtain ⟨q1,y1⟩:=fold1 x a b B C ha hx' hB;rw [q1];have yB:B + C=(b + c) + 256 * (C + D):=by omega
 have yC:C + D=(c + d) + 256 * (D + E):=by omega
 have yD:D + E=(d + e) + 256 * (E + F):=by omega
 have yE:E + F=(e + f) + 256 * (F + G):=by omega
 have yF:F + G=(f + g) + 256 * (G + h):=by omega
 have yG:G + h=(g + h) + 256 * h:=by omega
 rw [yB] at y1;clear hx hx' hB hC hD hE hF hG q1;have q2:=fold2 (x + B) (a + b) (b + c) (C + D) (by omega) (by omega) y1
 rw [q2,y1];clear y1 q2 yB;generalize C + D=CD at *
 generalize D + E=DE at *
 generalize E + F=EF at *
 generalize F + G=FG at *
 generalize G + h=GH at *
 have z1:(a + b) + 256 * ((b + c) + 256 * CD) + CD=(a + b + c + d) + 256 * ((b + c + d + e) + 256 * ((c + d + e + f) + 256 * ((d + e + f + g) + 256 * (EF + GH)))):=by omega
 have z2:EF + GH=(e + f + g + h) + 256 * (FG + h):=by omega
 rw [z1,fold3 _ _ _ _ _ _ (by omega) (by omega) (by omega) (by omega) rfl]
 exact fold4 _ _ _ _ _ _ rfl _ z2 (by omega) (by omega)
theorem last8 (l:List Nat) (hl:l.length=8) (hd:∀ d ∈ l,d≤8) :
  let x:=ofD 8 l
  let y:=x + x / 256
  let z:=y + y / 65536
  (z + z / 4294967296) % 128=l.sum∧x < 2 ^ 60∧l.sum≤64:=by
 match l,hl,hd with
 | [a,b,c,d,e,f,g,h],_,hd =>
  simp only [List.mem_cons,List.not_mem_nil,or_false,forall_eq_or_imp,forall_eq] at hd;obtain ⟨ha,hb,hc,hd,he,hf,hg,hh⟩:=hd;simp only [ofD,List.sum_cons,List.sum_nil];exact ⟨last8' a b c d e f g h ha hb hc hd he hf hg hh _ rfl,by omega,by omega⟩
def bitsOf (x:Nat):Nat→List Nat
 | 0=>[]
 | n + 1=>x % 2 :: bitsOf (x / 2) n
theorem bitsOf_length (x n:Nat):(bitsOf x n).length=n:=by
 induction n generalizing x with
 | zero=>rfl
 | succ n ih=>simp [bitsOf,ih]
theorem bitsOf_le (x n:Nat):∀ d ∈ bitsOf x n,d≤1:=by
 induction n generalizing x with
 | zero=>intro d h; cases h
 | succ n ih =>
  intro d h;rcases List.mem_cons.1 h with rfl | h
  ·omega
  ·exact ih _ d h
theorem ofD_bitsOf (x n:Nat) (hx:x < 2 ^ n):ofD 1 (bitsOf x n)=x:=by
 induction n generalizing x with
 | zero=>simp at hx; subst hx; rfl
 | succ n ih =>
  have:=ih (x / 2) (by rw [Nat.pow_succ] at hx; omega)
  simp only [bitsOf,ofD,this];omega
def popc (x:Nat):Nat:=(bitsOf x 64).sum
theorem m0:mask 1 32=6148914691236517205:=by decide +kernel
theorem m1:mask 2 16=3689348814741910323:=by decide +kernel
theorem m2:mask 4 8=1085102592571150095:=by decide +kernel
def s1 (x:Nat):Nat:=((x / 2) &&& 6148914691236517205) + (x &&& 6148914691236517205)
def s2 (x:Nat):Nat:=((x / 4) &&& 3689348814741910323) + (x &&& 3689348814741910323)
def s3 (x:Nat):Nat:=((x / 16) + x) &&& 1085102592571150095
theorem steps (x:Nat) (hx:x < 2 ^ 64):∃ l:List Nat,l.length=8∧(∀ d ∈ l,d≤8)∧s3 (s2 (s1 x))=ofD 8 l∧l.sum=popc x:=by
 have l0:=bitsOf_length x 64;have b0:=bitsOf_le x 64;have e0:=ofD_bitsOf x 64 hx;unfold popc;generalize bitsOf x 64=l at l0 b0 e0 ⊢
 have l1:=length_pair 32 l l0;have b1:=le_pair 1 32 l l0 b0;have e1:=step_and 1 32 l l0 (fun d h=>by have:=b0 d h; omega)
 have l2:=length_pair 16 _ l1;have b2:=le_pair 2 16 _ l1 b1;have e2:=step_and 2 16 _ l1 (fun d h=>by have:=b1 d h; omega)
 have l3:=length_pair 8 _ l2;have b3:=le_pair 4 8 _ l2 b2;have e3:=step_add 8 _ l2 b2;refine ⟨_,l3,b3,?_,by rw [sum_pair 8 _ l2,sum_pair 16 _ l1,sum_pair 32 _ l0]⟩
 rw [m0,e0] at e1;rw [m1] at e2;rw [m2] at e3;unfold s3 s2 s1;have e1':(x / 2 &&& 6148914691236517205) + (x &&& 6148914691236517205)=ofD 2 (pair l):=e1;rw [e1'];have e2':(ofD 2 (pair l) / 4 &&& 3689348814741910323) + (ofD 2 (pair l) &&& 3689348814741910323)=ofD 4 (pair (pair l)):=e2;rw [e2'];exact e3
theorem ones (x:Nat) (hx:x < 2 ^ 64) :
  let a:=s3 (s2 (s1 x))
  let y:=a + a / 256
  let z:=y + y / 65536
  (z + z / 4294967296) % 128=popc x∧a < 2 ^ 60∧popc x≤64:=by
 obtain ⟨l,h1,h2,h3,h4⟩:=steps x hx;rw [h3,← h4];exact last8 l h1 h2
theorem s1_lt (x:Nat):s1 x≤12297829382473034410:=by
 unfold s1;have:=@Nat.and_le_right (x / 2) 6148914691236517205
 have:=@Nat.and_le_right x 6148914691236517205
 omega
theorem s2_lt (x:Nat):s2 x≤7378697629483820646:=by
 unfold s2;have:=@Nat.and_le_right (x / 4) 3689348814741910323
 have:=@Nat.and_le_right x 3689348814741910323
 omega
theorem bitsOf_get (x n i:Nat) (hi:i < n):(bitsOf x n)[i]'(by rw [bitsOf_length]; exact hi)=(x.testBit i).toNat:=by
 induction n generalizing x i with
 | zero=>omega
 | succ n ih =>
  cases i with
  | zero=>simp [bitsOf,Nat.testBit_zero]; rcases Nat.mod_two_eq_zero_or_one x with h | h <;> simp [h]
  | succ i =>
   simp only [bitsOf,gC];rw [ih _ _ (by omega),Nat.testBit_succ]
theorem mem_le_sum {l:List Nat} {d:Nat} (h:d ∈ l):d≤l.sum:=by
 induction l with
 | nil=>cases h
 | cons x l ih =>
  rw [List.sum_cons];rcases List.mem_cons.1 h with rfl | h
  ·omega
  ·have:=ih h; omega
theorem sum_two {l:List Nat} (h1:∀ d ∈ l,d≤1) (i j:Nat) (hij:i < j) (hj:j < l.length) (a:l[i]'(by omega)=1) (b:l[j]=1):1 < l.sum:=by
 induction l generalizing i j with
 | nil=>simp at hj
 | cons d l ih =>
  cases j with
  | zero=>omega
  | succ j =>
   have hj':j < l.length:=by simpa using hj
   have hb:l[j]=1:=by simpa using b
   cases i with
   | zero =>
    have hm:l[j]≤l.sum:=mem_le_sum (List.getElem_mem hj');have:d=1:=by simpa using a
    simp only [List.sum_cons];omega
   | succ i =>
    have:=ih (fun d h=>h1 d (by simp [h])) i j (by omega) hj' (by simpa using a) hb
    simp only [List.sum_cons];omega
theorem sum_le_one {l:List Nat} (h1:∀ d ∈ l,d≤1) (h:∀ i j (hi:i < l.length) (hj:j < l.length),l[i]=1→l[j]=1→i=j):l.sum≤1:=by
 induction l with
 | nil=>simp
 | cons d l ih =>
  have ih':=ih (fun d h=>h1 d (by simp [h])) (fun i j hi hj a b=>by
   have:=h (i + 1) (j + 1) (by simpa using hi) (by simpa using hj) (by simpa using a) (by simpa using b)
   omega)
  have hd:=h1 d (by simp)
  by_cases e:d=1
  ·have:l.sum=0:=by
    have hz:∀ x ∈ l,x=0:=by
     intro x hx;obtain ⟨i,hi,rfl⟩:=List.getElem_of_mem hx;have a:=h1 l[i] (by simp)
     by_cases e':l[i]=1
     ·have:=h 0 (i + 1) (by simp) (by simpa using hi) (by simpa using e) (by simpa using e')
      omega
     ·omega
    clear ih ih' h h1;induction l with
    | nil=>rfl
    | cons y l ih =>
     rw [List.sum_cons,hz y (by simp),ih (fun x hx=>hz x (by simp [hx]))]
   simp only [List.sum_cons];omega
  ·simp only [List.sum_cons];omega
theorem popc_two (x:Nat) (hx:x < 2 ^ 64):1 < popc x↔∃ i j,i < j∧x.testBit i=true∧x.testBit j=true:=by
 have hlt:∀ i,x.testBit i=true→i < 64:=fun i h=>by
  rcases Nat.lt_or_ge i 64 with h' | h'
  ·exact h'
  ·rw [Nat.testBit_lt_two_pow (Nat.lt_of_lt_of_le hx (Nat.pow_le_pow_right (by omega) h'))] at h
   cases h
 have hb:=bitsOf_le x 64;have hl:=bitsOf_length x 64;have hg:=bitsOf_get x 64;unfold popc;constructor
 ·intro h;rcases Classical.em (∃ i j,i < j∧x.testBit i=true∧x.testBit j=true) with h' | h'
  ·exact h'
  ·exfalso
   have:=sum_le_one hb (fun i j hi hj a b=>by
    rw [hg i (by omega)] at a
    rw [hg j (by omega)] at b
    have a':x.testBit i=true:=by cases h:x.testBit i <;> simp [h] at a ⊢
    have b':x.testBit j=true:=by cases h:x.testBit j <;> simp [h] at b ⊢
    rcases Nat.lt_trichotomy i j with q | q | q
    ·exact absurd ⟨i,j,q,a',b'⟩ h'
    ·exact q
    ·exact absurd ⟨j,i,q,b',a'⟩ h')
   omega
 ·rintro ⟨i,j,hij,a,b⟩;have:=hlt j b
  exact sum_two hb i j hij (by omega) (by rw [hg i (by omega),a]; rfl) (by rw [hg j (by omega),b]; rfl)
end Go.Proofs.YtanpljalbijfkaaGreat.OnesM
