/- Several texts in one, for FormValue.card: what the theorem leans on. -/
import Derived.Test.YthaegflpecbfgaaGreatDoorPx6
set_option maxHeartbeats 1000000
set_option maxRecDepth 1000000
namespace Go.Proofs.YthaegflpecbfgaaGreatDoor.D
open Go Rt M
theorem d6s(n:Nat)(a b:Big)(kont:Option Bool)(hl:a.Digits.length=b.Digits.length)(hla:a.Digits.length<1099511627776):∀(us:List Int)(i m:Nat),a.Digits.drop i=us->us.length<m->ref05_SameBig_L1 n a b kont m (i:Int)=bif decide (us=b.Digits.drop i)then kont else some false
 | [],i,m+1,hd,_=>by
  rw [ref05_SameBig_L1_s]
  have:=drop_nil hd
  have hb:b.Digits.drop i= []:=List.drop_eq_nil_of_le (by omega)
  rw [show decide ((i:Int)<(a.Digits.length:Int))=false by simp;omega,hb];rfl
 |x::xs,i,m+1,hd,hm=>by
  rw [ref05_SameBig_L1_s]
  obtain⟨f1,f2,f3⟩:=drop_cons hd
  have hdb:b.Digits.drop i=b.Digits[i]::b.Digits.drop (i+1):=List.drop_eq_getElem_cons (by omega)
  rw [show decide ((i:Int)<(a.Digits.length:Int))=true by simp;omega,cond_true,f1,Option.bind_some,(drop_cons hdb).1,Option.bind_some,hdb]
  by_cases h:x=b.Digits[i]
  ·rw [show(x !=b.Digits[i])=false by simp [h],cond_false,inc64 (by omega),d6s n a b kont hl hla xs (i+1) m f2 (by simpa using hm),e6x,show decide (x=b.Digits[i])=true by simpa using h,Bool.true_and]
  ·rw [show(x !=b.Digits[i])=true by simpa using h,cond_true,e6x,show decide (x=b.Digits[i])=false by simpa using h];rfl
 |_,_,0,_,h=>by omega
theorem d1u{a b:Big}(hl:a.Digits.length<1099511627776):Ev (fun n=>a6u n a b) (decide (a=b)):=by
 unfold a6u
 obtain⟨s,l⟩:=a
 obtain⟨t,k⟩:=b
 by_cases h:s=t
 ·subst h
  by_cases hlen:l.length=k.length
  ·refine Ev.step (a:=false) (by simp [hlen]) ?_
   refine Ev.else rfl ⟨l.length+1,fun n hn=> ?_⟩
   have h1:=d6s n ⟨s,l⟩ ⟨s,k⟩ (some true) hlen hl l 0 n rfl (by omega)
   rw [show((0:Nat):Int)=0 from rfl,List.drop_zero]at h1
   dsimp only at h1⊢
   rw [h1]
   by_cases h2:l=k
   ·simp [h2]
   ·simp [h2]
  ·refine Ev.step (a:=true) (by simp;omega) ?_
   have:l≠k:=fun e=>hlen (by rw [e])
   exact Ev.then rfl ((Ev.pure _).eq (by simp [this]))
 ·refine Ev.step (a:=true) (by rw [show(s !=t)=true by simpa using h,cond_true]) ?_
  exact Ev.then rfl ((Ev.pure _).eq (by simp [h]))
end Go.Proofs.YthaegflpecbfgaaGreatDoor.D
namespace Go.Proofs.YthaegflpecbfgaaGreatDoor.D
open Go Rt M
def toF(r:Rat):Frac:=⟨toB r.num,toB (r.den:Int)⟩
def SmF(k:Nat)(r:Rat):Prop:=Sm k r.num/\Sm k (r.den:Int)
def zeroF:Frac:=⟨⟨0,[]⟩,⟨0,[]⟩⟩
theorem c5t(r:Rat):0<(r.den:Int):=by have:=r.den_nz;omega
theorem SmF.mono{j k:Nat}{r:Rat}(h:SmF j r)(hk:j<=k):SmF k r:=⟨h.1.mono hk,h.2.mono hk⟩
theorem b8e{p q:Int}(hq:0<q):(Rat.divInt p q).num=p/((Nat.gcd p.natAbs q.natAbs:Nat):Int)/\((Rat.divInt p q).den:Int)=q/((Nat.gcd p.natAbs q.natAbs:Nat):Int):=by
 obtain⟨d,rfl⟩:=Int.eq_ofNat_of_zero_le (Int.le_of_lt hq)
 have hd:d≠0:=by omega
 rw [Rat.divInt_ofNat,Rat.mkRat_def,dif_neg hd,Rat.normalize_eq,Int.natAbs_natCast]
 exact⟨rfl,Int.natCast_ediv _ _⟩
theorem d4x(a b:Rat):a+b=Rat.divInt (a.num*b.den+b.num*a.den) (a.den*b.den):=by
 conv=>lhs;rw [<-Rat.num_divInt_den a,<-Rat.num_divInt_den b]
 rw [Rat.divInt_add_divInt _ _ (by have:=c5t a;omega) (by have:=c5t b;omega)]
theorem d2z(a b:Rat):a*b=Rat.divInt (a.num*b.num) (a.den*b.den):=by
 conv=>lhs;rw [<-Rat.num_divInt_den a,<-Rat.num_divInt_den b]
 rw [Rat.divInt_mul_divInt]
theorem d5y(a b:Rat):a/b=Rat.divInt (a.num*b.den) (a.den*b.num):=by
 rw [Rat.div_def]
 conv=>lhs;rw [<-Rat.num_divInt_den a,<-Rat.num_divInt_den b]
 rw [Rat.inv_divInt,Rat.divInt_mul_divInt]
theorem e0j{x y:Int}(hy:0<y):dq x y=x/y:=by
 obtain⟨h1,h2,h3⟩:=e7r (x:=x) (y:=y) (by omega)
 have h4:0<=dr x y/\dr x y<y:=by
  rcases h2 with h|h
  ·omega
  ·rw [a7n hy]at h
   have:=a1m (dr x y)
   omega
 generalize dq x y=q at*
 generalize dr x y=r at*
 rw [<-h1,Int.add_comm,Int.add_mul_ediv_right _ _ (by omega),Int.ediv_eq_zero_of_lt h4.1 h4.2];omega
theorem c5k{x y:Int}{k:Nat}(h:Sm k x):Sm k (x/y):=h.le (Int.natAbs_ediv_le_natAbs x y)
theorem c2k(p q:Int):Rat.divInt p q=Rat.divInt (-p) (-q):=(Rat.neg_divInt_neg p q).symm
theorem b8t{p q:Int}{k:Nat}(hp:Sm k p)(hq:Sm k q)(h0:q≠0):SmF k (Rat.divInt p q):=by
 by_cases hn:q<0
 ·rw [c2k]
  obtain⟨e1,e2⟩:=b8e (p:=-p) (q:=-q) (by omega)
  exact⟨by rw [e1];exact c5k hp.neg,by rw [e2];exact c5k hq.neg⟩
 ·obtain⟨e1,e2⟩:=b8e (p:=p) (q:=q) (by omega)
  exact⟨by rw [e1];exact c5k hp,by rw [e2];exact c5k hq⟩
theorem c3k{x y:Int}(hx:x≠0)(hy:y≠0):x*y≠0:=Int.mul_ne_zero hx hy
theorem b5i(r:Rat):(r.den:Int)≠0:=by have:=c5t r;omega
theorem SmF.add{j k:Nat}{a b:Rat}(ha:SmF j a)(hb:SmF k b):SmF (j+k+1) (a+b):=by
 rw [d4x]
 exact b8t ((ha.1.mul hb.2).add ((hb.1.mul ha.2).mono (by omega))) ((ha.2.mul hb.2).mono (by omega)) (c3k (b5i a) (b5i b))
theorem SmF.mul{j k:Nat}{a b:Rat}(ha:SmF j a)(hb:SmF k b):SmF (j+k) (a*b):=by
 rw [d2z]
 exact b8t (ha.1.mul hb.1) (ha.2.mul hb.2) (c3k (b5i a) (b5i b))
theorem SmF.neg{k:Nat}{a:Rat}(ha:SmF k a):SmF k (-a):=⟨by rw [Rat.neg_num];exact ha.1.neg,by rw [Rat.neg_den];exact ha.2⟩
theorem SmF.sub{j k:Nat}{a b:Rat}(ha:SmF j a)(hb:SmF k b):SmF (j+k+1) (a-b):=by rw [Rat.sub_eq_add_neg];exact ha.add hb.neg
def ofB(a:Big):Int:=a.Sign*val a.Digits
theorem b4n(x:Int):ofB (toB x)=x:=by unfold ofB toB;rw [a3k,d6a]
def a7x(f:Frac):Bool:=b3d f.P&&b3d f.Q&&(f.Q.Sign==1)&&(Nat.gcd (ofB f.P).natAbs (ofB f.Q).natAbs==1)
theorem b8r(r:Rat):a7x (toF r)=true:=by
 unfold a7x toF
 simp only
 rw [b8c,b8c,b4n,b4n]
 have h1:(toB (r.den:Int)).Sign=1:=a7n (c5t r)
 rw [h1,Int.natAbs_natCast]
 have h2:Nat.gcd r.num.natAbs r.den=1:=r.reduced
 rw [h2];rfl
theorem b6v{f:Frac}(h:a7x f=true):∃r,f=toF r:=by
 obtain⟨P,Q⟩:=f
 unfold a7x at h
 simp only [Bool.and_eq_true,beq_iff_eq]at h
 obtain⟨⟨⟨h1,h2⟩,h3⟩,h4⟩:=h
 obtain⟨p,rfl⟩:=b0z h1
 obtain⟨q,rfl⟩:=b0z h2
 rw [b4n,b4n]at h4
 have h5:0<q:=by have h6:sg q=1:=h3;have:=a1m q;omega
 obtain⟨d,rfl⟩:=Int.eq_ofNat_of_zero_le (Int.le_of_lt h5)
 refine⟨⟨p,d,by omega,?_⟩,rfl⟩
 rwa [Int.natAbs_natCast]at h4
theorem e7a{x:Int}{k:Nat}(h:Sm k x)(hk:k<1099511627776):Ev (fun n=>b7u n (toB x)) (decide (x=1)):=by
 unfold b7u
 refine Ev.bind (e7g h hk) ?_
 by_cases hr:-9223372036854775808<=x/\x<=9223372036854775807
 ·rw [if_pos hr]
  exact Ev.bind (a:=decide (x=1)) (Ev.then rfl ((Ev.pure _).eq (by by_cases hx:x=1<;>simp [hx]))) (Ev.pure _)
 ·rw [if_neg hr]
  refine Ev.bind (a:=decide (x=1)) (Ev.else rfl ((Ev.pure _).eq ?_)) (Ev.pure _)
  rw [decide_eq_false (by omega)]
theorem d2v{p q:Int}{k:Nat}(hp:Sm k p)(hq:Sm k q):Sm k ((Nat.gcd p.natAbs q.natAbs:Nat):Int):=by
 by_cases h0:p.natAbs=0
 ·rw [h0,Nat.gcd_zero_left];exact hq.le (by omega)
 ·exact hp.le (by have:=Nat.gcd_le_left q.natAbs (Nat.pos_of_ne_zero h0);omega)
theorem b7j{f:Frac}{k:Nat}(hp:f.P.Digits.length<=k)(hq:f.Q.Digits.length<=k)(hk:k<8388608):Ev (fun n=>a2f n f) (a7x f):=by
 unfold a2f
 refine Ev.bind (c4u (a:=f.P) (by omega)) ?_
 cases hP:b3d f.P with
 |false=>exact Ev.bind (a:=true) (Ev.then rfl (Ev.pure _)) (Ev.bind (a:=true) (Ev.then rfl (Ev.pure _)) (Ev.then rfl ((Ev.pure _).eq (by unfold a7x;rw [hP];rfl))))
 |true=>
  refine Ev.bind (a:= !b3d f.Q) (Ev.else rfl (Ev.bind (c4u (a:=f.Q) (by omega)) (Ev.pure _))) ?_
  cases hQ:b3d f.Q with
  |false=>exact Ev.bind (a:=true) (Ev.then rfl (Ev.pure _)) (Ev.then rfl ((Ev.pure _).eq (by unfold a7x;rw [hP,hQ];rfl)))
  |true=>
   refine Ev.bind (a:=f.Q.Sign !=1) (Ev.else rfl (Ev.pure _)) ?_
   by_cases hs:f.Q.Sign=1
   ·refine Ev.else (by simp [hs]) ?_
    obtain⟨P,Q⟩:=f
    obtain⟨p,rfl⟩:=b0z hP
    obtain⟨q,rfl⟩:=b0z hQ
    have hp':Sm k p:=b0a hp
    have hq':Sm k q:=b0a hq
    refine Ev.bind (e1c hp' hq' hk) ?_
    refine Ev.bind (a:=decide (Nat.gcd p.natAbs q.natAbs=1)) (Ev.then rfl (Ev.bind ((e7a (d2v hp' hq') (by omega)).eq (s:=decide (Nat.gcd p.natAbs q.natAbs=1)) ?_) (Ev.pure _))) ((Ev.pure _).eq ?_)
    ·by_cases hg:Nat.gcd p.natAbs q.natAbs=1
     ·rw [decide_eq_true hg,decide_eq_true (by omega)]
     ·rw [decide_eq_false hg,decide_eq_false (by omega)]
    ·unfold a7x
     rw [hP,hQ,b4n,b4n,hs]
     by_cases hg:Nat.gcd p.natAbs q.natAbs=1<;>simp [hg]
   ·refine Ev.then (by simpa using hs) ((Ev.pure _).eq ?_)
    unfold a7x
    rw [hP,hQ]
    simp [hs]
theorem b2j{r:Rat}{k:Nat}(h:SmF k r):(toF r).P.Digits.length<=k/\(toF r).Q.Digits.length<=k:=⟨a3r h.1,a3r h.2⟩
theorem a3w{r:Rat}{k:Nat}(h:SmF k r)(hk:k<8388608):Ev (fun n=>a2f n (toF r)) true:=(b7j (b2j h).1 (b2j h).2 hk).eq (b8r r)
section
variable{p q:Int}{k:Nat}(hp:Sm k p)(hq:Sm k q)(hk:k<8388608)
include hp hq hk
theorem d0p(h0:0<q):Ev (fun n=>
 (b3p n (toB p) (toB q)).bind fun v8=>
 (b1l n (toB p) (⟨v8.1.Sign,v8.1.Digits⟩:Big)).bind fun v9=>
 (b1l n (toB q) (⟨v8.1.Sign,v8.1.Digits⟩:Big)).bind fun v10=>
 some ((⟨(⟨v9.1.Sign,v9.1.Digits⟩:Big),(⟨v10.1.Sign,v10.1.Digits⟩:Big)⟩:Frac),(0:Int))) (toF (Rat.divInt p q),0):=by
 have hg:0<Nat.gcd p.natAbs q.natAbs:=Nat.gcd_pos_of_pos_right _ (by omega)
 have hgs:=d2v hp hq
 obtain⟨e1,e2⟩:=b8e (p:=p) h0
 refine Ev.bind (e1c hp hq hk) ?_
 refine Ev.bind (e1j hp hgs hk (by omega)) ?_
 refine Ev.bind (e1j hq hgs hk (by omega)) ((Ev.pure _).eq ?_)
 unfold toF
 rw [e1,e2,<-e0j (by omega),<-e0j (by omega)]
theorem c4w(h0:q≠0):Ev (fun n=>b1b n (toB p) (toB q)) (toF (Rat.divInt p q),0):=by
 unfold b1b
 refine Ev.bind (a4p hp (by omega)) ?_
 refine Ev.bind (a:=false) (Ev.else rfl (Ev.bind (a4p hq (by omega)) (Ev.pure _))) ?_
 refine Ev.else rfl ?_
 refine Ev.else (by show(sg q==0)=false;rw [c0y];simpa using h0) ?_
 by_cases hn:q<0
 ·refine Ev.then (by show decide (sg q<0)=true;rw [a7o hn];rfl) ?_
  refine Ev.bind (c4b hp (by omega)) (Ev.bind (c4b hq (by omega)) ?_)
  rw [c2k]
  exact d0p hp.neg hq.neg hk (by omega)
 ·refine Ev.else (by show decide (sg q<0)=false;rw [a7n (by omega)];rfl) ?_
  exact d0p hp hq hk (by omega)
omit hk in
theorem b2n(hk:k<268435456):Ev (fun n=>a3e n (toB p) (toB q)) (toB (p*q)):=by
 unfold a3e
 exact Ev.bind (e5x hp hq hk) (Ev.pure _)
end
theorem c2n{x:Int}{k:Nat}(h:Sm k x)(hk:k<1073741824):Ev (fun n=>a9v n (toB x)) (toB x):=by
 unfold a9v
 exact Ev.bind (c4b h hk) (Ev.bind (c4b h.neg hk) ((Ev.pure _).eq (by rw [Int.neg_neg])))
section
variable{a b:Rat}{j k:Nat}(ha:SmF j a)(hb:SmF k b)(hk:j+k<4000000)
include ha hb hk
theorem times_PQ:Ev (fun n=>a3e n (⟨(toF a).P.Sign,(toF a).P.Digits⟩:Big) (⟨(toF b).Q.Sign,(toF b).Q.Digits⟩:Big)) (toB (a.num*b.den)):=
 b2n (ha.1.mono (by omega:j<=j+k)) (hb.2.mono (by omega:k<=j+k)) (by omega)
theorem times_QP:Ev (fun n=>a3e n (⟨(toF a).Q.Sign,(toF a).Q.Digits⟩:Big) (⟨(toF b).P.Sign,(toF b).P.Digits⟩:Big)) (toB (a.den*b.num)):=
 b2n (ha.2.mono (by omega:j<=j+k)) (hb.1.mono (by omega:k<=j+k)) (by omega)
theorem times_PP:Ev (fun n=>a3e n (⟨(toF a).P.Sign,(toF a).P.Digits⟩:Big) (⟨(toF b).P.Sign,(toF b).P.Digits⟩:Big)) (toB (a.num*b.num)):=
 b2n (ha.1.mono (by omega:j<=j+k)) (hb.1.mono (by omega:k<=j+k)) (by omega)
theorem times_QQ:Ev (fun n=>a3e n (⟨(toF a).Q.Sign,(toF a).Q.Digits⟩:Big) (⟨(toF b).Q.Sign,(toF b).Q.Digits⟩:Big)) (toB ((a.den:Int)*b.den)):=
 b2n (ha.2.mono (by omega:j<=j+k)) (hb.2.mono (by omega:k<=j+k)) (by omega)
end
theorem e3v(b:Rat):toF (-b)=⟨toB (-b.num),toB (b.den:Int)⟩:=rfl
section
variable{a b:Rat}{j k:Nat}(ha:SmF j a)(hb:SmF k b)(hk:j+k<4000000)
include ha hb hk
theorem FAdd_ev:Ev (fun n=>a8y n (toF a) (toF b)) (toF (a+b),0):=by
 have m1:Sm (j+k+1) (a.num*b.den):=(ha.1.mul hb.2).mono (by omega)
 have m2:Sm (j+k+1) (b.num*a.den):=(hb.1.mul ha.2).mono (by omega)
 have m3:Sm (j+k+1) ((a.den:Int)*b.den):=(ha.2.mul hb.2).mono (by omega)
 have m4:Sm (j+k+1) (a.num*b.den+b.num*a.den):=(ha.1.mul hb.2).add ((hb.1.mul ha.2).mono (by omega))
 unfold a8y
 refine Ev.bind (a3w ha (by omega)) ?_
 refine Ev.bind (a:=false) (Ev.else rfl (Ev.bind (a3w hb (by omega)) (Ev.pure _))) ?_
 refine Ev.else rfl ?_
 refine Ev.bind (a:=(sg (a.num*b.den+b.num*a.den),dig (a.num*b.den+b.num*a.den).natAbs)) ?_ ?_
 ·refine Ev.bind (times_PQ ha hb hk) ?_
  refine Ev.bind (times_PQ hb ha (by omega)) ?_
  exact Ev.bind (e5i m1 m2 (by omega)) (Ev.pure _)
 ·refine Ev.bind (times_QQ ha hb hk) ?_
  refine Ev.bind (c4w m4 m3 (by omega) (c3k (b5i a) (b5i b))) ((Ev.pure _).eq ?_)
  rw [d4x]
theorem FMul_ev:Ev (fun n=>b0w n (toF a) (toF b)) (toF (a*b),0):=by
 unfold b0w
 refine Ev.bind (a3w ha (by omega)) ?_
 refine Ev.bind (a:=false) (Ev.else rfl (Ev.bind (a3w hb (by omega)) (Ev.pure _))) ?_
 refine Ev.else rfl ?_
 refine Ev.bind (times_PP ha hb hk) ?_
 refine Ev.bind (times_QQ ha hb hk) ?_
 refine Ev.bind (c4w (ha.1.mul hb.1) (ha.2.mul hb.2) (by omega) (c3k (b5i a) (b5i b))) ((Ev.pure _).eq ?_)
 rw [d2z]
theorem FSub_ev:Ev (fun n=>b6s n (toF a) (toF b)) (toF (a-b),0):=by
 unfold b6s
 refine Ev.bind (a3w ha (by omega)) ?_
 refine Ev.bind (a:=false) (Ev.else rfl (Ev.bind (a3w hb (by omega)) (Ev.pure _))) ?_
 refine Ev.else rfl ?_
 refine Ev.bind (c4b hb.1 (by omega)) ?_
 have h:=FAdd_ev ha hb.neg hk
 rw [e3v,<-Rat.sub_eq_add_neg]at h
 exact Ev.bind h (Ev.pure _)
theorem e4y(h0:b.num≠0):Ev (fun n=>b7m n (toF a) (toF b)) (toF (a/b),0):=by
 unfold b7m
 refine Ev.bind (a3w ha (by omega)) ?_
 refine Ev.bind (a:=false) (Ev.else rfl (Ev.bind (a3w hb (by omega)) (Ev.pure _))) ?_
 refine Ev.else rfl ?_
 refine Ev.else (by show(sg b.num==0)=false;rw [c0y];simpa using h0) ?_
 refine Ev.bind (times_PQ ha hb hk) ?_
 refine Ev.bind (times_QP ha hb hk) ?_
 refine Ev.bind (c4w (ha.1.mul hb.2) (ha.2.mul hb.1) (by omega) (c3k (b5i a) h0)) ((Ev.pure _).eq ?_)
 rw [d5y]
end
def cmpQ(a b:Rat):Int:=sg (a.num*b.den-b.num*a.den)
theorem e3r{a b:Rat}(h:a<b):cmpQ a b=-1:=by
 have:=Rat.lt_iff a b
 exact a7o (by have:=this.1 h;omega)
theorem e1n{a b:Rat}(h:b<a):cmpQ a b=1:=by
 have:=Rat.lt_iff b a
 exact a7n (by have:=this.1 h;omega)
theorem d6z(a:Rat):cmpQ a a=0:=by unfold cmpQ;rw [Int.sub_self];rfl
theorem a9q(a b:Rat):(a<b/\cmpQ a b=-1)∨(a=b/\cmpQ a b=0)∨(b<a/\cmpQ a b=1):=by
 by_cases h:a<b
 ·exact .inl ⟨h,e3r h⟩
 ·by_cases h2:b<a
  ·exact .inr (.inr ⟨h2,e1n h2⟩)
  ·have e:a=b:=Rat.le_antisymm (Rat.not_lt.1 h2) (Rat.not_lt.1 h)
   exact .inr (.inl ⟨e,by rw [e];exact d6z b⟩)
section
variable{a b:Rat}{j k:Nat}(ha:SmF j a)(hb:SmF k b)(hk:j+k<4000000)
include ha hb hk
theorem FCompare_ev:Ev (fun n=>a3u n (toF a) (toF b)) (cmpQ a b):=by
 unfold a3u
 refine Ev.bind (a3w ha (by omega)) ?_
 refine Ev.bind (a:=false) (Ev.else rfl (Ev.bind (a3w hb (by omega)) (Ev.pure _))) ?_
 refine Ev.else rfl ?_
 refine Ev.bind (times_PQ ha hb hk) ?_
 refine Ev.bind (times_PQ hb ha (by omega)) ?_
 exact Ev.bind (d1x (ha.1.mul hb.2) ((hb.1.mul ha.2).mono (by omega)) (by omega)) (Ev.pure _)
theorem c3s(s:Int)(hs:s=1∨s=-1):Ev (fun n=>a8s n (toF a) (toF b) s) (toF (if cmpQ a b*s<0 then b else a),0):=by
 unfold a8s
 refine Ev.bind (a3w ha (by omega)) ?_
 refine Ev.bind (a:=false) (Ev.else rfl (Ev.bind (a3w hb (by omega)) (Ev.pure _))) ?_
 refine Ev.else rfl ?_
 refine Ev.bind (FCompare_ev ha hb hk) ?_
 have hr:=b9w (a.num*b.den-b.num*a.den)
 have e:imul .i64 (cmpQ a b) s=cmpQ a b*s:=by
  have h1:-1<=cmpQ a b:=hr.1
  have h2:cmpQ a b<=1:=hr.2
  exact a7a (by rcases hs with rfl|rfl<;>omega) (by rcases hs with rfl|rfl<;>omega)
 rw [e]
 by_cases h:cmpQ a b*s<0
 ·rw [if_pos h]
  refine Ev.bind (Ev.then (decide_eq_true h) (Ev.pure _)) ?_
  exact Ev.bind (c2n hb.1 (by omega)) (Ev.bind (c2n hb.2 (by omega)) (Ev.pure _))
 ·rw [if_neg h]
  refine Ev.bind (Ev.else (decide_eq_false h) (Ev.pure _)) ?_
  exact Ev.bind (c2n ha.1 (by omega)) (Ev.bind (c2n ha.2 (by omega)) (Ev.pure _))
theorem FMin_ev:Ev (fun n=>b7f n (toF a) (toF b)) (toF (if b<a then b else a),0):=by
 unfold b7f
 refine Ev.bind (c3s ha hb hk (-1) (.inr rfl)) ((Ev.pure _).eq ?_)
 rcases a9q a b with⟨h,e⟩|⟨h,e⟩|⟨h,e⟩
 ·rw [e,if_neg (by decide),if_neg (by grind)]
 ·rw [e,if_neg (by decide),if_neg (by grind)]
 ·rw [e,if_pos (by decide),if_pos h]
theorem FMax_ev:Ev (fun n=>b2u n (toF a) (toF b)) (toF (if a<b then b else a),0):=by
 unfold b2u
 refine Ev.bind (c3s ha hb hk 1 (.inl rfl)) ((Ev.pure _).eq ?_)
 rcases a9q a b with⟨h,e⟩|⟨h,e⟩|⟨h,e⟩
 ·rw [e,if_pos (by decide),if_pos h]
 ·rw [e,if_neg (by decide),if_neg (by grind)]
 ·rw [e,if_neg (by decide),if_neg (by grind)]
end
section
variable{a:Rat}{k:Nat}(ha:SmF k a)(hk:k<4000000)
include ha hk
theorem FNeg_ev:Ev (fun n=>b6z n (toF a)) (toF (-a)):=by
 unfold b6z
 refine Ev.bind (a3w ha (by omega)) (Ev.else rfl ?_)
 exact Ev.bind (c4b ha.1 (by omega)) (Ev.bind (c2n ha.2 (by omega)) (Ev.pure _))
theorem FSign_ev:Ev (fun n=>a9y n (toF a)) (sg a.num):=by
 unfold a9y
 exact Ev.bind (a3w ha (by omega)) (Ev.else rfl (Ev.pure _))
end
theorem b3u{x:Int}(h1:-9223372036854775808<=x)(h2:x<=9223372036854775807):Ev (fun n=>a3f n x) (toF (x:Rat)):=by
 unfold a3f
 refine Ev.bind (e2v h1 h2) (Ev.bind Of1_ev ((Ev.pure _).eq ?_))
 unfold toF
 rw [Rat.num_intCast,Rat.den_intCast];rfl
theorem d5x{f g:Frac}(hp:f.P.Digits.length<1099511627776)(hq:f.Q.Digits.length<1099511627776):Ev (fun n=>a6e n f g) (decide (f=g)):=by
 unfold a6e
 refine Ev.bind (d1u (a:=f.P) (b:=g.P) hp) ?_
 obtain⟨P,Q⟩:=f
 obtain⟨P',Q'⟩:=g
 refine Ev.bind (a:=decide ((⟨P,Q⟩:Frac)=⟨P',Q'⟩)) ?_ (Ev.pure _)
 by_cases h:P=P'
 ·subst h
  refine Ev.then (by simp) (Ev.bind (d1u (a:=Q) (b:=Q') hq) ((Ev.pure _).eq (by simp)))
 ·exact Ev.else (by simpa using h) ((Ev.pure _).eq (by simp [h]))
end Go.Proofs.YthaegflpecbfgaaGreatDoor.D
namespace Go.Proofs.YthaegflpecbfgaaGreatDoor.D
open Go Rt M
theorem e8b(f:Frac)(k:Int):Ev (fun n=>a9s n f k) (decide ((f.P.Digits.length:Int)<=k)&&decide ((f.Q.Digits.length:Int)<=k)):=by
 refine Ev.all fun n=> ?_
 unfold a9s
 cases decide ((f.P.Digits.length:Int)<=k)<;>rfl
theorem d2u{f:Frac}{k:Nat}(h:(decide ((f.P.Digits.length:Int)<=k)&&decide ((f.Q.Digits.length:Int)<=k))=true):f.P.Digits.length<=k/\f.Q.Digits.length<=k:=by
 simpa using h
theorem d5a{f:Frac}{k:Nat}(h:f.P.Digits.length<=k/\f.Q.Digits.length<=k)(hr:a7x f=true):∃r,f=toF r/\SmF k r:=by
 obtain⟨r,rfl⟩:=b6v hr
 exact⟨r,rfl,b0a h.1,b0a h.2⟩
end Go.Proofs.YthaegflpecbfgaaGreatDoor.D
namespace Go.Proofs.YthaegflpecbfgaaGreatDoor.D
open Go Rt M
theorem sm01{k:Nat}{x:Int}(h:-1048576<x)(h2:x<1048576)(hk:1<=k):Sm k x:=Sm.mono (k:=1) (by unfold Sm;rw [show pw 1=1048576 by decide];omega) hk
theorem c4z{k:Nat}{x:Int}(h:Sm k x)(hk:1<=k):SmF k (x:Rat):=⟨by rw [Rat.num_intCast];exact h,by rw [Rat.den_intCast];exact sm01 (by decide) (by decide) hk⟩
end Go.Proofs.YthaegflpecbfgaaGreatDoor.D
namespace Go.Proofs.YthaegflpecbfgaaGreatDoor.D
open Go Rt M
theorem e0q(r:Rat):sg r.num=cmpQ r 0:=by
 unfold cmpQ
 congr 1
 show r.num=r.num*1-0*r.den
 omega
end Go.Proofs.YthaegflpecbfgaaGreatDoor.D
namespace Go.Proofs.YthaegflpecbfgaaGreatDoor.Fe
open Go Rt M Ta Tp D
structure Env where
 lf:Rt.Bs->Int
 wf:Rt.Bs->Rat
 pers:Int
 flats:Int
def two(o:Int)(a b:Rat):Rat:=
 if o=5 then a+b else if o=6 then a-b else if o=7 then a*b else if o=8 then a/b else if o=9 then(if b<a then b else a)else if o=10 then(if a<b then b else a)else 0
def rel(o:Int)(a b:Rat×Bool):Bool:=
 if o=12 then decide (a.1<b.1)else if o=13 then decide (a.1=b.1)else if o=15 then a.2&&b.2 else a.2||b.2
def c9g(E:Env)(o n:Int)(s:Rt.Bs):List (Rat×Bool)->Rat×Bool
 | []=>(if o=0 then(n:Rat)else if o=1 then(E.lf s:Rat)else if o=2 then(E.pers:Rat)else if o=3 then(E.flats:Rat)else E.wf s,false)
 | [c]=>(0, !c.2)
 | [a,b]=>(two o a.1 b.1,rel o a b)
 |c::a::b::_=>(if c.2=true then a.1 else b.1,false)
mutual
def vl(E:Env):M.Expr->Rat×Bool
 |⟨o,n,s,l⟩=>c9g E o n s (vls E l)
def vls(E:Env):List M.Expr->List (Rat×Bool)
 | []=> []
 |x::l=>vl E x::vls E l
 end
def num(E:Env)(x:M.Expr):Rat:=(vl E x).1
def tru(E:Env)(x:M.Expr):Bool:=(vl E x).2
section
variable(E:Env)(n:Int)(s:Rt.Bs)(o:Int)(a b c:M.Expr)
theorem num_num:num E ⟨0,n,s,[]⟩=(n:Rat):=rfl
theorem num_lifts:num E ⟨1,n,s,[]⟩=(E.lf s:Rat):=rfl
theorem num_pers:num E ⟨2,n,s,[]⟩=(E.pers:Rat):=rfl
theorem num_flats:num E ⟨3,n,s,[]⟩=(E.flats:Rat):=rfl
theorem num_wgt:num E ⟨4,n,s,[]⟩=E.wf s:=rfl
theorem num_two:num E ⟨o,n,s,[a,b]⟩=two o (num E a) (num E b):=rfl
theorem tru_not:tru E ⟨o,n,s,[a]⟩= !tru E a:=rfl
theorem tru_two:tru E ⟨o,n,s,[a,b]⟩=rel o (vl E a) (vl E b):=rfl
theorem num_ite:num E ⟨o,n,s,[c,a,b]⟩=if tru E c=true then num E a else num E b:=rfl
end
theorem e4g(a b:Rat):two 6 a b=a-b:=rfl
theorem d5j(a b:Rat):two 7 a b=a*b:=rfl
theorem e3p(a b:Rat):two 8 a b=a/b:=rfl
theorem d7s(a b:Rat):two 9 a b=if b<a then b else a:=rfl
theorem d4r(a b:Rat):two 10 a b=if a<b then b else a:=rfl
theorem c5f(a b:Rat×Bool):rel 12 a b=decide (a.1<b.1):=rfl
theorem d3k(a b:Rat×Bool):rel 13 a b=decide (a.1=b.1):=rfl
def look{α:Type}(names:List Rt.Bs)(l:List α)(d:α)(s:Rt.Bs):α:=(l[names.idxOf s]?).getD d
theorem c8n{α:Type}{names:List Rt.Bs}{l:List α}(d:α){s:Rt.Bs}(hs:s∈names)(hl:names.length=l.length):ix l ((names.idxOf s:Nat):Int)=some (look names l d s):=by
 have h:names.idxOf s<l.length:=by rw [<-hl];exact List.idxOf_lt_length_of_mem hs
 unfold look
 rw [b2z,List.getElem?_eq_getElem h];rfl
theorem d0c{α:Type}{names:List Rt.Bs}{l:List α}(d:α){s:Rt.Bs}(hs:s∈names)(hl:names.length=l.length):look names l d s∈l:=by
 have h:names.idxOf s<l.length:=by rw [<-hl];exact List.idxOf_lt_length_of_mem hs
 unfold look
 rw [List.getElem?_eq_getElem h];exact List.getElem_mem h
theorem d9s{α β:Type}{names:List Rt.Bs}{l:List α}(f:α->β)(d:α)(e:β){s:Rt.Bs}(hs:s∈names)(hl:names.length=l.length):look names (l.map f) e s=f (look names l d s):=by
 have h:names.idxOf s<l.length:=by rw [<-hl];exact List.idxOf_lt_length_of_mem hs
 unfold look
 rw [List.getElem?_map,List.getElem?_eq_getElem h];rfl
def mkE(names:List Rt.Bs)(f:Facts)(ws:List Rat):Env:=⟨look names f.Lifts 0,look names ws 0,f.Persons,f.Flats⟩
theorem d0n{l:List Rt.Bs}(s:Rt.Bs)(hl:l.length<4611686018427387904):Ev (fun n=>a0r n l s) (if s∈l then((l.idxOf s:Nat):Int)else-1):=by
 refine⟨l.length+1,fun n hn=> ?_⟩
 unfold a0r
 dsimp only
 have h:slices_Index_string_string_L1 n l s (some (-1)) n 0=_:=c8a n l s hl l 0 n rfl (by omega)
 rw [h];simp only [Nat.zero_add]
theorem e4s{j k:Nat}{a b:Rat}(ha:SmF j a)(hb:SmF k b)(h0:b.num≠0):SmF (j+k) (a/b):=by
 rw [d5y]
 refine b8t ?_ ?_ (c3k (b5i a) h0)
 ·exact ha.1.mul hb.2
 ·exact ha.2.mul hb.1
theorem e8e{j k:Nat}{a b:Rat}(ha:SmF j a)(hb:SmF k b){o:Int}(ho:o=8->b.num≠0)(h0:o=5∨o=6∨o=7∨o=8∨o=9∨o=10):SmF (j+k+1) (two o a b):=by
 rcases h0 with rfl|rfl|rfl|rfl|rfl|rfl
 ·exact ha.add hb
 ·exact ha.sub hb
 ·exact(ha.mul hb).mono (by omega)
 ·exact(e4s ha hb (ho rfl)).mono (by omega)
 ·rw [d7s];split
  ·exact hb.mono (by omega)
  ·exact ha.mono (by omega)
 ·rw [d4r];split
  ·exact hb.mono (by omega)
  ·exact ha.mono (by omega)
theorem e3s{j k:Nat}{a b:Rat}(ha:SmF j a)(hb:SmF k b)(hk:j+k<4000000){o:Int}(ho:o=8->b.num≠0)(h0:o=5∨o=6∨o=7∨o=8∨o=9∨o=10):Ev (fun n=>a8a n o (toF a) (toF b)) (toF (two o a b)):=by
 unfold a8a
 rcases h0 with rfl|rfl|rfl|rfl|rfl|rfl
 ·exact Ev.then rfl (Ev.bind (FAdd_ev ha hb hk) (Ev.pure _))
 ·exact Ev.else rfl (Ev.then rfl (Ev.bind (FSub_ev ha hb hk) (Ev.pure _)))
 ·exact Ev.else rfl (Ev.else rfl (Ev.then rfl (Ev.bind (FMul_ev ha hb hk) (Ev.pure _))))
 ·exact Ev.else rfl (Ev.else rfl (Ev.else rfl (Ev.then rfl (Ev.bind (e4y ha hb hk (ho rfl)) (Ev.pure _)))))
 ·exact Ev.else rfl (Ev.else rfl (Ev.else rfl (Ev.else rfl (Ev.then rfl (Ev.bind (FMin_ev ha hb hk) (Ev.pure _))))))
 ·exact Ev.else rfl (Ev.else rfl (Ev.else rfl (Ev.else rfl (Ev.else rfl (Ev.then rfl (Ev.bind (FMax_ev ha hb hk) (Ev.pure _)))))))
theorem smI{x:Int}(h1:-9223372036854775808<=x)(h2:x<=9223372036854775807){k:Nat}(hk:4<=k):SmF k (x:Rat):=by
 refine c4z (Sm.mono (k:=4) ?_ hk) (by omega)
 exact b0a (d7e (by omega))
structure RF(names:List Rt.Bs)(f:Facts)(ws:List Rat):Prop where
 hl:f.Lifts.length=names.length
 hw:ws.length=names.length
 p1:0<=f.Persons
 p2:f.Persons<=1000
 f1:0<=f.Flats
 f2:f.Flats<=1000
 l1:∀n,n∈f.Lifts->0<=n/\n<=200
 w1:∀w,w∈ws->0<=w
def K(names:List Rt.Bs)(f:Facts)(ws:List Rat):known:=⟨names,f,ws.map toF⟩
theorem wadd(W a b:Nat):W*(a+b+1)=W*a+W*b+W:=by rw [Nat.mul_add,Nat.mul_add,Nat.mul_one]
theorem wle{W a:Nat}(hW:W<=30)(ha:a<=1000):W*a<=30000:=by
 have:=Nat.mul_le_mul hW ha
 omega
section
variable{names:List Rt.Bs}{f:Facts}{ws:List Rat}{W:Nat}
variable(hf:RF names f ws)(hW:4<=W)(hW2:W<=30)(hw:∀w,w∈ws->SmF W w)(hn:names.length<4611686018427387904)
include hf hW hW2 hw hn
theorem d5f{x:M.Expr}{k:Int}(ht:Typ names x k):cnt x<=1000->
 (k≠0->SmF (W*cnt x) (num (mkE names f ws) x)/\Ev (fun n=>fee_known_number n (K names f ws) x) (toF (num (mkE names f ws) x)))/\
 (k=0->Ev (fun n=>fee_known_truth n (K names f ws) x) (tru (mkE names f ws) x)):=by
 have hix:∀s,Ev (fun n=>a0r n (K names f ws).names s) (if s∈names then((names.idxOf s:Nat):Int)else-1):=fun s=>d0n s hn
 have leafW:∀(o n:Int)(s:Rt.Bs),W*cnt ⟨o,n,s,[]⟩=W:=fun o n s=>by show W*1=W;omega
 have c2:∀(o n:Int)(s:Rt.Bs)(a b:M.Expr),cnt ⟨o,n,s,[a,b]⟩=cnt a+cnt b+1:=fun o n s a b=>by show cnt a+(cnt b+0)+1=_;omega
 have ari:∀{o p q r:Int}{a b:M.Expr},(o=5∨o=6∨o=7∨o=8∨o=9∨o=10)->p≠0->q≠0->r≠0->(o=8->(num (mkE names f ws) b).num≠0)->
  (cnt a<=1000->(p≠0->SmF (W*cnt a) (num (mkE names f ws) a)/\Ev (fun n=>fee_known_number n (K names f ws) a) (toF (num (mkE names f ws) a)))/\(p=0->Ev (fun n=>fee_known_truth n (K names f ws) a) (tru (mkE names f ws) a)))->
  (cnt b<=1000->(q≠0->SmF (W*cnt b) (num (mkE names f ws) b)/\Ev (fun n=>fee_known_number n (K names f ws) b) (toF (num (mkE names f ws) b)))/\(q=0->Ev (fun n=>fee_known_truth n (K names f ws) b) (tru (mkE names f ws) b)))->
  cnt ⟨o,0,[],[a,b]⟩<=1000->
  (r≠0->SmF (W*cnt ⟨o,0,[],[a,b]⟩) (num (mkE names f ws) ⟨o,0,[],[a,b]⟩)/\Ev (fun n=>fee_known_number n (K names f ws) ⟨o,0,[],[a,b]⟩) (toF (num (mkE names f ws) ⟨o,0,[],[a,b]⟩)))/\
  (r=0->Ev (fun n=>fee_known_truth n (K names f ws) ⟨o,0,[],[a,b]⟩) (tru (mkE names f ws) ⟨o,0,[],[a,b]⟩)):=by
  intro o p q r a b ho hp hq hr h8 iha ihb hc
  rw [c2]at hc
  obtain⟨sa,ea⟩:=(iha (by omega)).1 hp
  obtain⟨sb,eb⟩:=(ihb (by omega)).1 hq
  have wa:=wle hW2 (show cnt a<=1000 by omega)
  have wb:=wle hW2 (show cnt b<=1000 by omega)
  refine⟨fun _=>⟨?_,?_⟩,fun h=>absurd h hr⟩
  ·rw [c2,wadd,num_two]
   exact(e8e sa sb h8 ho).mono (by omega)
  ·rw [num_two]
   refine Ev.suc (fun n=>fee_known_number_s _ _ n) ?_
   refine Ev.bind (hix _) ?_
   have e:∀k:Int,(k=0∨k=1∨k=2∨k=3∨k=4∨k=11)->(o==k)=false:=fun k hk=>by rw [beq_eq_false_iff_ne];omega
   refine Ev.else (e 0 (by decide)) (Ev.else (e 1 (by decide)) (Ev.else (e 2 (by decide)) (Ev.else (e 3 (by decide)) (Ev.else (e 4 (by decide)) (Ev.else (e 11 (by decide)) ?_)))))
   refine Ev.step (a:=a) rfl (Ev.step (a:=b) rfl ?_)
   exact Ev.bind ea (Ev.bind eb (Ev.bind (e3s sa sb (by omega) h8 ho) (Ev.pure _)))
 induction ht with
 | @num m h0 h1=>
   intro _
   refine⟨fun _=>⟨?_,?_⟩,fun h=>by cases h⟩
   ·rw [leafW,num_num];exact smI (by omega) (by omega) hW
   ·refine Ev.suc (fun n=>fee_known_number_s _ _ n) (Ev.bind (hix _) (Ev.then rfl ?_))
    exact Ev.bind (b3u (x:=m) (by omega) (by omega)) (Ev.pure _)
 | @lifts s _ hs=>
   intro _
   have h5:=hf.l1 _ (d0c (0:Int) hs hf.hl.symm)
   refine⟨fun _=>⟨?_,?_⟩,fun h=>by cases h⟩
   ·rw [leafW,num_lifts]
    exact smI (show _<=look names f.Lifts 0 s by omega) (show look names f.Lifts 0 s<=_ by omega) hW
   ·refine Ev.suc (fun n=>fee_known_number_s _ _ n) (Ev.bind (hix _) (Ev.else rfl (Ev.then rfl ?_)))
    refine Ev.step (a:=look names f.Lifts 0 s) (by rw [if_pos hs];exact c8n 0 hs hf.hl.symm) ?_
    exact Ev.bind (b3u (x:=look names f.Lifts 0 s) (by omega) (by omega)) (Ev.pure _)
 |pers=>
  intro _
  have h1:=hf.p1
  have h2:=hf.p2
  refine⟨fun _=>⟨?_,?_⟩,fun h=>by cases h⟩
  ·rw [leafW,num_pers]
   exact smI (show _<=f.Persons by omega) (show f.Persons<=_ by omega) hW
  ·refine Ev.suc (fun n=>fee_known_number_s _ _ n) (Ev.bind (hix _) (Ev.else rfl (Ev.else rfl (Ev.then rfl ?_))))
   exact Ev.bind (b3u (x:=f.Persons) (by omega) (by omega)) (Ev.pure _)
 |flats=>
  intro _
  have h1:=hf.f1
  have h2:=hf.f2
  refine⟨fun _=>⟨?_,?_⟩,fun h=>by cases h⟩
  ·rw [leafW,num_flats]
   exact smI (show _<=f.Flats by omega) (show f.Flats<=_ by omega) hW
  ·refine Ev.suc (fun n=>fee_known_number_s _ _ n) (Ev.bind (hix _) (Ev.else rfl (Ev.else rfl (Ev.else rfl (Ev.then rfl ?_)))))
   exact Ev.bind (b3u (x:=f.Flats) (by omega) (by omega)) (Ev.pure _)
 | @wgt s _ hs=>
   intro _
   refine⟨fun _=>⟨?_,?_⟩,fun h=>by cases h⟩
   ·rw [leafW,num_wgt]
    exact hw _ (d0c 0 hs hf.hw.symm)
   ·refine Ev.suc (fun n=>fee_known_number_s _ _ n) (Ev.bind (hix _) (Ev.else rfl (Ev.else rfl (Ev.else rfl (Ev.else rfl (Ev.then rfl ?_))))))
    refine Ev.step (a:=toF (look names ws 0 s)) ?_ (Ev.pure _)
    rw [if_pos hs,<-d9s toF 0 (toF 0) hs hf.hw.symm]
    exact c8n (toF 0) hs (by show _=(ws.map toF).length;rw [List.length_map];exact hf.hw.symm)
 | @ari o a b p q ho _ _ hp hq iha ihb=>
   exact ari (by omega) hp hq (e1p p q) (fun h=>by omega) iha ihb
 | @mul a b p q _ _ hp hq _ iha ihb=>
   exact ari (by omega) hp hq (e1p p q) (fun h=>by omega) iha ihb
 | @div a m p _ hp h1 h2 iha=>
   refine ari (q:=1) (by omega) hp (by decide) hp (fun _=> ?_) iha ?_
   ·rw [num_num,Rat.num_intCast];omega
   ·intro _
    refine⟨fun _=>⟨?_,?_⟩,fun h=>by cases h⟩
    ·rw [leafW,num_num];exact smI (by omega) (by omega) hW
    ·refine Ev.suc (fun n=>fee_known_number_s _ _ n) (Ev.bind (hix _) (Ev.then rfl ?_))
     exact Ev.bind (b3u (x:=m) (by omega) (by omega)) (Ev.pure _)
 | @ite c a b p q _ _ _ hp hq ihc iha ihb=>
   intro hc
   have hc3:cnt ⟨11,0,[],[c,a,b]⟩=cnt c+cnt a+cnt b+1:=by show cnt c+(cnt a+(cnt b+0))+1=_;omega
   rw [hc3]at hc
   have ec:=(ihc (by omega)).2 rfl
   obtain⟨sa,ea⟩:=(iha (by omega)).1 hp
   obtain⟨sb,eb⟩:=(ihb (by omega)).1 hq
   refine⟨fun _=>⟨?_,?_⟩,fun h=>absurd h (e1p p q)⟩
   ·rw [num_ite,hc3]
    have h5:W*cnt a<=W*(cnt c+cnt a+cnt b+1):=Nat.mul_le_mul_left _ (by omega)
    have h6:W*cnt b<=W*(cnt c+cnt a+cnt b+1):=Nat.mul_le_mul_left _ (by omega)
    split
    ·exact sa.mono h5
    ·exact sb.mono h6
   ·rw [num_ite]
    refine Ev.suc (fun n=>fee_known_number_s _ _ n) (Ev.bind (hix _) (Ev.else rfl (Ev.else rfl (Ev.else rfl (Ev.else rfl (Ev.else rfl (Ev.then rfl ?_)))))))
    refine Ev.step (a:=c) rfl (Ev.bind ec ?_)
    cases tru (mkE names f ws) c with
    |true=>exact Ev.then rfl (Ev.step (a:=a) rfl (Ev.bind ea (Ev.pure _)))
    |false=>exact Ev.else rfl (Ev.step (a:=b) rfl (Ev.bind eb (Ev.pure _)))
 | @rel o a b ho _ _ iha ihb=>
   intro hc
   rw [c2]at hc
   obtain⟨sa,ea⟩:=(iha (by omega)).1 (by decide)
   obtain⟨sb,eb⟩:=(ihb (by omega)).1 (by decide)
   have wa:=wle hW2 (show cnt a<=1000 by omega)
   have wb:=wle hW2 (show cnt b<=1000 by omega)
   refine⟨fun h=>absurd rfl h,fun _=> ?_⟩
   rw [tru_two]
   have e:∀k:Int,(k=14∨k=15∨k=16)->(o==k)=false:=fun k hk=>by rw [beq_eq_false_iff_ne];omega
   refine Ev.suc (fun n=>fee_known_truth_s _ _ n) (Ev.else (e 14 (by decide)) (Ev.else (e 15 (by decide)) (Ev.else (e 16 (by decide)) ?_)))
   refine Ev.step (a:=a) rfl (Ev.step (a:=b) rfl (Ev.bind ea (Ev.bind eb (Ev.bind (FCompare_ev sa sb (by omega)) ?_))))
   rcases a9q (num (mkE names f ws) a) (num (mkE names f ws) b)with⟨h1,h2⟩|⟨h1,h2⟩|⟨h1,h2⟩
   ·rw [h2]
    rcases ho with rfl|rfl
    ·exact Ev.then rfl ((Ev.pure _).eq (by rw [c5f];exact(decide_eq_true h1).symm))
    ·exact Ev.else rfl ((Ev.pure _).eq (by rw [d3k];exact(decide_eq_false (Rat.ne_of_lt h1)).symm))
   ·rw [h2]
    rcases ho with rfl|rfl
    ·exact Ev.then rfl ((Ev.pure _).eq (by rw [c5f];exact(decide_eq_false (by show¬(num (mkE names f ws) a<_);rw [h1];exact Rat.lt_irrefl)).symm))
    ·exact Ev.else rfl ((Ev.pure _).eq (by rw [d3k];exact(decide_eq_true h1).symm))
   ·rw [h2]
    rcases ho with rfl|rfl
    ·exact Ev.then rfl ((Ev.pure _).eq (by rw [c5f];exact(decide_eq_false (Rat.not_lt.2 (Rat.le_of_lt h1))).symm))
    ·exact Ev.else rfl ((Ev.pure _).eq (by rw [d3k];exact(decide_eq_false (fun h=>Rat.ne_of_lt h1 h.symm)).symm))
 | @not a _ iha=>
   intro hc
   have h1:cnt ⟨14,0,[],[a]⟩=cnt a+0+1:=rfl
   refine⟨fun h=>absurd rfl h,fun _=> ?_⟩
   rw [tru_not]
   refine Ev.suc (fun n=>fee_known_truth_s _ _ n) (Ev.then rfl ?_)
   exact Ev.step (a:=a) rfl (Ev.bind ((iha (by omega)).2 rfl) (Ev.pure _))
 | @bin o a b ho _ _ iha ihb=>
   intro hc
   rw [c2]at hc
   have ea:=(iha (by omega)).2 rfl
   have eb:=(ihb (by omega)).2 rfl
   refine⟨fun h=>absurd rfl h,fun _=> ?_⟩
   rw [tru_two]
   rcases ho with rfl|rfl
   ·refine Ev.suc (fun n=>fee_known_truth_s _ _ n) (Ev.else rfl (Ev.then rfl ?_))
    refine Ev.step (a:=a) rfl (Ev.bind ea ?_)
    show Ev _ (tru (mkE names f ws) a&&tru (mkE names f ws) b)
    cases tru (mkE names f ws) a with
    |true=>exact Ev.bind (Ev.then rfl (Ev.step (a:=b) rfl (Ev.bind eb (Ev.pure _)))) (Ev.pure _)
    |false=>exact Ev.bind (Ev.else rfl (Ev.pure _)) (Ev.pure _)
   ·refine Ev.suc (fun n=>fee_known_truth_s _ _ n) (Ev.else rfl (Ev.else rfl (Ev.then rfl ?_)))
    refine Ev.step (a:=a) rfl (Ev.bind ea ?_)
    show Ev _ (tru (mkE names f ws) a||tru (mkE names f ws) b)
    cases tru (mkE names f ws) a with
    |true=>exact Ev.bind (Ev.then rfl (Ev.pure _)) (Ev.pure _)
    |false=>exact Ev.bind (Ev.else rfl (Ev.step (a:=b) rfl (Ev.bind eb (Ev.pure _)))) (Ev.pure _)
theorem d5q{x:M.Expr}{k:Int}(ht:Typ names x k)(hk:k≠0)(hc:cnt x<=1000):Ev (fun n=>fee_known_number n (K names f ws) x) (toF (num (mkE names f ws) x)):=((d5f hf hW hW2 hw hn ht hc).1 hk).2
theorem c7j{x:M.Expr}{k:Int}(ht:Typ names x k)(hk:k≠0)(hc:cnt x<=1000):SmF (W*cnt x) (num (mkE names f ws) x):=((d5f hf hW hW2 hw hn ht hc).1 hk).1
end
end Go.Proofs.YthaegflpecbfgaaGreatDoor.Fe
namespace Go.Proofs.YthaegflpecbfgaaGreatDoor.Lx
open Rt M Go
theorem c3q(n:Nat)(c:UInt8):b0v n (c.toNat:Int)=some (isLetter c):=
 of_decide_eq_true (b7d (p:=fun c=>decide (b0v 0 (c.toNat:Int)=some (isLetter c))) (by decide+kernel) c)
theorem d4n(n:Nat)(c:UInt8):b6c n (c.toNat:Int)=some (b6a c):=
 of_decide_eq_true (b7d (p:=fun c=>decide (b6c 0 (c.toNat:Int)=some (b6a c))) (by decide+kernel) c)
theorem c3r{s:Rt.Bs}(hs:s.length<=1000000){n:Nat}:
 ∀{r:Rt.Bs}{i m:Nat},s.drop i=r->i<=s.length->r.length<m->ref06_Name_L1 n s (some true) m (i:Int)=some (decide (b7o a9t r=r.length))
 | [],i,m+1,h,hi,_=>by
  have:=drop_nil h hi
  rw [ref06_Name_L1_s]
  simp [this,b7o]
 |c::r,i,m+1,h,hi,hm=>by
  have h1:=d1m h
  simp only [List.length_cons]at hm
  have e:(bif(bif !isLetter c then !b6a c else false)then(c.toNat:Int) !=95 else false)= !a9t c:=
   of_decide_eq_true (b7d (p:=fun c=>decide ((bif(bif !isLetter c then !b6a c else false)then(c.toNat:Int) !=95 else false)= !a9t c)) (by decide+kernel) c)
  have e2:((bif !isLetter c then some (!b6a c)else some false).bind fun v4=>(bif v4 then some ((c.toNat:Int) !=95)else some false))=some (!a9t c):=by
   rw [<-e]
   cases isLetter c<;>cases b6a c<;>rfl
  rw [ref06_Name_L1_s,b7p h,decide_eq_true (by omega)]
  simp only [cond_true,Option.bind_some,c3q,d4n]
  rw [<-Option.bind_assoc,e2,Option.bind_some]
  cases hp:a9t c
  ·simp [b7o,hp]
  ·rw [Bool.not_true,cond_false,c6d _ (by omega),c3r hs (c0q h) (by omega) (by omega)]
   simp [b7o,hp]
theorem rname_eq{s:Rt.Bs}(hs:s.length<=1000000){n:Nat}(hn:s.length<n):a7y n s=some (name s):=by
 cases hs0:s with
 |nil=>rfl
 |cons c r=>
  have h2:1<=s.length:=by rw [hs0];simp
  have h3:s.drop 0=c::r:=hs0
  have h4:s.drop 1=r:=c0q h3
  have h5:s.length=r.length+1:=by rw [hs0];simp
  have h6:=b7p h3
  simp only [Int.natCast_zero]at h6
  have h7:=c3r hs (n:=n) (r:=r) (i:=1) (m:=n) h4 h2 (by omega)
  rw [<-hs0,a7y,decide_eq_false (show¬(s.length:Int)<1 by omega),h6]
  simp only [cond_false,Option.bind_some,c3q]
  have h8:name s=(isLetter c&&(decide (s.length<=20)&&decide (b7o a9t r=r.length))):=by
   rw [name,hs0]
   cases hl:isLetter c
   ·simp [hl]
   ·simp only [List.isEmpty_cons,Bool.not_false,List.headD_cons,hl,Bool.true_and,b7o,c6s hl,cond_true,List.length_cons]
    congr 1
    rw [Bool.eq_iff_iff];simp
  rw [h8]
  by_cases h9:s.length<=20
  ·rw [decide_eq_false (show¬(20:Int)<s.length by omega),decide_eq_true h9]
   simp only [cond_false,Option.bind_some]
   cases isLetter c
   ·rfl
   ·simp only [Bool.not_true,cond_false,Bool.true_and];exact h7
  ·rw [decide_eq_true (show(20:Int)<s.length by omega),decide_eq_false h9]
   simp
end Go.Proofs.YthaegflpecbfgaaGreatDoor.Lx
namespace Go.Proofs.YthaegflpecbfgaaGreatDoor.Ta
open Go Rt M
def T2{α β:Type}(Q:α->β->Prop)(f:Nat->Option α)(g:Nat->Option β):Prop:=∃a b,Ev f a/\Ev g b/\Q a b
section
variable{α β γ δ:Type}{P:α->β->Prop}{Q:γ->δ->Prop}
theorem T2.pure{a:γ}{b:δ}(h:Q a b):T2 Q (fun _=>some a) (fun _=>some b):=⟨a,b,Ev.pure a,Ev.pure b,h⟩
theorem T2.bind{x:Nat->Option α}{y:Nat->Option β}{f:Nat->α->Option γ}{g:Nat->β->Option δ}(h:T2 P x y)(k:∀a b,P a b->T2 Q (fun n=>f n a) (fun n=>g n b)):T2 Q (fun n=>(x n).bind (f n)) (fun n=>(y n).bind (g n)):=by
 obtain⟨a,b,h1,h2,h3⟩:=h
 obtain⟨c,d,h4,h5,h6⟩:=k a b h3
 exact⟨c,d,Ev.bind h1 h4,Ev.bind h2 h5,h6⟩
theorem T2.l{x:Nat->Option α}{a:α}{f:Nat->α->Option γ}{g:Nat->Option δ}(h:Ev x a)(k:T2 Q (fun n=>f n a) g):T2 Q (fun n=>(x n).bind (f n)) g:=by
 obtain⟨c,d,h4,h5,h6⟩:=k
 exact⟨c,d,Ev.bind h h4,h5,h6⟩
theorem T2.r{y:Nat->Option β}{b:β}{f:Nat->Option γ}{g:Nat->β->Option δ}(h:Ev y b)(k:T2 Q f (fun n=>g n b)):T2 Q f (fun n=>(y n).bind (g n)):=by
 obtain⟨c,d,h4,h5,h6⟩:=k
 exact⟨c,d,h4,Ev.bind h h5,h6⟩
theorem T2.bif{c:Bool}{x x':Nat->Option γ}{y y':Nat->Option δ}(h1:c=true->T2 Q x y)(h2:c=false->T2 Q x' y'):T2 Q (fun n=>bif c then x n else x' n) (fun n=>bif c then y n else y' n):=by
 cases c
 ·exact h2 rfl
 ·exact h1 rfl
theorem T2.lt{c:Bool}{x x':Nat->Option γ}{g:Nat->Option δ}(hc:c=true)(h:T2 Q x g):T2 Q (fun n=>bif c then x n else x' n) g:=by subst hc;exact h
theorem T2.lf{c:Bool}{x x':Nat->Option γ}{g:Nat->Option δ}(hc:c=false)(h:T2 Q x' g):T2 Q (fun n=>bif c then x n else x' n) g:=by subst hc;exact h
theorem T2.suc{f f':Nat->Option γ}{g g':Nat->Option δ}(e:∀n,f (n+1)=f' n)(e':∀n,g (n+1)=g' n)(h:T2 Q f' g'):T2 Q f g:=by
 obtain⟨c,d,h4,h5,h6⟩:=h
 exact⟨c,d,Ev.suc e h4,Ev.suc e' h5,h6⟩
theorem T2.weak{Q':γ->δ->Prop}{f:Nat->Option γ}{g:Nat->Option δ}(h:T2 Q f g)(k:∀a b,Q a b->Q' a b):T2 Q' f g:=by
 obtain⟨c,d,h4,h5,h6⟩:=h
 exact⟨c,d,h4,h5,k c d h6⟩
end
end Go.Proofs.YthaegflpecbfgaaGreatDoor.Ta
namespace Go.Proofs.YthaegflpecbfgaaGreatDoor.Ta
open Go Rt M
theorem c4m(s:Rt.Bs):Ev (fun n=>a7y n s) (Lx.name s):=by
 refine⟨21,fun n hn=> ?_⟩
 by_cases h:s.length<=20
 ·exact Lx.rname_eq (by omega) (by omega)
 ·have h2:Lx.name s=false:=by unfold Lx.name;rw [decide_eq_false h];simp
  rw [h2]
  unfold a7y
  dsimp only
  rw [decide_eq_false (show¬(s.length:Int)<1 by omega),decide_eq_true (show(20:Int)<(s.length:Int) by omega)];rfl
theorem d1c(n:Nat)(l:List Rt.Bs)(i:Nat)(x:Rt.Bs)(hx:ix l (i:Int)=some x)(kont:Option Bool)(hi:i<=1000000):∀(us:List Rt.Bs)(k m:Nat),(l.take i).drop k=us->us.length<m->
 ref35_Names_L2 n l (i:Int) kont m (k:Int)=bif decide (x∈us)then some false else kont
 | [],k,m+1,hd,_=>by
  have h1:(l.take i).length<=k:=Rt.drop_nil hd
  have h2:i<l.length:=by
   rcases Nat.lt_or_ge i l.length with h2|h2
   ·exact h2
   ·rw [b2z,List.getElem?_eq_none h2]at hx;cases hx
  rw [List.length_take]at h1
  rw [ref35_Names_L2_s,decide_eq_false (by omega)];rfl
 |y::us,k,m+1,hd,hm=>by
  obtain⟨h1,h2,h3⟩:=drop_cons hd
  rw [List.length_take]at h3
  have h4:ix l (k:Int)=some y:=by
   rw [b2z]at h1⊢
   rw [List.getElem?_take,if_pos (by omega)]at h1
   exact h1
  rw [ref35_Names_L2_s,decide_eq_true (by omega),cond_true,h4,Option.bind_some,hx,Option.bind_some]
  by_cases h:y=x
  ·subst h
   rw [beq_self_eq_true,cond_true,decide_eq_true (by simp)];rfl
  ·rw [show(y==x)=false by simpa using h,cond_false,inc64 (by omega),d1c n l i x hx kont hi us (k+1) m h2 (by simpa using hm)]
   have e:decide (x∈y::us)=decide (x∈us):=by
    by_cases h5:x∈us
    ·rw [decide_eq_true h5,decide_eq_true (by simp [h5])]
    ·rw [decide_eq_false h5,decide_eq_false (by simp only [List.mem_cons,not_or];exact⟨fun h6=>h h6.symm,h5⟩)]
   rw [e]
theorem c0o{l:List Rt.Bs}(h:¬(l.length:Int)<=6):∀(us:List Rt.Bs)(i:Nat),b6q l i us=false
 | [],i=>decide_eq_false h
 |s::us,i=>by unfold b6q;rw [c0o h us];simp
theorem d7c(l:List Rt.Bs)(hl:l.length<=6):∀(us:List Rt.Bs)(i:Nat),l.drop i=us->∃N,∀n m,N<=n->us.length<m->
 ref35_Names_L1 n l (some true) m (i:Int)=some (b6q l i us)
 | [],i,hd=>by
  refine⟨0,fun n m _ hm=> ?_⟩
  obtain⟨m,rfl⟩:=left hm
  rw [ref35_Names_L1_s,a5w hd]
  unfold b6q
  rw [decide_eq_true (by omega)];rfl
 |s::us,i,hd=>by
  obtain⟨h1,h2,h3⟩:=drop_cons hd
  obtain⟨N,ih⟩:=d7c l hl us (i+1) h2
  obtain⟨N1,e1⟩:=c4m s
  refine⟨max N (max N1 10),fun n m hn hm=> ?_⟩
  obtain⟨m,rfl,hm2⟩:=pred (by simpa using hm)
  have e1:a7y n s=some (Lx.name s):=e1 n (by omega)
  rw [ref35_Names_L1_s,a2g hd,cond_true,h1,Option.bind_some,e1,Option.bind_some]
  unfold b6q
  cases Lx.name s with
  |false=>rfl
  |true=>
   have h5:ref35_Names_L2 n l (i:Int) (ref35_Names_L1 n l (some true) m (iadd .i64 (i:Int) 1)) n 0=_:=d1c n l i s h1 _ (by omega) (l.take i) 0 n rfl (by rw [List.length_take];omega)
   rw [Bool.not_true,cond_false,h5,inc64 (by omega),ih n m (by omega) hm2,Bool.true_and]
   cases decide (s∈l.take i)<;>rfl
theorem c4g(l:List Rt.Bs):Ev (fun n=>b5t n l) (named l):=by
 unfold b5t
 by_cases h:l.length<=6
 ·refine Ev.else (decide_eq_false (by omega)) ?_
  obtain⟨N,hN⟩:=d7c l h l 0 rfl
  exact⟨N+l.length+1,fun n hn=>hN n n (by omega) (by omega)⟩
 ·exact Ev.then (decide_eq_true (by omega)) ((Ev.pure _).eq (c0o (by omega) l 0).symm)
theorem d8u{P:M.Expr->Prop}(h:∀(o k:Int)(s:Rt.Bs)(l:List M.Expr),(∀y,y∈l->P y)->P ⟨o,k,s,l⟩):∀x,P x:=by
 intro x
 refine M.Expr.rec (motive_1:=P) (motive_2:=fun l=>∀y,y∈l->P y) ?_ ?_ ?_ x
 ·exact fun o k s l hl=>h o k s l hl
 ·exact fun y hy=>by cases hy
 ·intro y ys h1 h2 z hz
  rcases List.mem_cons.1 hz with rfl|hz
  ·exact h1
  ·exact h2 z hz
theorem e1h(x:M.Expr)(lv lf:Int)(hlf:lf<=1000000)(hlv:1<=lv)(hlv2:lv<=1000):∀(us:List M.Expr)(i:Nat)(nx:Int),x.Args.drop i=us->i<=x.Args.length->-1<=nx->nx<=lf-1-i->
 (∀y,y∈us->∀lv lf:Int,0<=lf->lf<=1000000->-1<=lv->lv<=1000->Tt (fun s=>-1<=s/\s<=lf-1/\(0<=s->Fit y)) (fun n=>ref35_size n y lf lv))->
 ∃N r,(-1<=r/\r<=lf-1/\(0<=r->x.Args.length<=1000000/\∀y,y∈us->Fit y))/\∀n m,N<=n->us.length<m->ref35_size_L1 n (ref35_size n) x lv (fun nx3=>some nx3) m nx (i:Int)=some r
 | [],i,nx,hd,hi,h1,h2,_=>by
  have hlen:x.Args.length<=i:=Rt.drop_nil hd
  refine⟨0,nx,⟨h1,by omega,fun h=>⟨by omega,by simp⟩⟩,fun n m _ hm=> ?_⟩
  obtain⟨m,rfl⟩:=left hm
  rw [ref35_size_L1_s,a5w hd];rfl
 |y::us,i,nx,hd,hi,h1,h2,H=>by
  obtain⟨g1,g2,g3⟩:=drop_cons hd
  by_cases h0:0<=nx
  ·obtain⟨s,⟨N1,e1⟩,s1,s2,s3⟩:=H y (by simp) (lv-1) nx h0 (by omega) (by omega) (by omega)
   obtain⟨N,r,⟨r1,r2,r3⟩,ih⟩:=e1h x lv lf hlf hlv hlv2 us (i+1) s g2 (by omega) s1 (by omega) (fun z hz=>H z (by simp [hz]))
   refine⟨max N N1,r,⟨r1,r2,fun hr=>⟨(r3 hr).1,fun z hz=> ?_⟩⟩,fun n m hn hm=> ?_⟩
   ·rcases List.mem_cons.1 hz with rfl|hz
    ·refine s3 ?_
     rcases Int.lt_or_le s 0 with hs|hs
     ·exfalso
      have e:s=-1:=by omega
      have:=ih (max N N1+us.length+2) (us.length+1) (by omega) (by omega)
      rw [e]at this
      have hstop:ref35_size_L1 (max N N1+us.length+2) (ref35_size (max N N1+us.length+2)) x lv (fun nx3=>some nx3) (us.length+1) (-1) ((i+1:Nat):Int)=some (-1):=by
       rw [ref35_size_L1_s]
       cases decide (((i+1:Nat):Int)<(x.Args.length:Int))<;>rfl
      rw [hstop]at this
      cases this
      omega
     ·exact hs
    ·exact(r3 hr).2 z hz
   ·obtain⟨m,rfl,hm2⟩:=pred (by simpa using hm)
    have e1:ref35_size n y nx (lv-1)=some s:=e1 n (by omega)
    rw [ref35_size_L1_s,a2g hd,cond_true,Option.bind_some,decide_eq_true h0,cond_true,g1,Option.bind_some,a1s (by omega) (by omega),e1,Option.bind_some,inc64 (by omega)]
    exact ih n m (by omega) hm2
  ·refine⟨0,nx,⟨h1,by omega,fun h=>absurd h h0⟩,fun n m _ hm=> ?_⟩
   obtain⟨m,rfl⟩:=left hm
   rw [ref35_size_L1_s,a2g hd,cond_true,Option.bind_some,decide_eq_false h0];rfl
theorem size_t:∀(x:M.Expr)(lv lf:Int),0<=lf->lf<=1000000->-1<=lv->lv<=1000->Tt (fun s=>-1<=s/\s<=lf-1/\(0<=s->Fit x)) (fun n=>ref35_size n x lf lv):=by
 refine d8u ?_
 intro o k s l ih lv lf h1 h2 h3 h4
 refine Tt.suc (fun n=>ref35_size_s _ _ _ n) ?_
 refine Tt.bif (fun _=>Tt.pure ⟨by omega,by omega,fun h=>by omega⟩) (fun h=> ?_)
 have h5:=of_decide_eq_false h
 rw [a1s (by omega) (by omega)]
 obtain⟨N,r,⟨r1,r2,r3⟩,hN⟩:=e1h ⟨o,k,s,l⟩ lv lf h2 (by omega) h4 l 0 (lf-1) rfl (by simp) (by omega) (by omega) ih
 exact⟨r,⟨N+l.length+1,fun n hn=>hN n n (by omega) (by omega)⟩,r1,r2,fun h=>Fit.mk (r3 h).1 (r3 h).2⟩
theorem e0h(x:M.Expr)(a b:Int)(ha:0<=a)(ha2:a<=1000000)(hb:0<=b)(hb2:b<=1000):Tt (fun c=>c=true->Fit x) (fun n=>a6q n x a b):=by
 unfold a6q
 refine Tt.bind (size_t x b a ha ha2 (by omega) hb2) fun s hs=> ?_
 exact Tt.pure fun h=>hs.2.2 (of_decide_eq_true h)
def e4q(s:Int)(r:Int×Bool):Prop:=(0<=s->r=(s,true))/\(s<0->r.2=false)
theorem e1e(x:M.Expr)(lv lf:Int)(hx:x.Args.length<=1000000)(hlf:lf<=1000000)(hlv:1<=lv)(hlv2:lv<=1000):∀(us:List M.Expr)(i:Nat)(nx:Int),x.Args.drop i=us->0<=nx->nx<=lf->
 (∀y,y∈us->∀lv lf:Int,0<=lf->lf<=1000000->-1<=lv->lv<=1000->∃s r,Ev (fun n=>ref35_size n y lf lv) s/\Ev (fun n=>tariff_sized n y lv lf) r/\e4q s r/\s<=lf-1)->
 ∃N s r,e4q s r/\s<=nx/\∀n m,N<=n->us.length<m->ref35_size_L1 n (ref35_size n) x lv (fun nx3=>some nx3) m nx (i:Int)=some s/\tariff_sized_L1 n (tariff_sized n) x lv (fun f2=>some (f2,true)) m (i:Int) nx=some r
 | [],i,nx,hd,h1,h2,_=>by
  refine⟨0,nx,(nx,true),⟨fun _=>rfl,fun h=>by omega⟩,by omega,fun n m _ hm=> ?_⟩
  obtain⟨m,rfl⟩:=left hm
  rw [ref35_size_L1_s,a5w hd,tariff_sized_L1_s,a5w hd];exact⟨rfl,rfl⟩
 |y::us,i,nx,hd,h1,h2,H=>by
  obtain⟨g1,g2,g3⟩:=drop_cons hd
  obtain⟨s,⟨lf',b⟩,⟨N1,e1⟩,⟨N2,e2⟩,⟨A1,A2⟩,hs⟩:=H y (by simp) (lv-1) nx h1 (by omega) (by omega) (by omega)
  rcases Int.lt_or_le s 0 with h0|h0
  ·have hb:b=false:=A2 h0
   subst hb
   refine⟨max N1 N2,s,(lf',false),⟨fun h=>by omega,fun _=>rfl⟩,by omega,fun n m hn hm=> ?_⟩
   obtain⟨m,rfl,hm2⟩:=pred (by simpa using hm)
   have e1:ref35_size n y nx (lv-1)=some s:=e1 n (by omega)
   have e2:tariff_sized n y (lv-1) nx=some (lf',false):=e2 n (by omega)
   obtain⟨m',rfl⟩:=left hm2
   constructor
   ·rw [ref35_size_L1_s,a2g hd,cond_true,Option.bind_some,decide_eq_true h1,cond_true,g1,Option.bind_some,a1s (by omega) (by omega),e1,Option.bind_some,inc64 (by omega),ref35_size_L1_s,decide_eq_false (show¬0<=s by omega)]
    cases decide (((i+1:Nat):Int)<(x.Args.length:Int))<;>rfl
   ·rw [tariff_sized_L1_s,a2g hd,cond_true,g1,Option.bind_some,a1s (by omega) (by omega),e2];rfl
  ·have hb:=A1 h0
   simp only [Prod.mk.injEq]at hb
   obtain⟨rfl,rfl⟩:=hb
   obtain⟨N,s2,r2,A,hs2,ih⟩:=e1e x lv lf hx hlf hlv hlv2 us (i+1) lf' g2 h0 (by omega) (fun z hz=>H z (by simp [hz]))
   refine⟨max N (max N1 N2),s2,r2,A,by omega,fun n m hn hm=> ?_⟩
   obtain⟨m,rfl,hm2⟩:=pred (by simpa using hm)
   have e1:ref35_size n y nx (lv-1)=some lf':=e1 n (by omega)
   have e2:tariff_sized n y (lv-1) nx=some (lf',true):=e2 n (by omega)
   have ih:=ih n m (by omega) hm2
   constructor
   ·rw [ref35_size_L1_s,a2g hd,cond_true,Option.bind_some,decide_eq_true h1,cond_true,g1,Option.bind_some,a1s (by omega) (by omega),e1,Option.bind_some,inc64 (by omega)]
    exact ih.1
   ·rw [tariff_sized_L1_s,a2g hd,cond_true,g1,Option.bind_some,a1s (by omega) (by omega),e2,Option.bind_some]
    dsimp only
    rw [Bool.not_true,cond_false,inc64 (by omega)]
    exact ih.2
theorem e6t{x:M.Expr}(hx:Fit x):∀lv lf:Int,0<=lf->lf<=1000000->-1<=lv->lv<=1000->∃s r,Ev (fun n=>ref35_size n x lf lv) s/\Ev (fun n=>tariff_sized n x lv lf) r/\e4q s r/\s<=lf-1:=by
 induction hx with
 | @mk o k s l hl _ ih=>
  intro lv lf h1 h2 h3 h4
  by_cases hlv:lv<1
  ·refine⟨-1,(lf-1,false),Ev.suc (fun n=>ref35_size_s _ _ _ n) (Ev.then (decide_eq_true hlv) (Ev.pure _)),?_,⟨fun h=>by omega,fun _=>rfl⟩,by omega⟩
   refine Ev.suc (fun n=>tariff_sized_s _ _ _ n) ?_
   rw [a1s (by omega) (by omega)]
   exact Ev.bind (Ev.then (decide_eq_true hlv) (Ev.pure _)) (Ev.then rfl (Ev.pure _))
  ·by_cases hlf:lf-1<0
   ·refine⟨-1,(lf-1,false),?_,?_,⟨fun h=>by omega,fun _=>rfl⟩,by omega⟩
    ·refine Ev.suc (fun n=>ref35_size_s _ _ _ n) (Ev.else (decide_eq_false hlv) ?_)
     rw [a1s (by omega) (by omega)]
     refine⟨1,fun n hn=> ?_⟩
     obtain⟨m,rfl⟩:=left hn
     show ref35_size_L1 (m+1) _ _ _ _ (m+1) _ _=_
     rw [ref35_size_L1_s,decide_eq_false (show¬0<=lf-1 by omega),show lf-1=-1 by omega]
     cases decide ((0:Int)<((⟨o,k,s,l⟩:M.Expr).Args.length:Int))<;>rfl
    ·refine Ev.suc (fun n=>tariff_sized_s _ _ _ n) ?_
     rw [a1s (by omega) (by omega)]
     exact Ev.bind (a:=true) (Ev.else (decide_eq_false hlv) ((Ev.pure _).eq (decide_eq_true hlf))) (Ev.then rfl (Ev.pure _))
   ·obtain⟨N,s2,r2,A,hs,h⟩:=e1e ⟨o,k,s,l⟩ lv lf hl h2 (by omega) h4 l 0 (lf-1) rfl (by omega) (by omega) ih
    refine⟨s2,r2,?_,?_,A,by omega⟩
    ·refine Ev.suc (fun n=>ref35_size_s _ _ _ n) (Ev.else (decide_eq_false hlv) ?_)
     rw [a1s (by omega) (by omega)]
     exact⟨N+l.length+1,fun n hn=>(h n n (by omega) (by omega)).1⟩
    ·refine Ev.suc (fun n=>tariff_sized_s _ _ _ n) ?_
     rw [a1s (x:=lf) (by omega) (by omega)]
     refine Ev.bind (a:=false) (Ev.else (decide_eq_false hlv) ((Ev.pure _).eq (decide_eq_false hlf))) (Ev.else rfl ?_)
     exact⟨N+l.length+1,fun n hn=>(h n n (by omega) (by omega)).2⟩
theorem e7x{x:M.Expr}(hx:Fit x):∃(b:Bool)(z:Int),Ev (fun n=>tariff_sized n x 10 100) (z,b)/\Ev (fun n=>a6q n x 100 10) b:=by
 obtain⟨s,⟨z,b⟩,h1,h2,⟨A1,A2⟩,_⟩:=e6t hx 10 100 (by decide) (by decide) (by decide) (by decide)
 refine⟨b,z,h2,?_⟩
 unfold a6q
 refine Ev.bind h1 ((Ev.pure _).eq ?_)
 rcases Int.lt_or_le s 0 with h0|h0
 ·rw [decide_eq_false (by omega)];exact(A2 h0).symm
 ·have:=A1 h0
  simp only [Prod.mk.injEq]at this
  rw [decide_eq_true h0];exact this.2.symm
end Go.Proofs.YthaegflpecbfgaaGreatDoor.Ta
namespace Go.Proofs.YthaegflpecbfgaaGreatDoor.Fe
open Go Rt M Ta Tp D
theorem b8y(n:Nat)(l:List Int)(hl:l.length<=1000000)(f:Int->Option Bool)(p:Int->Bool)(hf:∀x,f x=some (p x)):∀(us:List Int)(i m:Nat),l.drop i=us->us.length<m->
 ∃r,slices_IndexFunc_int_int_L1 n l f (some (-1)) m (i:Int)=some r/\decide (0<=r)=us.any p
 | [],i,m,hd,hm=>by
  obtain⟨m,rfl⟩:=left hm
  exact⟨-1,by rw [slices_IndexFunc_int_int_L1_s,a5w hd];rfl,rfl⟩
 |y::us,i,m,hd,hm=>by
  obtain⟨h1,h2,h3⟩:=Rt.drop_cons hd
  obtain⟨m,rfl,hm2⟩:=pred (by simpa using hm)
  obtain⟨r,ih,hr⟩:=b8y n l hl f p hf us (i+1) m h2 hm2
  rw [slices_IndexFunc_int_int_L1_s,a2g hd,cond_true,h1,Option.bind_some,hf,Option.bind_some,List.any_cons]
  cases p y with
  |true=>exact⟨(i:Int),rfl,decide_eq_true (by omega)⟩
  |false=>rw [cond_false,Rt.inc64 (by omega)];exact⟨r,ih,by rw [hr];rfl⟩
theorem c6z{l:List Int}(hl:l.length<=1000000)(f:Nat->Int->Option Bool)(p:Int->Bool)(hf:∀n x,f n x=some (p x)):Ev (fun n=>a2c n l (f n)) (l.any p):=by
 refine⟨l.length+1,fun n hn=> ?_⟩
 unfold a2c a3x
 dsimp only
 obtain⟨r,h,hr⟩:=b8y n l hl (f n) p (hf n) l 0 n rfl (by omega)
 have e:slices_IndexFunc_int_int_L1 n l (f n) (some (-1)) n 0=some r:=h
 rw [e,Option.bind_some,hr]
theorem b9d(l:List Frac)(hl:l.length<=1000000)(f:Nat->Frac->Option Bool)(p:Frac->Bool):∀(us:List Frac)(i:Nat),l.drop i=us->(∀y,y∈us->Ev (fun n=>f n y) (p y))->
 ∃N r,decide (0<=r)=us.any p/\∀n m,N<=n->us.length<m->slices_IndexFunc_api_Frac_api_Frac_L1 n l (f n) (some (-1)) m (i:Int)=some r
 | [],i,hd,_=>by
  refine⟨0,-1,rfl,fun n m _ hm=> ?_⟩
  obtain⟨m,rfl⟩:=left hm
  rw [slices_IndexFunc_api_Frac_api_Frac_L1_s,a5w hd];rfl
 |y::us,i,hd,H=>by
  obtain⟨h1,h2,h3⟩:=Rt.drop_cons hd
  obtain⟨N1,e1⟩:=H y (by simp)
  obtain⟨N,r,hr,ih⟩:=b9d l hl f p us (i+1) h2 (fun z hz=>H z (by simp [hz]))
  rw [List.any_cons]
  cases hp:p y with
  |true=>
   refine⟨N1,(i:Int),decide_eq_true (by omega),fun n m hn hm=> ?_⟩
   obtain⟨m,rfl⟩:=left hm
   have e1:f n y=some (p y):=e1 n (by omega)
   rw [slices_IndexFunc_api_Frac_api_Frac_L1_s,a2g hd,cond_true,h1,Option.bind_some,e1,hp];rfl
  |false=>
   refine⟨max N N1,r,by rw [hr];rfl,fun n m hn hm=> ?_⟩
   obtain⟨m,rfl,hm2⟩:=pred (by simpa using hm)
   have e1:f n y=some (p y):=e1 n (by omega)
   rw [slices_IndexFunc_api_Frac_api_Frac_L1_s,a2g hd,cond_true,h1,Option.bind_some,e1,hp,Option.bind_some,cond_false,Rt.inc64 (by omega)]
   exact ih n m (by omega) hm2
theorem b3s{l:List Frac}(hl:l.length<=1000000)(f:Nat->Frac->Option Bool)(p:Frac->Bool)(hf:∀y,y∈l->Ev (fun n=>f n y) (p y)):Ev (fun n=>a0x n l (f n)) (l.any p):=by
 obtain⟨N,r,hr,h⟩:=b9d l hl f p l 0 rfl hf
 refine⟨N+l.length+1,fun n hn=> ?_⟩
 unfold a0x a2h
 dsimp only
 have e:slices_IndexFunc_api_Frac_api_Frac_L1 n l (f n) (some (-1)) n 0=some r:=h n n (by omega) (by omega)
 rw [e,Option.bind_some,hr]
def badF(w:Frac):Bool:= !a7x w||decide (w.P.Sign<0)
def Lim(k:Nat)(l:List Frac):Prop:=∀w,w∈l->w.P.Digits.length<=k/\w.Q.Digits.length<=k
theorem e7p{w:Frac}{k:Nat}(h:w.P.Digits.length<=k/\w.Q.Digits.length<=k)(hk:k<=30):Ev (fun n=>a7w n w) (badF w):=by
 unfold a7w badF
 refine Ev.bind (b7j h.1 h.2 (by omega)) ?_
 cases hr:a7x w with
 |false=>exact Ev.bind (Ev.then rfl (Ev.pure _)) (Ev.pure _)
 |true=>
  obtain⟨r,rfl,hs⟩:=d5a h hr
  exact Ev.bind (Ev.else rfl (Ev.bind (FSign_ev hs (by omega)) (Ev.pure _))) (Ev.pure _)
theorem d2r(r:Rat):decide (sg r.num<0)=decide (r<0):=by
 rw [e0q]
 rcases a9q r 0 with⟨h1,h2⟩|⟨h1,h2⟩|⟨h1,h2⟩
 ·rw [h2,decide_eq_true h1];rfl
 ·rw [h2,h1];rfl
 ·rw [h2,decide_eq_false (Rat.not_lt.2 (Rat.le_of_lt h1))];rfl
theorem c9x(r:Rat):badF (toF r)=decide (r<0):=by
 unfold badF
 rw [b8r]
 show decide (sg r.num<0)=_
 exact d2r r
theorem c4e{k:Nat}:∀{l:List Frac},Lim k l->l.any badF=false->∃ws:List Rat,l=ws.map toF/\(∀w,w∈ws->0<=w)/\∀w,w∈ws->SmF k w
 | [],_,_=>⟨[],rfl,by simp,by simp⟩
 |x::l,hl,h=>by
  rw [List.any_cons,Bool.or_eq_false_iff]at h
  obtain⟨ws,rfl,h1,h2⟩:=c4e (fun w hw=>hl w (by simp [hw])) h.2
  have hr:a7x x=true:=by
   cases hx:a7x x
   ·have:=h.1;unfold badF at this;rw [hx]at this;cases this
   ·rfl
  obtain⟨r,rfl,hs⟩:=d5a (hl x (by simp)) hr
  have h0:=h.1
  rw [c9x]at h0
  refine⟨r::ws,rfl,?_,?_⟩
  ·intro w hw
   rcases List.mem_cons.1 hw with rfl|hw
   ·exact Rat.not_lt.1 (of_decide_eq_false h0)
   ·exact h1 w hw
  ·intro w hw
   rcases List.mem_cons.1 hw with rfl|hw
   ·exact hs
   ·exact h2 w hw
theorem d9n{ws:List Rat}(h:∀w,w∈ws->0<=w):(ws.map toF).any badF=false:=by
 rw [List.any_eq_false]
 intro x hx
 obtain⟨w,hw,rfl⟩:=List.mem_map.1 hx
 rw [c9x,decide_eq_false (Rat.not_lt.2 (h w hw))];simp
theorem e6l(a b:Int):Ev (fun n=>b9e n a b) (decide (0<=a)&&decide (a<=b)):=by
 unfold b9e
 refine Ev.all fun n=> ?_
 cases decide (0<=a)<;>rfl
theorem e6e(n:Nat)(x:Int):a7u n x=some (!(decide (0<=x)&&decide (x<=200))):=by
 unfold a7u b9e
 cases decide (0<=x)<;>rfl
def b0x(names:List Rt.Bs)(f:Facts)(weights:List Frac):Bool:=
 (((((f.Lifts.length:Int)==(names.length:Int))&&((weights.length:Int)==(names.length:Int)))&&(decide (0<=f.Persons)&&decide (f.Persons<=1000)))&&(decide (0<=f.Flats)&&decide (f.Flats<=1000)))&&
   !(f.Lifts.any fun x=> !(decide (0<=x)&&decide (x<=200)))&& !(weights.any badF)
theorem andE{c d:Bool}{x:Nat->Option Bool}(h:c=true->Ev x d):Ev (fun n=>bif c then x n else some false) (c&&d):=by
 cases c
 ·exact Ev.else rfl (Ev.pure _)
 ·exact Ev.then rfl (h rfl)
theorem d1t{names:List Rt.Bs}{f:Facts}{weights:List Frac}{k:Nat}(hw:Lim k weights)(hk:k<=30)(hl:f.Lifts.length<=1000000)(hwl:weights.length<=1000000):Ev (fun n=>b3x n f weights (names.length:Int)) (b0x names f weights):=by
 unfold b3x b0x
 refine Ev.bind (andE fun _=>Ev.pure _) ?_
 refine Ev.bind (andE fun _=>Ev.bind (e6l _ _) (Ev.pure _)) ?_
 refine Ev.bind (andE fun _=>Ev.bind (e6l _ _) (Ev.pure _)) ?_
 refine Ev.bind (andE fun _=>Ev.bind (c6z hl a7u _ e6e) (Ev.pure _)) ?_
 exact Ev.bind (andE fun _=>Ev.bind (b3s hwl a7w badF (fun y hy=>e7p (hw y hy) hk)) (Ev.pure _)) (Ev.pure _)
theorem b4z{names:List Rt.Bs}{f:Facts}{weights:List Frac}{k:Nat}(hw:Lim k weights)(h:b0x names f weights=true):∃ws:List Rat,weights=ws.map toF/\RF names f ws/\∀w,w∈ws->SmF k w:=by
 unfold b0x at h
 simp only [Bool.and_eq_true,Bool.not_eq_true',decide_eq_true_eq,beq_iff_eq]at h
 obtain⟨⟨⟨⟨⟨h1,h2⟩,h3⟩,h4⟩,h5⟩,h6⟩:=h
 obtain⟨ws,rfl,g1,g2⟩:=c4e hw h6
 rw [List.length_map]at h2
 refine⟨ws,rfl,⟨by omega,by omega,h3.1,h3.2,h4.1,h4.2,fun n hn=> ?_,g1⟩,g2⟩
 rw [List.any_eq_false]at h5
 have:=h5 n hn
 simpa using this
theorem c6l{names:List Rt.Bs}{f:Facts}{ws:List Rat}(h:RF names f ws):b0x names f (ws.map toF)=true:=by
 unfold b0x
 have h1:=h.hl
 have h2:=h.hw
 rw [d9n h.w1,List.length_map]
 have h5:(f.Lifts.any fun x=> !(decide (0<=x)&&decide (x<=200)))=false:=by
  rw [List.any_eq_false]
  intro n hn
  have:=h.l1 n hn
  simp [this]
 rw [h5]
 simp [h.p1,h.p2,h.f1,h.f2,h1,h2]
theorem d9m{r:Rat}{k:Nat}(h:SmF k r)(hk:k<1000000):Ev (fun n=>b3v n (toF r)) (toF r):=by
 unfold b3v
 have h1:=(b2j h).1
 have h2:=(b2j h).2
 exact Ev.bind (Ev.bind (b1z (by omega)) (Ev.bind (b1z (by omega)) (Ev.pure _))) (Ev.pure _)
def fv(names:List Rt.Bs)(f:Facts)(ws:List Rat)(t:Tariff):Rat:=num (mkE names f ws) t.Fee
theorem d4s{ws:List Rat}{k:Nat}(h:∀w,w∈ws->SmF k w):Lim k (ws.map toF):=by
 intro x hx
 obtain⟨w,hw,rfl⟩:=List.mem_map.1 hx
 exact b2j (h w hw)
section
variable{names:List Rt.Bs}{f:Facts}{t:Tariff}(hx:Fit t.Fee)(hn:names.length<4611686018427387904)
include hx hn
theorem d0o{ws:List Rat}{k:Nat}(hsm:∀w,w∈ws->SmF k w)(hk:k<=30)(hk4:4<=k)(hl:names.length<=1000000)(hc:Chk names t)(hrf:RF names f ws):
 Ev (fun n=>a4b n t names f (ws.map toF)) (toF (fv names f ws t),0)/\SmF 3000 (fv names f ws t):=by
 have h1:=hrf.hl
 have h2:=hrf.hw
 obtain⟨j,hj,ht⟩:=hc.2.2
 have hcn:cnt t.Fee<=100:=hc.2.1.2.1.1.2
 have h5:=d5q hrf hk4 hk hsm hn ht hj (by omega)
 have h6:=c7j hrf hk4 hk hsm hn ht hj (by omega)
 have h7:k*cnt t.Fee<=3000:=by have:=Nat.mul_le_mul hk hcn;omega
 have h8:=h6.mono h7
 refine⟨?_,h8⟩
 unfold a4b
 obtain⟨e,he,hq⟩:=c8l hx names hn
 obtain rfl:=hq.2 hc
 refine Ev.bind he (Ev.else rfl ?_)
 refine Ev.bind (d1t (d4s hsm) hk (by omega) (by rw [List.length_map];omega)) ?_
 rw [c6l hrf]
 exact Ev.else rfl (Ev.bind h5 (Ev.bind (d9m h8 (by decide)) (Ev.pure _)))
end
structure FewS(t:Tariff)(names:List Rt.Bs)(f:Facts)(weights:List Frac):Prop where
 fit:Fit t.Fee
 nl:names.length<=8
 ll:f.Lifts.length<=8
 wl:weights.length<=8
 lim:Lim 4 weights
theorem e0l(weights:List Frac)(kont:Nat->Option Bool)(P:Prop)(hk:Tt (fun b=>b=true->P/\weights.length<=8) kont):∀(us:List Frac)(i:Nat),weights.drop i=us->i<=10->
 ∃N r,(r=true->(P/\weights.length<=8)/\Lim 4 us)/\∀n m,N<=n->12-i<m->ref36_Few_L2 n weights (kont n) m (i:Int)=some r
 | [],i,hd,hi=>by
  obtain⟨r,⟨N,h⟩,hr⟩:=hk
  refine⟨N,r,fun h=>⟨hr h,fun w hw=>by cases hw⟩,fun n m hn hm=> ?_⟩
  obtain⟨m,rfl⟩:=left hm
  rw [ref36_Few_L2_s,a5w hd];exact h n hn
 |x::us,i,hd,hi=>by
  obtain⟨h1,h2,h3⟩:=Rt.drop_cons hd
  by_cases h10:i<10
  ·obtain⟨b,⟨N1,e1⟩⟩:∃b,Ev (fun n=>a9s n x 4) b/\(b=true->x.P.Digits.length<=4/\x.Q.Digits.length<=4):=⟨_,e8b x 4,d2u⟩
   obtain⟨⟨N1,e1⟩,hb⟩:=And.intro N1 e1
   obtain⟨N,r,hr,ih⟩:=e0l weights kont P hk us (i+1) h2 (by omega)
   refine⟨max N N1,bif b then r else false,?_,fun n m hn hm=> ?_⟩
   ·cases b with
    |false=>intro h;cases h
    |true=>
     intro h
     obtain⟨g1,g2⟩:=hr h
     refine⟨g1,fun w hw=> ?_⟩
     rcases List.mem_cons.1 hw with rfl|hw
     ·exact hb rfl
     ·exact g2 w hw
   ·obtain⟨m,rfl⟩:∃j,m=j+1:=⟨m-1,by omega⟩
    have e1:a9s n x 4=some b:=e1 n (by omega)
    rw [ref36_Few_L2_s,a2g hd,cond_true,Option.bind_some,decide_eq_true (show(i:Int)<10 by omega),cond_true,h1,Option.bind_some,e1,Option.bind_some]
    cases b with
    |false=>rfl
    |true=>rw [Bool.not_true,cond_false,Rt.inc64 (by omega),ih n m (by omega) (by omega)];rfl
  ·obtain⟨r,⟨N,h⟩,hr⟩:=hk
   refine⟨N,r,fun h=>⟨hr h,?_⟩,fun n m hn hm=> ?_⟩
   ·have:=(hr h).2;omega
   ·obtain⟨m,rfl⟩:=left hm
    rw [ref36_Few_L2_s,a2g hd,cond_true,Option.bind_some,decide_eq_false (show¬(i:Int)<10 by omega)];exact h n hn
theorem e0o(names:List Rt.Bs)(kont:Nat->Option Bool)(P:Prop)(hk:Tt (fun b=>b=true->P) kont):∀(us:List Rt.Bs)(i:Nat),names.drop i=us->i<=10->
 ∃N r,(r=true->P)/\∀n m,N<=n->12-i<m->ref36_Few_L1 n names (kont n) m (i:Int)=some r
 | [],i,hd,hi=>by
  obtain⟨r,⟨N,h⟩,hr⟩:=hk
  refine⟨N,r,hr,fun n m hn hm=> ?_⟩
  obtain⟨m,rfl⟩:=left hm
  rw [ref36_Few_L1_s,a5w hd];exact h n hn
 |x::us,i,hd,hi=>by
  obtain⟨h1,h2,h3⟩:=Rt.drop_cons hd
  by_cases h10:i<10
  ·obtain⟨N,r,hr,ih⟩:=e0o names kont P hk us (i+1) h2 (by omega)
   refine⟨N,bif decide (30<(x.length:Int))then false else r,?_,fun n m hn hm=> ?_⟩
   ·cases decide (30<(x.length:Int))with
    |true=>intro h;cases h
    |false=>exact hr
   ·obtain⟨m,rfl⟩:∃j,m=j+1:=⟨m-1,by omega⟩
    rw [ref36_Few_L1_s,a2g hd,cond_true,Option.bind_some,decide_eq_true (show(i:Int)<10 by omega),cond_true,h1,Option.bind_some]
    cases decide (30<(x.length:Int))with
    |true=>rfl
    |false=>rw [cond_false,Rt.inc64 (by omega),ih n m (by omega) (by omega)];rfl
  ·obtain⟨r,⟨N,h⟩,hr⟩:=hk
   refine⟨N,r,hr,fun n m hn hm=> ?_⟩
   obtain⟨m,rfl⟩:=left hm
   rw [ref36_Few_L1_s,a2g hd,cond_true,Option.bind_some,decide_eq_false (show¬(i:Int)<10 by omega)];exact h n hn
theorem d9x{P:Prop}{c d:Bool}(h:c=true->d=true->P):Tt (fun b=>b=true->P) (fun _:Nat=>bif c then some d else some false):=by
 cases c
 ·exact Tt.pure fun h=>(by cases h)
 ·exact Tt.pure fun h2=>h rfl h2
theorem e8c(t:Tariff)(names:List Rt.Bs)(f:Facts)(weights:List Frac):Tt (fun b=>b=true->FewS t names f weights) (fun n=>b3h n t names f weights):=by
 unfold b3h
 have hk:Tt (fun b=>b=true->(Fit t.Fee/\names.length<=8/\f.Lifts.length<=8)/\weights.length<=8) (fun n=>
  (a6q n t.Fee 60 12).bind fun v1=>
  (bif v1 then some (decide ((t.Name.length:Int)<=30))else some false).bind fun v2=>
  (bif v2 then some (decide ((names.length:Int)<=8))else some false).bind fun v3=>
  (bif v3 then some (decide ((f.Lifts.length:Int)<=8))else some false).bind fun v4=>
  (bif v4 then some (decide ((weights.length:Int)<=8))else some false).bind fun v5=>some v5):=by
  refine Tt.bind (e0h t.Fee 60 12 (by decide) (by decide) (by decide) (by decide)) fun v1 h1=> ?_
  refine Tt.bind (P:=fun b=>b=true->Fit t.Fee) (d9x fun h _=>h1 h) fun v2 h2=> ?_
  refine Tt.bind (P:=fun b=>b=true->Fit t.Fee/\names.length<=8) (d9x fun h h5=>⟨h2 h,by have:=of_decide_eq_true h5;omega⟩) fun v3 h3=> ?_
  refine Tt.bind (P:=fun b=>b=true->Fit t.Fee/\names.length<=8/\f.Lifts.length<=8) (d9x fun h h5=>⟨(h3 h).1,(h3 h).2,by have:=of_decide_eq_true h5;omega⟩) fun v4 h4=> ?_
  refine Tt.bind (P:=fun b=>b=true->(Fit t.Fee/\names.length<=8/\f.Lifts.length<=8)/\weights.length<=8) (d9x fun h h5=>⟨h4 h,by have:=of_decide_eq_true h5;omega⟩) fun v5 h5=> ?_
  exact Tt.pure h5
 obtain⟨N2,r2,hr2,e2⟩:=e0l weights _ _ hk weights 0 rfl (by omega)
 obtain⟨N,r,hr,e⟩:=e0o names (fun n=>ref36_Few_L2 n weights ((fun n=>
  (a6q n t.Fee 60 12).bind fun v1=>
  (bif v1 then some (decide ((t.Name.length:Int)<=30))else some false).bind fun v2=>
  (bif v2 then some (decide ((names.length:Int)<=8))else some false).bind fun v3=>
  (bif v3 then some (decide ((f.Lifts.length:Int)<=8))else some false).bind fun v4=>
  (bif v4 then some (decide ((weights.length:Int)<=8))else some false).bind fun v5=>some v5) n) n 0) _ ⟨r2,⟨max N2 13,fun n hn=>e2 n n (by omega) (by omega)⟩,hr2⟩ names 0 rfl (by omega)
 exact⟨r,⟨max N 13,fun n hn=>e n n (by omega) (by omega)⟩,fun h=>⟨(hr h).1.1.1,(hr h).1.1.2.1,(hr h).1.1.2.2,(hr h).1.2,(hr h).2⟩⟩
end Go.Proofs.YthaegflpecbfgaaGreatDoor.Fe
namespace Go.Proofs.YthaegflpecbfgaaGreatDoor.Fe
open Go Rt M Ta Tp D
theorem e1w{x:M.Expr}:∀{y:M.Expr},y∈x.Args->cnt y<cnt x/\dep y<dep x:=by
 obtain⟨o,n,s,l⟩:=x
 have h1:cnt ⟨o,n,s,l⟩=cnts l+1:=rfl
 have h2:dep ⟨o,n,s,l⟩=deps l+1:=rfl
 have h3:∀(l:List M.Expr)(y:M.Expr),y∈l->cnt y<=cnts l/\dep y<=deps l:=by
  intro l
  induction l with
  |nil=>intro y hy;cases hy
  |cons z l ih=>
   intro y hy
   have e1:cnts (z::l)=cnt z+cnts l:=rfl
   have e2:deps (z::l)=max (dep z) (deps l):=rfl
   rcases List.mem_cons.1 hy with rfl|hy
   ·omega
   ·have:=ih y hy;omega
 intro y hy
 have:=h3 l y hy
 omega
theorem b6d{x y:M.Expr}(h:Frm x)(hy:y∈x.Args):Frm y:=by
 have h1:=e1w hy
 refine⟨⟨by have:=h.1.1;omega,by have:=h.1.2;omega⟩,?_⟩
 obtain⟨o,n,s,l⟩:=x
 exact h.2.inv.2.2.2.2 y hy
theorem b4b{x y:M.Expr}(h:Fit x)(hy:y∈x.Args):Fit y:=by
 cases h with
 |mk _ h2=>exact h2 y hy
theorem e4x{names:List Rt.Bs}(hn:names.length<4611686018427387904)(hnm:named names=true){x:M.Expr}(hx:Fit x)(hf:Frm x){k:Int}(ht:Typ names x k):Ev (fun n=>b0f n x names) (k,0):=by
 unfold b0f
 refine Ev.bind (b6r hn) (Ev.else (by rw [hnm];rfl) ?_)
 obtain⟨b,eb,hb⟩:=e0e hx
 obtain rfl:=hb.2 hf
 refine Ev.bind eb (Ev.else rfl ?_)
 obtain⟨r,er,hr⟩:=c8r hx names hn hf.2
 obtain rfl:=hr.2 k ht
 exact Ev.bind er (Ev.pure _)
theorem c3o{p q:Int}(h:wd p q≠2):p≠2/\q≠2:=by
 unfold wd at h
 constructor
 ·intro e;subst e;exact h rfl
 ·intro e;subst e;apply h;cases p==2<;>rfl
theorem d0b{names:List Rt.Bs}{E E':Env}(hl:E.lf=E'.lf)(hp:E.pers=E'.pers)(hf:E.flats=E'.flats){x:M.Expr}{k:Int}(ht:Typ names x k):k≠2->vl E x=vl E' x:=by
 have v2:∀{o:Int}{a b:M.Expr},vl E a=vl E' a->vl E b=vl E' b->vl E ⟨o,0,[],[a,b]⟩=vl E' ⟨o,0,[],[a,b]⟩:=by
  intro o a b ha hb
  show c9g E o 0 [] [vl E a,vl E b]=c9g E' o 0 [] [vl E' a,vl E' b]
  rw [ha,hb];rfl
 induction ht with
 |num=>intro _;rfl
 |lifts _ hs=>intro _;show((E.lf _:Rat),false)=_;rw [hl];rfl
 |pers=>intro _;show((E.pers:Rat),false)=_;rw [hp];rfl
 |flats=>intro _;show((E.flats:Rat),false)=_;rw [hf];rfl
 |wgt _ hs=>intro h;exact absurd rfl h
 |ari _ _ _ _ _ ha hb=>intro h;exact v2 (ha (c3o h).1) (hb (c3o h).2)
 |mul _ _ _ _ _ ha hb=>intro h;exact v2 (ha (c3o h).1) (hb (c3o h).2)
 |div _ _ _ _ ha=>intro h;exact v2 (ha h) rfl
 | @ite c a b _ _ _ _ _ _ _ hc ha hb=>
  intro h
  show c9g E 11 0 [] [vl E c,vl E a,vl E b]=c9g E' 11 0 [] [vl E' c,vl E' a,vl E' b]
  rw [hc (by decide),ha (c3o h).1,hb (c3o h).2];rfl
 |rel _ _ _ ha hb=>intro _;exact v2 (ha (by decide)) (hb (by decide))
 | @not a _ ha=>
  intro _
  show c9g E 14 0 [] [vl E a]=c9g E' 14 0 [] [vl E' a]
  rw [ha (by decide)];rfl
 |bin _ _ _ ha hb=>intro _;exact v2 (ha (by decide)) (hb (by decide))
theorem d3o{names:List Rt.Bs}{E E':Env}(hl:E.lf=E'.lf)(hp:E.pers=E'.pers)(hf:E.flats=E'.flats){x:M.Expr}{k:Int}(ht:Typ names x k)(hk:k≠2):num E x=num E' x:=by
 unfold num;rw [d0b hl hp hf ht hk]
theorem d3h{names:List Rt.Bs}{E E':Env}(hl:E.lf=E'.lf)(hp:E.pers=E'.pers)(hf:E.flats=E'.flats){x:M.Expr}(ht:Typ names x 0):tru E x=tru E' x:=by
 unfold tru;rw [d0b hl hp hf ht (by decide)]
end Go.Proofs.YthaegflpecbfgaaGreatDoor.Fe
namespace Go.Proofs.YthaegflpecbfgaaGreatDoor.Fm
open Go Rt M Ta Tp D Fe
def b7q(k:Nat):Nat->RFm->Bool
 |_,[]=>true
 |c,l::f=>decide (c*l.length*k<=200)&&b7q k (c*l.length) f
def oppB(f:RFm):Option RFm:=if b7q f.length 1 f=true then some (opp f)else none
def b9k(n:Nat)(f:RFm)(c:Rat):Option RFm:=if c=0 then some (cst n 0)else if 0<c then some (scl c f)else(oppB f).map (scl (-c))
def c5p(o:Int)(f g:RFm):Nat:=if o=9 then sz f+sz g else if o=10 then sz f*g.length+sz g*f.length else sz f*sz g
def b9m(o:Int)(f g:RFm):RFm:=if o=9 then f++g else if o=10 then join (·++·) f g else join sums f g
def c3a(o:Int)(f g:RFm):Option RFm:=(if o=6 then oppB g else some g).bind fun g=>if c5p o f g<=200 then some (b9m o f g)else none
def mkN(names:List Rt.Bs)(o:Int)(s:Rt.Bs)(v:Rat):List (Rat×Bool)->List (Bool×Option RFm)->Bool×Option RFm
 | [va,vb],[a,b]=>if(a.1||b.1)=true then(true,if o=7 then(if a.1=true then a.2.bind fun f=>b9k names.length f vb.1 else b.2.bind fun f=>b9k names.length f va.1)else if o=8 then a.2.map (scl (1/vb.1))else a.2.bind fun f=>b.2.bind fun g=>c3a o f g)else(false,some (cst names.length v))
 | [vc,_,_],[_,a,b]=>if(a.1||b.1)=true then(true,if vc.2=true then a.2 else b.2)else(false,some (cst names.length v))
 |_,_=>if o=4 then(true,some (wgt names.length (names.idxOf s)))else(false,some (cst names.length v))
theorem b2b(names:List Rt.Bs)(o:Int)(s:Rt.Bs)(v:Rat)(va vb:Rat×Bool)(a b:Bool×Option RFm):mkN names o s v [va,vb] [a,b]=if(a.1||b.1)=true then(true,if o=7 then(if a.1=true then a.2.bind fun f=>b9k names.length f vb.1 else b.2.bind fun f=>b9k names.length f va.1)else if o=8 then a.2.map (scl (1/vb.1))else a.2.bind fun f=>b.2.bind fun g=>c3a o f g)else(false,some (cst names.length v)):=rfl
theorem c0z(names:List Rt.Bs)(o:Int)(s:Rt.Bs)(v:Rat)(vc va vb:Rat×Bool)(c a b:Bool×Option RFm):mkN names o s v [vc,va,vb] [c,a,b]=if(a.1||b.1)=true then(true,if vc.2=true then a.2 else b.2)else(false,some (cst names.length v)):=rfl
mutual
def mk(names:List Rt.Bs)(E:Fe.Env):M.Expr->Bool×Option RFm
 |⟨o,m,s,l⟩=>mkN names o s (num E ⟨o,m,s,l⟩) (vls E l) (mks names E l)
def mks(names:List Rt.Bs)(E:Fe.Env):List M.Expr->List (Bool×Option RFm)
 | []=> []
 |x::l=>mk names E x::mks names E l
 end
theorem c0b{k:Nat}:∀{f:RFm}{c:Nat},b7q k c f=true->f≠ []->c*prd f*k<=200
 | [],_,_,h=>absurd rfl h
 | [l],c,h,_=>by
  unfold b7q at h
  simp only [Bool.and_eq_true,decide_eq_true_eq]at h
  show c*(l.length*1)*k<=200
  rw [Nat.mul_one];exact h.1
 |l::m::f,c,h,_=>by
  unfold b7q at h
  simp only [Bool.and_eq_true]at h
  have:=c0b h.2 (by simp)
  show c*(l.length*prd (m::f))*k<=200
  rw [<-Nat.mul_assoc c];exact this
theorem d4c{f g:RFm}(h:oppB f=some g):g=opp f/\sz g<=200:=by
 unfold oppB at h
 split at h
 ·rename_i hk
  cases h
  refine⟨rfl,?_⟩
  rw [e0t]
  by_cases h0:f= []
  ·subst h0;decide
  ·have:=c0b hk h0
   rw [Nat.one_mul]at this;exact this
 ·cases h
structure Gd(n B:Nat)(f:RFm):Prop where
 wide:Wide n f
 sm:∀p,p∈f->∀a,a∈p->SmF B a.1/\∀c,c∈a.2->SmF B c
theorem sm0{B:Nat}(hB:1<=B):SmF B 0:=c4z (x:=0) (sm01 (by decide) (by decide) hB) hB
theorem sm1{B:Nat}(hB:1<=B):SmF B 1:=c4z (x:=1) (sm01 (by decide) (by decide) hB) hB
section
variable{n A B:Nat}{f g:RFm}
theorem Gd.mono(h:Gd n A f)(hk:A<=B):Gd n B f:=⟨h.wide,fun p hp a ha=>⟨(h.sm p hp a ha).1.mono hk,fun c hc=>((h.sm p hp a ha).2 c hc).mono hk⟩⟩
theorem e0g{c:Rat}(hc:SmF B c)(hB:1<=B):Gd n B (cst n c):=by
 refine⟨e0d n c,fun p hp a ha=> ?_⟩
 obtain rfl:=List.mem_singleton.1 hp
 obtain rfl:=List.mem_singleton.1 ha
 refine⟨hc,fun d hd=> ?_⟩
 obtain⟨_,rfl⟩:=List.mem_replicate.1 hd
 exact sm0 hB
theorem e0s{k:Nat}(hB:1<=B):Gd n B (wgt n k):=by
 refine⟨d9t n k,fun p hp a ha=> ?_⟩
 obtain rfl:=List.mem_singleton.1 hp
 obtain rfl:=List.mem_singleton.1 ha
 refine⟨sm0 hB,fun d hd=> ?_⟩
 rcases List.mem_or_eq_of_mem_set hd with h|rfl
 ·obtain⟨_,rfl⟩:=List.mem_replicate.1 h
  exact sm0 hB
 ·exact sm1 hB
theorem e1i(h:Gd n B f)(k:Gd n B g):Gd n B (f++g):=by
 refine⟨d8c h.wide k.wide,fun p hp=> ?_⟩
 rcases List.mem_append.1 hp with hp|hp
 ·exact h.sm p hp
 ·exact k.sm p hp
theorem d7p(h:Gd n B f)(k:Gd n B g):Gd n B (join (·++·) f g):=by
 refine⟨d5s h.wide k.wide,fun p hp a ha=> ?_⟩
 obtain⟨x,y,hx,hy,rfl⟩:=b0q.1 hp
 rcases List.mem_append.1 ha with ha|ha
 ·exact h.sm x hx a ha
 ·exact k.sm y hy a ha
theorem d3p{α:Type}{op:α->α->α}{c:α}:∀{a b:List α},c∈List.zipWith op a b->∃x y,x∈a/\y∈b/\c=op x y
 | [],_,h=>by simp at h
 |_::_,[],h=>by simp at h
 |x::a,y::b,h=>by
  rcases List.mem_cons.1 h with rfl|h
  ·exact⟨x,y,by simp,by simp,rfl⟩
  ·obtain⟨p,q,hp,hq,e⟩:=d3p h
   exact⟨p,q,by simp [hp],by simp [hq],e⟩
theorem e3i{a b:RA}(ha:SmF A a.1/\∀c,c∈a.2->SmF A c)(hb:SmF B b.1/\∀c,c∈b.2->SmF B c):SmF (A+B+1) (addA a b).1/\∀c,c∈(addA a b).2->SmF (A+B+1) c:=by
 refine⟨ha.1.add hb.1,fun c hc=> ?_⟩
 obtain⟨x,y,hx,hy,rfl⟩:=d3p hc
 exact(ha.2 x hx).add (hb.2 y hy)
theorem e4v{a:RA}{c:Rat}(ha:SmF A a.1/\∀c,c∈a.2->SmF A c)(hc:SmF B c):SmF (A+B) (mulA c a).1/\∀d,d∈(mulA c a).2->SmF (A+B) d:=by
 refine⟨ha.1.mul hc,fun d hd=> ?_⟩
 obtain⟨x,hx,rfl⟩:=List.mem_map.1 hd
 exact(ha.2 x hx).mul hc
theorem e5a{a:RA}(ha:SmF A a.1/\∀c,c∈a.2->SmF A c):SmF A (mulA (-1) a).1/\∀d,d∈(mulA (-1) a).2->SmF A d:=by
 have e:∀x:Rat,x*(-1)=-x:=fun x=>by grind
 refine⟨?_,fun d hd=> ?_⟩
 ·show SmF A (a.1*(-1));rw [e];exact ha.1.neg
 ·obtain⟨x,hx,rfl⟩:=List.mem_map.1 hd
  show SmF A (x*(-1));rw [e];exact(ha.2 x hx).neg
theorem c5s(h:Gd n A f)(k:Gd n B g):Gd n (A+B+1) (join sums f g):=by
 refine⟨d4m h.wide k.wide,fun p hp a ha=> ?_⟩
 obtain⟨x,y,hx,hy,rfl⟩:=b0q.1 hp
 obtain⟨b,c,hb,hc,rfl⟩:=b9u.1 ha
 exact e3i (h.sm x hx b hb) (k.sm y hy c hc)
theorem d0z{c:Rat}(h:Gd n A f)(hc:SmF B c):Gd n (A+B) (scl c f):=by
 refine⟨d9o h.wide,fun p hp a ha=> ?_⟩
 unfold scl at hp
 obtain⟨x,hx,rfl⟩:=List.mem_map.1 hp
 obtain⟨b,hb,rfl⟩:=List.mem_map.1 ha
 exact e4v (h.sm x hx b hb) hc
theorem d6q(h:Gd n A f):Gd n A (opp f):=by
 refine⟨d0m h.wide,fun p hp a ha=> ?_⟩
 obtain⟨q,b,hq,hb,rfl⟩:=(b7z.1 hp).all a ha
 exact e5a (h.sm q hq b hb)
end
structure Is(n B:Nat)(f:RFm)(V:List Rat->Rat):Prop where
 gd:Gd n B f
 sz:sz f<=200
 val:∀ws:List Rat,ws.length=n->IsV f ws (V ws)
section
variable{n A B:Nat}{f g:RFm}{U V:List Rat->Rat}
theorem Is.ne(h:Is n B f V):f≠ []/\∀p,p∈f->p≠ []:=by
 obtain⟨h1,p,hp,_⟩:=h.val (List.replicate n 0) (by simp)
 refine⟨fun e=>(by subst e;cases hp),fun p hp e=> ?_⟩
 obtain⟨a,ha,_⟩:=h1 p hp
 subst e;cases ha
theorem len_sz:∀{f:RFm},(∀p,p∈f->p≠ [])->f.length<=Fm.sz f
 | [],_=>Nat.le_refl _
 |p::f,h=>by
  have h1:0<p.length:=List.length_pos_iff.2 (h p (by simp))
  have:=len_sz (f:=f) (fun q hq=>h q (by simp [hq]))
  show f.length+1<=p.length+Fm.sz f
  omega
theorem Is.len(h:Is n B f V):f.length<=200:=Nat.le_trans (len_sz h.ne.2) h.sz
theorem e0n{c:Rat}(hc:SmF B c)(hB:1<=B)(hV:∀ws:List Rat,ws.length=n->V ws=c):Is n B (cst n c) V:=
 ⟨e0g hc hB,by show 1+0<=200;decide,fun ws hl=>by rw [hV ws hl];exact e2a n c ws⟩
theorem d3q{c:Rat}(h:Is n A f U)(hc:SmF B c)(hB:1<=B)(hV:∀ws:List Rat,ws.length=n->V ws=U ws*c)(hg:b9k n f c=some g):Is n (A+B) g V:=by
 unfold b9k at hg
 split at hg
 ·rename_i h0
  cases hg;subst h0
  exact e0n (sm0 (by omega)) (by omega) (fun ws hl=>by rw [hV ws hl,Rat.mul_zero])
 ·rename_i h0
  split at hg
  ·rename_i h1
   cases hg
   exact⟨d0z h.gd hc,by rw [c7n];exact h.sz,fun ws hl=>by rw [hV ws hl];exact c9s h1 (h.val ws hl)⟩
  ·rename_i h1
   obtain⟨k,hk,rfl⟩:=Option.map_eq_some_iff.1 hg
   obtain⟨rfl,h2⟩:=d4c hk
   refine⟨d0z (d6q h.gd) hc.neg,by rw [c7n];exact h2,fun ws hl=> ?_⟩
   have:V ws=-U ws*-c:=by rw [hV ws hl];grind
   rw [this]
   exact c9s (by grind) (d6p (h.val ws hl))
theorem e3a{o:Int}{r:RFm}(ho:o=5∨o=6∨o=9∨o=10)(h:Is n A f U)(k:Is n B g V){W:List Rat->Rat}(hW:∀ws:List Rat,ws.length=n->W ws=two o (U ws) (V ws))(hr:c3a o f g=some r):Is n (A+B+1) r W:=by
 unfold c3a at hr
 obtain⟨g',hg,hr⟩:=Option.bind_eq_some_iff.1 hr
 split at hr
 ·rename_i hs
  cases hr
  rcases ho with rfl|rfl|rfl|rfl
  ·cases hg
   exact⟨c5s h.gd k.gd,by show Fm.sz (join sums f g)<=200;rw [sz_sums];exact hs,fun ws hl=>by rw [hW ws hl];exact d6i h.gd.wide k.gd.wide (h.val ws hl) (k.val ws hl)⟩
  ·obtain⟨rfl,_⟩:=d4c hg
   refine⟨c5s h.gd (d6q k.gd),by show Fm.sz (join sums f (opp g))<=200;rw [sz_sums];exact hs,fun ws hl=> ?_⟩
   have:W ws=U ws+-V ws:=by rw [hW ws hl,e4g,Rat.sub_eq_add_neg]
   rw [this]
   exact d6i h.gd.wide (d0m k.gd.wide) (h.val ws hl) (d6p (k.val ws hl))
  ·cases hg
   exact⟨e1i (h.gd.mono (by omega)) (k.gd.mono (by omega)),by show Fm.sz (f++g)<=200;rw [sz_app];exact hs,fun ws hl=>by rw [hW ws hl,d7s];exact d3n (h.val ws hl) (k.val ws hl)⟩
  ·cases hg
   exact⟨d7p (h.gd.mono (by omega)) (k.gd.mono (by omega)),by show Fm.sz (join (·++·) f g)<=200;rw [sz_both];exact hs,fun ws hl=>by rw [hW ws hl,d4r];exact e3m (h.val ws hl) (k.val ws hl)⟩
 ·cases hr
theorem Is.mono(h:Is n A f V)(hk:A<=B):Is n B f V:=⟨h.gd.mono hk,h.sz,h.val⟩
theorem Is.to(h:Is n A f U)(hV:∀ws:List Rat,ws.length=n->V ws=U ws):Is n A f V:=⟨h.gd,h.sz,fun ws hl=>by rw [hV ws hl];exact h.val ws hl⟩
end
def E0(names:List Rt.Bs)(f:Facts):Fe.Env:=mkE names f (List.replicate names.length 0)
theorem wd2{p q:Int}(hp:p=1∨p=2)(hq:q=1∨q=2):(wd p q==2)=((p==2)||(q==2)):=by
 rcases hp with rfl|rfl<;>rcases hq with rfl|rfl<;>rfl
theorem r12{names:List Rt.Bs}{x:M.Expr}{k:Int}(h:Typ names x k)(hk:k≠0):k=1∨k=2:=by
 rcases h.range with h|h|h
 ·exact absurd h hk
 ·exact .inl h
 ·exact .inr h
section
variable{names:List Rt.Bs}{fc:Facts}(hf:RF names fc (List.replicate names.length 0))(hn:names.length<4611686018427387904)
include hf hn
theorem b7x{x:M.Expr}{k:Int}(ht:Typ names x k)(hk:k≠0)(hc:cnt x<=1000):SmF (4*cnt x) (num (E0 names fc) x):=
 c7j (W:=4) hf (by decide) (by decide) (fun w hw=>by obtain⟨_,rfl⟩:=List.mem_replicate.1 hw;exact sm0 (by decide)) hn ht hk hc
omit hf hn in
theorem e3j(x:M.Expr){k:Int}(ht:Typ names x k)(hk:k≠2)(ws:List Rat):num (mkE names fc ws) x=num (E0 names fc) x:=d3o (E:=mkE names fc ws) (E':=E0 names fc) rfl rfl rfl ht hk
theorem e5s{x:M.Expr}(ht:Typ names x 1)(hc:cnt x<=1000)(hp:1<=cnt x):Is names.length (4*cnt x) (cst names.length (num (E0 names fc) x)) (fun ws=>num (mkE names fc ws) x):=
 e0n (b7x hf hn ht (by decide) hc) (by omega) (fun ws _=>e3j x ht (by decide) ws)
omit hf hn in
theorem b1d(x:M.Expr):1<=cnt x:=by obtain⟨o,n,s,l⟩:=x;show 1<=cnts l+1;omega
def Mk(names:List Rt.Bs)(fc:Facts)(x:M.Expr)(k:Int):Prop:=
 (mk names (E0 names fc) x).1=(k==2)/\(k=1->(mk names (E0 names fc) x).2=some (cst names.length (num (E0 names fc) x)))/\∀F,(mk names (E0 names fc) x).2=some F->Is names.length (4*cnt x) F (fun ws=>num (mkE names fc ws) x)
theorem b9h{x:M.Expr}(ht:Typ names x 1)(hc:cnt x<=1000)(h:mk names (E0 names fc) x=(false,some (cst names.length (num (E0 names fc) x)))):Mk names fc x 1:=by
 refine⟨by rw [h];rfl,fun _=>by rw [h],fun F hF=> ?_⟩
 rw [h]at hF;cases hF
 exact e5s hf hn ht hc (b1d x)
omit hf hn in
theorem b6o(o m:Int)(s:Rt.Bs)(a b:M.Expr):mk names (E0 names fc) ⟨o,m,s,[a,b]⟩=mkN names o s (num (E0 names fc) ⟨o,m,s,[a,b]⟩) [vl (E0 names fc) a,vl (E0 names fc) b] [mk names (E0 names fc) a,mk names (E0 names fc) b]:=rfl
theorem c3h{x:M.Expr}{k:Int}(ht:Typ names x k):cnt x<=1000->k≠0->Mk names fc x k:=by
 have c2:∀(o n:Int)(s:Rt.Bs)(a b:M.Expr),cnt ⟨o,n,s,[a,b]⟩=cnt a+cnt b+1:=fun o n s a b=>by show cnt a+(cnt b+0)+1=_;omega
 have ht0:=ht
 induction ht with
 |num h0 h1=>intro hc _;exact b9h hf hn ht0 hc rfl
 |lifts h0 h1=>intro hc _;exact b9h hf hn ht0 hc rfl
 |pers=>intro hc _;exact b9h hf hn ht0 hc rfl
 |flats=>intro hc _;exact b9h hf hn ht0 hc rfl
 | @wgt s h0 hs=>
  intro hc _
  refine⟨rfl,fun h=>(by cases h),fun F hF=> ?_⟩
  cases hF
  refine⟨e0s (by show 1<=4*1;decide),by show 1+0<=200;decide,fun ws hl=>e2h hl ?_⟩
  show ws[names.idxOf s]?=some (Fe.look names ws 0 s)
  have:=c8n (0:Rat) hs hl.symm
  rwa [b2z]at this
 | @ari o a b p q ho ha hb hp hq iha ihb=>
  intro hc _
  rw [c2]at hc
  obtain⟨a1,a2,a3⟩:=iha ha (by omega) hp
  obtain⟨b1,b2,b3⟩:=ihb hb (by omega) hq
  have hw:=wd2 (r12 ha hp) (r12 hb hq)
  have hcond:((mk names (E0 names fc) a).1||(mk names (E0 names fc) b).1)=(wd p q==2):=by rw [a1,b1,hw]
  cases h2:(wd p q==2)with
  |false=>
   have h1:wd p q=1:=by rcases a9o p q with h|h;exact h;rw [h]at h2;cases h2
   rw [h1]at ht0⊢
   refine b9h hf hn ht0 (by rw [c2];omega) ?_
   rw [b6o,b2b]
   rw [if_neg (by rw [hcond,h2];decide)]
  |true=>
   have e:mk names (E0 names fc) ⟨o,0,[],[a,b]⟩=(true,(mk names (E0 names fc) a).2.bind fun f=>(mk names (E0 names fc) b).2.bind fun g=>c3a o f g):=by
    rw [b6o,b2b]
    rw [if_pos (by rw [hcond,h2]),if_neg (by omega),if_neg (by omega)]
   refine⟨by rw [e,h2],fun h=>(by rw [h]at h2;cases h2),fun F hF=> ?_⟩
   rw [e]at hF
   obtain⟨f,hf1,hF⟩:=Option.bind_eq_some_iff.1 hF
   obtain⟨g,hg1,hF⟩:=Option.bind_eq_some_iff.1 hF
   rw [c2]
   exact(e3a ho (a3 f hf1) (b3 g hg1) (fun ws hl=>num_two ..) hF).mono (by omega)
 | @mul a b p q ha hb hp hq hpq iha ihb=>
  intro hc _
  rw [c2]at hc
  obtain⟨a1,a2,a3⟩:=iha ha (by omega) hp
  obtain⟨b1,b2,b3⟩:=ihb hb (by omega) hq
  have hw:=wd2 (r12 ha hp) (r12 hb hq)
  have hcond:((mk names (E0 names fc) a).1||(mk names (E0 names fc) b).1)=(wd p q==2):=by rw [a1,b1,hw]
  cases h2:(wd p q==2)with
  |false=>
   have h1:wd p q=1:=by rcases a9o p q with h|h;exact h;rw [h]at h2;cases h2
   rw [h1]at ht0⊢
   refine b9h hf hn ht0 (by rw [c2];omega) ?_
   rw [b6o,b2b]
   rw [if_neg (by rw [hcond,h2];decide)]
  |true=>
   have e:mk names (E0 names fc) ⟨7,0,[],[a,b]⟩=(true,if(mk names (E0 names fc) a).1=true then(mk names (E0 names fc) a).2.bind fun f=>b9k names.length f (num (E0 names fc) b)else(mk names (E0 names fc) b).2.bind fun f=>b9k names.length f (num (E0 names fc) a)):=by
    rw [b6o,b2b]
    rw [if_pos (by rw [hcond,h2]),if_pos rfl];rfl
   refine⟨by rw [e,h2],fun h=>(by rw [h]at h2;cases h2),fun F hF=> ?_⟩
   rw [e]at hF
   dsimp only at hF
   rw [c2]
   split at hF
   ·rename_i hA
    obtain⟨f,hf1,hF⟩:=Option.bind_eq_some_iff.1 hF
    have hp2:p=2:=by rw [a1]at hA;exact of_decide_eq_true hA
    have hq1:q=1:=by rcases r12 hb hq with h|h;exact h;exact absurd ⟨hp2,h⟩ hpq
    subst hq1
    refine(d3q (a3 f hf1) (b7x hf hn hb (by decide) (by omega)) (by have:=b1d b;omega) (fun ws hl=> ?_) hF).mono (by omega)
    rw [num_two,d5j,e3j b hb (by decide) ws]
   ·rename_i hA
    obtain⟨f,hf1,hF⟩:=Option.bind_eq_some_iff.1 hF
    have hp1:p=1:=by
     rcases r12 ha hp with h|h
     ·exact h
     ·rw [a1,h]at hA;exact absurd rfl hA
    subst hp1
    refine(d3q (b3 f hf1) (b7x hf hn ha (by decide) (by omega)) (by have:=b1d a;omega) (fun ws hl=> ?_) hF).mono (by omega)
    rw [num_two,d5j,e3j a ha (by decide) ws,Rat.mul_comm]
 | @div a m p ha hp h1 h2 iha=>
  intro hc _
  rw [c2]at hc
  obtain⟨a1,a2,a3⟩:=iha ha (by omega) hp
  have hb:(mk names (E0 names fc) ⟨0,m,[],[]⟩).1=false:=rfl
  rcases r12 ha hp with rfl|rfl
  ·refine b9h hf hn ht0 (by rw [c2];omega) ?_
   rw [b6o,b2b]
   rw [if_neg (by rw [a1,hb];decide)]
  ·have e:mk names (E0 names fc) ⟨8,0,[],[a,⟨0,m,[],[]⟩]⟩=(true,(mk names (E0 names fc) a).2.map (scl (1/(m:Rat)))):=by
    rw [b6o,b2b]
    rw [if_pos (by rw [a1,hb];decide),if_neg (by decide),if_pos rfl];rfl
   refine⟨by rw [e];rfl,fun h=>(by cases h),fun F hF=> ?_⟩
   rw [e]at hF
   obtain⟨f,hf1,rfl⟩:=Option.map_eq_some_iff.1 hF
   have hm:(0:Rat)<(m:Rat):=by
    have:=Rat.intCast_lt_intCast.2 (show(0:Int)<m by omega)
    simpa using this
   have hm':(0:Rat)<1/(m:Rat):=by rw [Rat.div_def,Rat.one_mul];exact Rat.inv_pos.2 hm
   have hs:SmF 5 (1/(m:Rat)):=e4s (j:=1) (k:=4) (sm1 (by decide)) (smI (x:=m) (by omega) (by omega) (by decide)) (by rw [Rat.num_intCast];omega)
   rw [c2]
   refine⟨(d0z (a3 f hf1).gd hs).mono (by show 4*cnt a+5<=4*(cnt a+(0+1)+1);omega),by rw [c7n];exact(a3 f hf1).sz,fun ws hl=> ?_⟩
   have:num (mkE names fc ws) ⟨8,0,[],[a,⟨0,m,[],[]⟩]⟩=num (mkE names fc ws) a*(1/(m:Rat)):=by
    rw [num_two,num_num,e3p,Rat.div_def,Rat.div_def,Rat.one_mul]
   show IsV _ ws (num (mkE names fc ws) ⟨8,0,[],[a,⟨0,m,[],[]⟩]⟩)
   rw [this]
   exact c9s hm' ((a3 f hf1).val ws hl)
 | @ite c a b p q hc0 ha hb hp hq ihc iha ihb=>
  intro hc _
  have hc3:cnt ⟨11,0,[],[c,a,b]⟩=cnt c+cnt a+cnt b+1:=by show cnt c+(cnt a+(cnt b+0))+1=_;omega
  rw [hc3]at hc
  obtain⟨a1,a2,a3⟩:=iha ha (by omega) hp
  obtain⟨b1,b2,b3⟩:=ihb hb (by omega) hq
  have hw:=wd2 (r12 ha hp) (r12 hb hq)
  have hcond:((mk names (E0 names fc) a).1||(mk names (E0 names fc) b).1)=(wd p q==2):=by rw [a1,b1,hw]
  have e0:mk names (E0 names fc) ⟨11,0,[],[c,a,b]⟩=mkN names 11 [] (num (E0 names fc) ⟨11,0,[],[c,a,b]⟩) [vl (E0 names fc) c,vl (E0 names fc) a,vl (E0 names fc) b] [mk names (E0 names fc) c,mk names (E0 names fc) a,mk names (E0 names fc) b]:=rfl
  cases h2:(wd p q==2)with
  |false=>
   have h1:wd p q=1:=by rcases a9o p q with h|h;exact h;rw [h]at h2;cases h2
   rw [h1]at ht0⊢
   refine b9h hf hn ht0 (by rw [hc3];omega) ?_
   rw [e0,c0z]
   rw [if_neg (by rw [hcond,h2];decide)]
  |true=>
   have e:mk names (E0 names fc) ⟨11,0,[],[c,a,b]⟩=(true,if tru (E0 names fc) c=true then(mk names (E0 names fc) a).2 else(mk names (E0 names fc) b).2):=by
    rw [e0,c0z]
    rw [if_pos (by rw [hcond,h2])];rfl
   refine⟨by rw [e,h2],fun h=>(by rw [h]at h2;cases h2),fun F hF=> ?_⟩
   rw [e]at hF
   dsimp only at hF
   rw [hc3]
   have ht:∀ws,tru (mkE names fc ws) c=tru (E0 names fc) c:=fun ws=>d3h (E:=mkE names fc ws) (E':=E0 names fc) rfl rfl rfl hc0
   split at hF
   ·rename_i hA
    exact((a3 F hF).mono (by omega)).to (fun ws _=>by rw [num_ite,ht,if_pos hA])
   ·rename_i hA
    exact((b3 F hF).mono (by omega)).to (fun ws _=>by rw [num_ite,ht,if_neg hA])
 |rel=>intro _ h;exact absurd rfl h
 |not=>intro _ h;exact absurd rfl h
 |bin=>intro _ h;exact absurd rfl h
end
end Go.Proofs.YthaegflpecbfgaaGreatDoor.Fm
namespace Go.Proofs.YthaegflpecbfgaaGreatDoor.Rt
open Go
theorem mulN{x y:Nat}(h:x*y<=9223372036854775807):imul .i64 (x:Int) (y:Int)=((x*y:Nat):Int):=by
 have e:((x*y:Nat):Int)=(x:Int)*(y:Int):=Int.natCast_mul x y
 rw [a7a (by rw [<-e];omega) (by rw [<-e];omega),e]
section
variable{α β σ ρ κ:Type}{xs:List α}{h:α->β}
theorem e1y{L:Nat->κ->Nat->Int->σ->Option ρ}(fin:κ->σ->Option ρ)(Inv:List α->σ->Prop)(Ex:ρ->Prop)
 (hb:∀p x q s,xs=p++x::q->Inv p s->(∃s',Inv (p++ [x]) s'/\∃N,∀n K m,N<=n->L n K (m+1) (p.length:Int) s=L n K m ((p.length+1:Nat):Int) s')∨(∃r,Ex r/\∃N,∀n K m,N<=n->L n K (m+1) (p.length:Int) s=some r))
 (he:∀s,Inv xs s->∃N,∀n K m,N<=n->L n K (m+1) (xs.length:Int) s=fin K s) {s0:σ} (h0:Inv [] s0):(∃s',Inv xs s'/\∃N,∀n K,N<=n->L n K n 0 s0=fin K s')∨(∃r,Ex r/\∃N,∀n K,N<=n->L n K n 0 s0=some r):=by
 have go:∀q p s,xs=p++q->Inv p s->(∃s',Inv xs s'/\∃N,∀n K m,N<=n->q.length<m->L n K m (p.length:Int) s=fin K s')∨(∃r,Ex r/\∃N,∀n K m,N<=n->q.length<m->L n K m (p.length:Int) s=some r):=by
  intro q
  induction q with
  |nil=>
   intro p s hx hp
   rw [List.append_nil]at hx
   subst hx
   obtain⟨N,e⟩:=he s hp
   refine .inl ⟨s,hp,N,fun n K m hn hm=> ?_⟩
   obtain⟨m,rfl⟩:∃j,m=j+1:=⟨m-1,by simp only [List.length_nil]at hm;omega⟩
   exact e n K m hn
  |cons x q ih=>
   intro p s hx hp
   rcases hb p x q s hx hp with⟨s',hi,N1,e1⟩|⟨r,hr,N1,e1⟩
   ·rcases ih (p++ [x]) s' (by rw [hx];simp) hi with⟨s2,hi2,N2,e2⟩|⟨r,hr,N2,e2⟩
    ·refine .inl ⟨s2,hi2,max N1 N2,fun n K m hn hm=> ?_⟩
     obtain⟨m,rfl⟩:∃j,m=j+1:=⟨m-1,by simp only [List.length_cons]at hm;omega⟩
     rw [e1 n _ _ (by omega)]
     have:=e2 n K m (by omega) (by simp only [List.length_cons]at hm;omega)
     rwa [List.length_append,List.length_singleton]at this
    ·refine .inr ⟨r,hr,max N1 N2,fun n K m hn hm=> ?_⟩
     obtain⟨m,rfl⟩:∃j,m=j+1:=⟨m-1,by simp only [List.length_cons]at hm;omega⟩
     rw [e1 n _ _ (by omega)]
     have:=e2 n K m (by omega) (by simp only [List.length_cons]at hm;omega)
     rwa [List.length_append,List.length_singleton]at this
   ·refine .inr ⟨r,hr,N1,fun n K m hn hm=> ?_⟩
    obtain⟨m,rfl⟩:∃j,m=j+1:=⟨m-1,by simp only [List.length_cons]at hm;omega⟩
    rw [e1 n _ _ (by omega)]
 rcases go xs [] s0 rfl h0 with⟨s',hi,N,e⟩|⟨r,hr,N,e⟩
 ·exact .inl ⟨s',hi,N+xs.length+1,fun n K hn=>e n K n (by omega) (by omega)⟩
 ·exact .inr ⟨r,hr,N+xs.length+1,fun n K hn=>e n K n (by omega) (by omega)⟩
theorem lpR(hl:xs.length<=4611686018427387904){L:Nat->(σ->Option ρ)->Nat->Int->σ->Option ρ}{B:Nat->Int->β->σ->(σ->Option ρ)->Option ρ}
 (hs:∀n K m i s,L n K (m+1) i s=bif decide (i<(xs.length:Int))then(ix (xs.map h) i).bind fun x=>B n i x s (L n K m (iadd .i64 i 1))else K s)
 (Inv:List α->σ->Prop) (Ex:ρ->Prop)
 (hb:∀p x q s,xs=p++x::q->Inv p s->(∃s',Inv (p++ [x]) s'/\∃N,∀n k,N<=n->B n (p.length:Int) (h x) s k=k s')∨(∃r,Ex r/\∃N,∀n k,N<=n->B n (p.length:Int) (h x) s k=some r))
 {s0:σ} (h0:Inv [] s0):(∃s',Inv xs s'/\∃N,∀n K,N<=n->L n K n 0 s0=K s')∨(∃r,Ex r/\∃N,∀n K,N<=n->L n K n 0 s0=some r):=by
 refine e1y (κ:=σ->Option ρ) (fun K s=>K s) Inv Ex (fun p x q s hx hp=> ?_) (fun s _=>⟨0,fun n K m _=>by rw [hs,decide_eq_false (by omega)];rfl⟩) h0
 have hlen:xs.length=p.length+(q.length+1):=by rw [hx,List.length_append,List.length_cons]
 have hix:ix (xs.map h) (p.length:Int)=some (h x):=by
  rw [hx,List.map_append,List.map_cons]
  exact a7g _ _ _ (by rw [List.length_map])
 have one:∀n K m,L n K (m+1) (p.length:Int) s=B n (p.length:Int) (h x) s (L n K m ((p.length+1:Nat):Int)):=by
  intro n K m
  rw [hs,decide_eq_true (by omega),hix,inc64 (by omega)];rfl
 rcases hb p x q s hx hp with⟨s',hi,N1,e1⟩|⟨r,hr,N1,e1⟩
 ·exact .inl ⟨s',hi,N1,fun n K m hn=>by rw [one,e1 n _ hn]⟩
 ·exact .inr ⟨r,hr,N1,fun n K m hn=>by rw [one,e1 n _ hn]⟩
theorem c5h(hl:xs.length<=4611686018427387904){L:Nat->(σ->Option ρ)->Nat->Int->σ->Option ρ}{B:Nat->Int->β->σ->(σ->Option ρ)->Option ρ}
 (hs:∀n K m i s,L n K (m+1) i s=bif decide (i<(xs.length:Int))then(ix (xs.map h) i).bind fun x=>B n i x s (L n K m (iadd .i64 i 1))else K s)
 (F:List α->σ) (hb:∀p x q,xs=p++x::q->∃N,∀n k,N<=n->B n (p.length:Int) (h x) (F p) k=k (F (p++ [x]))) {s0:σ} (h0:F []=s0):∃N,∀n K,N<=n->L n K n 0 s0=K (F xs):=by
 subst h0
 rcases lpR hl hs (fun p s=>s=F p) (fun _=>False) (fun p x q s hx hp=> .inl ⟨_,rfl,by subst hp;exact hb p x q hx⟩) rfl with⟨s',rfl,h⟩|⟨r,hr,_⟩
 ·exact h
 ·exact hr.elim
end
section
variable{σ ρ:Type}
theorem d6f{L:Nat->(σ->Option ρ)->Option ρ}{s:σ}{K:Nat->σ->Option ρ}{r:ρ}(h:∃N,∀n k,N<=n->L n k=k s)(hk:Ev (fun n=>K n s) r):Ev (fun n=>L n (K n)) r:=by
 obtain⟨N,e⟩:=h
 exact Ev.from N (fun n hn=>e n _ hn) hk
end
end Go.Proofs.YthaegflpecbfgaaGreatDoor.Rt
namespace Go.Proofs.YthaegflpecbfgaaGreatDoor.Fm
open Go Rt M Ta Tp D Fe
def toA(a:RA):Affine:=⟨toF a.1,a.2.map toF⟩
def toP(p:List RA):List Affine:=p.map toA
def toFm(f:RFm):M.Form:=⟨f.map toP⟩
def SmA(B:Nat)(a:RA):Prop:=SmF B a.1/\∀c,c∈a.2->SmF B c
theorem b7e{α:Type}(a:α){k:Nat}(hk:k<=1000):Ev (fun n=>a2q n [a] (k:Int)) (List.replicate k a):=by
 refine Ev.all fun n=> ?_
 show(if 0<=(k:Int)/\(k:Int)<=1000 then some (List.replicate (k:Int).toNat a)else none)=_
 rw [if_pos ⟨by omega,by omega⟩,Int.toNat_natCast]
theorem e6v{x y:Int}(h1:-9223372036854775808<=x)(h2:x<=9223372036854775807)(h3:-9223372036854775808<=y)(h4:y<=9223372036854775807)(h0:y≠0):Ev (fun n=>c2u n x y) (toF (Rat.divInt x y),0):=by
 have s1:Sm 4 x:=b0a (d7e (by omega))
 have s2:Sm 4 y:=b0a (d7e (by omega))
 unfold c2u
 exact Ev.bind (e2v h1 h2) (Ev.bind (e2v h3 h4) (Ev.bind (c4w s1 s2 (by decide) h0) (Ev.pure _)))
theorem FInt0:Ev (fun n=>a3f n 0) (toF 0):=b3u (x:=0) (by decide) (by decide)
theorem FInt1:Ev (fun n=>a3f n 1) (toF 1):=b3u (x:=1) (by decide) (by decide)
theorem FIntm:Ev (fun n=>a3f n (-1)) (toF (-1)):=b3u (x:=-1) (by decide) (by decide)
theorem c5b(n:Nat)(c:Rat):toFm (cst n c)=⟨[[⟨toF c,List.replicate n (toF 0)⟩]]⟩:=by
 unfold toFm cst toP toA
 simp only [List.map_cons,List.map_nil,List.map_replicate]
theorem c1a(m:maker)(c:Rat)(hn:m.names.length<=1000):Ev (fun n=>a1h n m (toF c)) (m,toFm (cst m.names.length c)):=by
 unfold a1h
 rw [c5b]
 exact Ev.bind FInt0 (Ev.bind (b7e _ hn) (Ev.pure _))
theorem c6r{a:RA}(hl:a.2.length<=1000000){F:Nat->Int->Frac->Option Frac}{c:Rat}(hc:Ev (fun n=>F n (-1) (toF a.1)) (toF c))(G:List Rat->List Rat)(h0:G []= [])
 (hG:∀p x q,a.2=p++x::q->∃y,Ev (fun n=>F n (p.length:Int) (toF x)) (toF y)/\G (p++ [x])=G p++ [y]/\(G p).length<=p.length):Ev (fun n=>a7b n (toA a) (F n)) (toA (c,G a.2)):=by
 unfold a7b
 refine Ev.bind hc ?_
 refine d6f (L:=fun n K=>minmax_affine_L1 n (toA a) (F n) K n 0 ([]:List Frac)) (s:=(G a.2).map toF) (K:=fun _ l2=>some (⟨toF c,l2⟩:Affine)) ?_ (Ev.pure _)
 refine c5h (xs:=a.2) (h:=toF) (by omega) (L:=fun n K m i s=>minmax_affine_L1 n (toA a) (F n) K m i s) (B:=fun n i x s k=>(F n i x).bind fun v2=>(app 64 s [v2]).bind k) (fun n K m i s=> ?_) (fun p=>(G p).map toF) (fun p x q hx=> ?_) (by rw [h0];rfl)
 ·rw [minmax_affine_L1_s];simp only [toA,List.length_map]
 ·obtain⟨y,⟨N,hN⟩,hy,hlen⟩:=hG p x q hx
  dsimp only at hN
  have h5:p.length<=1000000:=by rw [hx,List.length_append]at hl;omega
  refine⟨N,fun n k hn=> ?_⟩
  rw [hN n hn,Option.bind_some,b0e (by simp only [List.length_map,List.length_singleton];omega),Option.bind_some,hy,List.map_append];rfl
theorem c7k{j k:Nat}{a b:Rat}(ha:SmF j a)(hb:SmF k b)(hk:j+k<4000000)(i:Int):Ev (fun n=>a5d n i (toF a) (toF b)) (toF (a*b)):=by
 unfold a5d
 exact Ev.bind (FMul_ev ha hb hk) (Ev.pure _)
theorem b2n{A B:Nat}{a:RA}{b:Rat}(ha:SmA A a)(hb:SmF B b)(hk:A+B<4000000)(hl:a.2.length<=1000000):Ev (fun n=>a5n n (toA a) (toF b)) (toA (mulA b a)):=by
 unfold a5n
 refine Ev.bind (c6r hl (F:=fun n q0 q1=>a5d n q0 q1 (toF b)) (c:=a.1*b) (c7k ha.1 hb hk _) (fun p=>p.map (·*b)) rfl (fun p x q hx=>⟨x*b,c7k (ha.2 x (by rw [hx];simp)) hb hk _,by simp,by simp⟩)) (Ev.pure _)
theorem d8l{α:Type}{l:List α}{k:Nat}(h:k<l.length):∃p y q,l=p++y::q/\p.length=k:=by
 refine⟨l.take k,l[k],l.drop (k+1),?_,by rw [List.length_take];omega⟩
 rw [<-List.drop_eq_getElem_cons h,List.take_append_drop]
theorem d0k{α:Type}{op:α->α->α}:∀{p p2:List α}{x y:α}{q2:List α},p2.length=p.length->List.zipWith op (p++ [x]) (p2++y::q2)=List.zipWith op p (p2++y::q2)++ [op x y]
 | [],[],x,y,q2,_=>rfl
 |a::p,b::p2,x,y,q2,h=>by
  show op a b::List.zipWith op (p++ [x]) (p2++y::q2)=op a b::(List.zipWith op p (p2++y::q2)++ [op x y])
  rw [d0k (by simpa using h)]
 | [],_::_,_,_,_,h=>by simp at h
 |_::_,[],_,_,_,h=>by simp at h
theorem d6g{A B:Nat}{b:RA}{x y:Rat}{i:Int}(hx:SmF A x)(hy:SmF B y)(hk:A+B<4000000)(h:(0<=i/\ix (b.2.map toF) i=some (toF y))∨(i<0/\y=b.1)):Ev (fun n=>a6n n i (toF x) (toA b)) (toF (x+y)):=by
 unfold a6n
 rcases h with⟨h0,h1⟩|⟨h0,rfl⟩
 ·refine Ev.bind (a:=((toF y).P.Sign,(toF y).P.Digits,(toF y).Q.Sign,(toF y).Q.Digits)) (Ev.then (decide_eq_true h0) (Ev.step (a:=toF y) h1 (Ev.pure _))) ?_
  exact Ev.bind (FAdd_ev hx hy hk) (Ev.pure _)
 ·refine Ev.bind (a:=((toF b.1).P.Sign,(toF b.1).P.Digits,(toF b.1).Q.Sign,(toF b.1).Q.Digits)) (Ev.else (decide_eq_false (by omega)) (Ev.pure _)) ?_
  exact Ev.bind (FAdd_ev hx hy hk) (Ev.pure _)
theorem e7b{A B:Nat}{a b:RA}(ha:SmA A a)(hb:SmA B b)(hk:A+B<4000000)(hl:a.2.length<=1000000)(he:b.2.length=a.2.length):Ev (fun n=>a9p n (toA a) (toA b)) (toA (addA a b)):=by
 unfold a9p
 refine Ev.bind (c6r hl (F:=fun n q0 q1=>a6n n q0 q1 (toA b)) (c:=a.1+b.1) (d6g ha.1 hb.1 hk (.inr ⟨by decide,rfl⟩)) (fun p=>List.zipWith (·+·) p b.2) rfl (fun p x q hx=> ?_)) (Ev.pure _)
 obtain⟨p2,y,q2,hb2,hp2⟩:=d8l (l:=b.2) (k:=p.length) (by rw [he,hx];simp)
 refine⟨x+y,d6g (ha.2 x (by rw [hx];simp)) (hb.2 y (by rw [hb2];simp)) hk (.inl ⟨by omega,?_⟩),?_,?_⟩
 ·rw [hb2,List.map_append,List.map_cons]
  exact a7g _ _ _ (by rw [List.length_map,hp2])
 ·rw [hb2,d0k hp2]
 ·simp only [List.length_zipWith];omega
theorem gdA{n B:Nat}{f:RFm}(h:Gd n B f){p:List RA}(hp:p∈f){a:RA}(ha:a∈p):SmA B a:=h.sm p hp a ha
theorem d6c(f:RFm)(hs:Fm.sz f<=1000000)(hl:f.length<=1000000):Ev (fun n=>a3y n (toFm f)) (Fm.sz f:Int):=by
 unfold a3y
 refine d6f (L:=fun n K=>minmax_size_L1 n (toFm f) K n 0 0) (s:=((Fm.sz f:Nat):Int)) (K:=fun _ nx2=>some nx2) ?_ (Ev.pure _)
 refine c5h (xs:=f) (h:=toP) (by omega) (L:=fun n K m i s=>minmax_size_L1 n (toFm f) K m s i) (B:=fun n i x s k=>k (iadd .i64 s (x.length:Int))) (fun n K m i s=> ?_) (fun p=>((Fm.sz p:Nat):Int)) (fun p x q hx=>⟨0,fun n k _=> ?_⟩) rfl
 ·rw [minmax_size_L1_s];simp only [toFm,List.length_map]
 ·have h1:Fm.sz p+x.length<=Fm.sz f:=by rw [hx,sz_app];show _<=Fm.sz p+(x.length+Fm.sz q);omega
  have h2:Fm.sz (p++ [x])=Fm.sz p+x.length:=by rw [sz_app];rfl
  have h3:(toP x).length=x.length:=List.length_map ..
  rw [h2,h3,a2v (by omega) (by omega)];congr 1
theorem c8d{A B nn:Nat}{l:List RA}{b:Rat}(hl:l.length<=1000000)(ha:∀a,a∈l->SmA A a/\a.2.length=nn)(hn:nn<=1000000)(hb:SmF B b)(hk:A+B<4000000):
 ∃N,∀n K,N<=n->minmax_scaled_L2 n (toF b).P.Sign (toF b).P.Digits (toF b).Q.Sign (toF b).Q.Digits (toP l) K n 0 ([]:List Affine)=K (toP (l.map (mulA b))):=by
 refine c5h (xs:=l) (h:=toA) (by omega) (L:=fun n K m i s=>minmax_scaled_L2 n (toF b).P.Sign (toF b).P.Digits (toF b).Q.Sign (toF b).Q.Digits (toP l) K m i s) (B:=fun n i x s k=>(a5n n x (toF b)).bind fun v1=>(app 88 s [v1]).bind k) (fun n K m i s=> ?_) (fun p=>toP (p.map (mulA b))) (fun p x q hx=> ?_) rfl
 ·rw [minmax_scaled_L2_s];simp only [toP,List.length_map]
 ·have h5:p.length<=1000000:=by rw [hx,List.length_append]at hl;omega
  obtain⟨h6,h7⟩:=ha x (by rw [hx];simp)
  obtain⟨N,hN⟩:=b2n h6 hb hk (by omega)
  dsimp only at hN
  refine⟨N,fun n k hn=> ?_⟩
  rw [hN n hn,Option.bind_some,b0e (by simp only [toP,List.length_map,List.length_singleton];omega),Option.bind_some]
  simp only [toP,List.map_append,List.map_cons,List.map_nil]
theorem d4a{A B nn:Nat}{f:RFm}{b:Rat}(hf:Gd nn A f)(hs:Fm.sz f<=1000000)(hl:f.length<=1000000)(hn:nn<=1000000)(hb:SmF B b)(hk:A+B<4000000):Ev (fun n=>a4q n (toFm f) (toF b)) (toFm (scl b f)):=by
 unfold a4q
 refine d6f (L:=fun n K=>minmax_scaled_L1 n (toFm f) (fun l _=>K l) n 0 ([]:List (List Affine)) [] (toF b).P.Sign (toF b).P.Digits (toF b).Q.Sign (toF b).Q.Digits) (s:=(scl b f).map toP) (K:=fun _ l2=>some (⟨l2⟩:M.Form)) ?_ (Ev.pure _)
 refine c5h (xs:=f) (h:=toP) (by omega) (L:=fun n K m i s=>minmax_scaled_L1 n (toFm f) (fun l _=>K l) m i s [] (toF b).P.Sign (toF b).P.Digits (toF b).Q.Sign (toF b).Q.Digits) (B:=fun n i x s k=>minmax_scaled_L2 n (toF b).P.Sign (toF b).P.Digits (toF b).Q.Sign (toF b).Q.Digits x (fun l4=>(app 24 s [l4]).bind k) n 0 ([]:List Affine)) (fun n K m i s=> ?_) (fun p=>(scl b p).map toP) (fun p x q hx=> ?_) rfl
 ·rw [minmax_scaled_L1_s];simp only [toFm,List.length_map]
 ·have h5:p.length<=1000000:=by rw [hx,List.length_append]at hl;omega
  have hxs:x.length<=1000000:=by rw [hx,sz_app]at hs;have:Fm.sz (x::q)=x.length+Fm.sz q:=rfl;omega
  have hxm:x∈f:=by rw [hx];simp
  obtain⟨N,hN⟩:=c8d (b:=b) hxs (fun a ha=>⟨gdA hf hxm ha,hf.wide x hxm a ha⟩) hn hb hk
  refine⟨N,fun n k hn=> ?_⟩
  rw [hN n _ hn,b0e (by simp only [scl,List.length_map,List.length_singleton];omega),Option.bind_some]
  simp only [scl,List.map_append,List.map_cons,List.map_nil]
theorem d5t(n:Nat)(m:maker)(k:Int):a2i n m k=some (⟨m.names,m.facts,m.full||decide (200<k)⟩, !(m.full||decide (200<k))):=by
 unfold a2i
 cases m.full<;>rfl
theorem d8f{A nn:Nat}{l:List RA}{c:List RA}(hl:l.length<=1000000)(hc:c.length<=1000)(ha:∀a,a∈l->SmA A a/\a.2.length=nn)(hn:nn<=1000000)(hk:A+1<4000000){s0:RFm}(hs0:s0.length<=1000000):
 ∃N,∀n K,N<=n->minmax_maker_opposite_L3 n (toP l) (toP c) K n 0 (s0.map toP)=K ((s0++l.map fun a=>c++ [mulA (-1) a]).map toP):=by
 refine c5h (xs:=l) (h:=toA) (by omega) (L:=fun n K m i s=>minmax_maker_opposite_L3 n (toP l) (toP c) K m i s) (B:=fun n i x s k=>(a1f n (toP c)).bind fun v2=>(a3f n (-1)).bind fun v3=>(a5n n x v3).bind fun v4=>(app 88 v2 [v4]).bind fun l5=>(app 24 s [l5]).bind k) (fun n K m i s=> ?_) (fun p=>(s0++p.map fun a=>c++ [mulA (-1) a]).map toP) (fun p x q hx=> ?_) (by simp)
 ·rw [minmax_maker_opposite_L3_s];simp only [toP,List.length_map]
 ·have h5:p.length<=1000000:=by rw [hx,List.length_append]at hl;omega
  obtain⟨h6,h7⟩:=ha x (by rw [hx];simp)
  obtain⟨N,hN⟩:=b2n h6 (b:=-1) (B:=1) (c4z (x:=-1) (sm01 (by decide) (by decide) (by decide)) (by decide)) hk (by omega)
  dsimp only at hN
  obtain⟨N2,hN2⟩:=FIntm
  dsimp only at hN2
  refine⟨max N N2,fun n k hn=> ?_⟩
  have hcl:a1f n (toP c)=some (toP c):=by
   unfold a1f
   exact b0e (l:= []) (by simp only [toP,List.length_map,List.length_nil];omega)
  rw [hcl,Option.bind_some,hN2 n (by omega),Option.bind_some,hN n (by omega),Option.bind_some,b0e (by simp only [toP,List.length_map,List.length_singleton];omega),Option.bind_some,b0e (by simp only [List.length_map,List.length_append,List.length_singleton];omega),Option.bind_some]
  simp only [toP,List.map_append,List.map_cons,List.map_nil,List.append_assoc]
theorem d8p{A nn:Nat}{l:List RA}{cs:RFm}(hl:l.length<=200)(hcs:cs.length<=200)(hc:∀c,c∈cs->c.length<=1000)(ha:∀a,a∈l->SmA A a/\a.2.length=nn)(hn:nn<=1000000)(hk:A+1<4000000)(f15 f16:List (List Affine))(m:maker):
 ∃N,∀n K,N<=n->minmax_maker_opposite_L2 n (cs.map toP) (toP l) K n 0 [] f15 f16 m.names m.facts.Lifts m.facts.Persons m.facts.Flats m.full=K ((step cs l).map toP) f15 f16 m.names m.facts.Lifts m.facts.Persons m.facts.Flats m.full:=by
 have hlen:(cs.map toP).length=cs.length:=List.length_map ..
 have L:=e1y (xs:=cs) (σ:=List (List Affine)) (ρ:=maker×M.Form) (L:=fun n K mm i s=>minmax_maker_opposite_L2 n (cs.map toP) (toP l) K mm i s f15 f16 m.names m.facts.Lifts m.facts.Persons m.facts.Flats m.full)
  (fun K s=>K s f15 f16 m.names m.facts.Lifts m.facts.Persons m.facts.Flats m.full) (fun p s=>s=(step p l).map toP) (fun _=>False) (fun p x q s hx hs=> .inl ⟨_,rfl,?_⟩) (fun s _=>⟨0,fun n K mm _=> ?_⟩) (s0:= []) rfl
 ·rcases L with⟨s',rfl,L⟩|⟨r,hr,_⟩
  ·exact L
  ·exact hr.elim
 ·subst hs
  have h5:p.length<=200:=by rw [hx,List.length_append]at hcs;omega
  have h6:(step p l).length<=1000000:=by rw [d0a];exact Nat.le_trans (Nat.mul_le_mul h5 hl) (by decide)
  obtain⟨N,hN⟩:=d8f (l:=l) (c:=x) (by omega) (hc x (by rw [hx];simp)) ha hn hk h6
  refine⟨N,fun n K mm hnn=> ?_⟩
  have hix:ix (cs.map toP) (p.length:Int)=some (toP x):=by
   rw [hx,List.map_append,List.map_cons]
   exact a7g _ _ _ (by rw [List.length_map])
  rw [minmax_maker_opposite_L2_s,decide_eq_true (by rw [hlen,hx,List.length_append,List.length_cons];omega),cond_true,hix,Option.bind_some,hN n _ hnn,Rt.inc64 (by omega)]
  unfold step
  simp only [List.flatMap_append,List.flatMap_cons,List.flatMap_nil,List.append_nil]
 ·rw [minmax_maker_opposite_L2_s,decide_eq_false (by rw [hlen];omega)];rfl
theorem c4l{A nn:Nat}{f:RFm}(hf:Gd nn A f)(hs:Fm.sz f<=200)(hl:f.length<=200)(hn:nn<=1000000)(hk:A+1<4000000)(m:maker):
 ((f= []∨m.full=false)/\b7q f.length 1 f=true/\Ev (fun n=>a2e n m (toFm f)) (m,toFm (opp f)))∨((f≠ []/\m.full=true∨b7q f.length 1 f=false)/\Ev (fun n=>a2e n m (toFm f)) (⟨m.names,m.facts,true⟩,⟨[]⟩)):=by
 have hlen:(toFm f).Pieces.length=f.length:=List.length_map ..
 have L:=e1y (xs:=f) (σ:=List (List Affine)) (ρ:=maker×M.Form) (L:=fun n K mm i s=>minmax_maker_opposite_L1 n (toFm f) K mm s i [] (f.map toP) m.names m.facts.Lifts m.facts.Persons m.facts.Flats m.full)
  (fun K s=>K s [] m.names m.facts.Lifts m.facts.Persons m.facts.Flats m.full) (fun p s=>s=(opp p).map toP/\(p= []∨m.full=false)/\(prd p*f.length<=200∨p= [])/\∀q,f=p++q->b7q f.length 1 f=b7q f.length (prd p) q) (fun r=>r=(⟨m.names,m.facts,true⟩,⟨[]⟩)/\(f≠ []/\m.full=true∨b7q f.length 1 f=false)) (fun p x q s hx⟨hi,hfu,hpr,hok⟩=> ?_) (fun s _=>⟨0,fun n K mm _=> ?_⟩) (s0:= [[]]) ⟨rfl,.inl rfl,.inr rfl,fun q hq=>by rw [show f=q by simpa using hq];rfl⟩
 ·unfold a2e
  rcases L with⟨s',⟨rfl,h1,h2,h3⟩,L⟩|⟨r,⟨rfl,h1⟩,L⟩
  ·left
   refine⟨h1,by rw [h3 [] (by simp)];rfl,?_⟩
   obtain⟨N,e⟩:=L
   exact⟨N,fun n hn=>e n _ hn⟩
  ·right
   refine⟨h1,?_⟩
   obtain⟨N,e⟩:=L
   exact⟨N,fun n hn=>e n _ hn⟩
 ·have hlf:f.length=p.length+(q.length+1):=by rw [hx,List.length_append,List.length_cons]
  have hix:ix (f.map toP) (p.length:Int)=some (toP x):=by
   rw [hx,List.map_append,List.map_cons]
   exact a7g _ _ _ (by rw [List.length_map])
  have hxl:x.length<=200:=by rw [hx,sz_app]at hs;have:Fm.sz (x::q)=x.length+Fm.sz q:=rfl;omega
  have hpl:prd p<=200:=by
   rcases hpr with h|h
   ·have:prd p*1<=prd p*f.length:=Nat.mul_le_mul_left _ (by omega)
    omega
   ·rw [h];decide
  have hm:prd p*x.length<=40000:=Nat.mul_le_mul hpl hxl
  have hm2:prd p*x.length*f.length<=8000000:=Nat.mul_le_mul hm hl
  have hsl:((opp p).map toP).length=prd p:=by rw [List.length_map,c5i]
  have hnum:imul .i64 (imul .i64 (((opp p).map toP).length:Int) ((toP x).length:Int)) ((f.map toP).length:Int)=((prd p*x.length*f.length:Nat):Int):=by
   have e1:(toP x).length=x.length:=List.length_map ..
   rw [hsl,e1,List.length_map,mulN (by omega),mulN (by omega)]
  have hstep:∀(n:Nat)(K:_)(mm:Nat),minmax_maker_opposite_L1 n (toFm f) K (mm+1) s (p.length:Int) [] (f.map toP) m.names m.facts.Lifts m.facts.Persons m.facts.Flats m.full=
   (a2i n m ((prd p*x.length*f.length:Nat):Int)).bind fun v1=>bif !v1.2 then some (v1.1,(⟨[]⟩:M.Form))else
    minmax_maker_opposite_L2 n s (toP x) (fun l2 f22 f23 f24 f25 f26 f27 f28=>minmax_maker_opposite_L1 n (toFm f) K mm l2 ((p.length+1:Nat):Int) f22 f23 f24 f25 f26 f27 f28) n 0 [] [] (f.map toP) v1.1.names v1.1.facts.Lifts v1.1.facts.Persons v1.1.facts.Flats v1.1.full:=by
   intro n K mm
   rw [minmax_maker_opposite_L1_s,decide_eq_true (by rw [hlen];omega),cond_true]
   show(ix (f.map toP) (p.length:Int)).bind _=_
   rw [hix,Option.bind_some,hi,hnum,Rt.inc64 (by omega)]
  have hok1:=hok (x::q) hx
  have hok2:b7q f.length (prd p) (x::q)=(decide (prd p*x.length*f.length<=200)&&b7q f.length (prd p*x.length) q):=rfl
  have hprd:prd (p++ [x])=prd p*x.length:=by
   have:∀p:RFm,prd (p++ [x])=prd p*x.length:=by
    intro p
    induction p with
    |nil=>show x.length*1=1*x.length;omega
    |cons y p ih=>show y.length*prd (p++ [x])=y.length*prd p*x.length;rw [ih,Nat.mul_assoc]
   exact this p
  have bad:(m.full||decide ((200:Int)<((prd p*x.length*f.length:Nat):Int)))=true->(∃r,(r=(⟨m.names,m.facts,true⟩,⟨[]⟩)/\(f≠ []/\m.full=true∨b7q f.length 1 f=false))/\∃N,∀n K mm,N<=n->minmax_maker_opposite_L1 n (toFm f) K (mm+1) s (p.length:Int) [] (f.map toP) m.names m.facts.Lifts m.facts.Persons m.facts.Flats m.full=some r):=by
   intro hbad
   refine⟨_,⟨rfl,?_⟩,0,fun n K mm _=>by rw [hstep,d5t,hbad];rfl⟩
   rcases Bool.or_eq_true _ _▸hbad with h|h
   ·exact .inl ⟨by rw [hx];simp,h⟩
   ·right
    rw [hok1,hok2,decide_eq_false (by have:=of_decide_eq_true h;omega)];rfl
  cases hb:(m.full||decide ((200:Int)<((prd p*x.length*f.length:Nat):Int)))with
  |true=>exact .inr (bad hb)
  |false=>
   left
   obtain⟨hb1,hb2⟩:=Bool.or_eq_false_iff.1 hb
   have hle:prd p*x.length*f.length<=200:=by have:=of_decide_eq_false hb2;omega
   have hxm:x∈f:=by rw [hx];simp
   obtain⟨N,hN⟩:=d8p (cs:=opp p) (l:=x) hxl (by rw [c5i];exact hpl) (fun c hc=>by rw [(b7z.1 hc).len];omega) (fun a ha=>⟨gdA hf hxm ha,hf.wide x hxm a ha⟩) hn hk [] (f.map toP) ⟨m.names,m.facts,m.full⟩
   refine⟨(opp (p++ [x])).map toP,⟨rfl,.inr hb1,.inl (by rw [hprd];exact hle),fun q' hq'=> ?_⟩,N,fun n K mm hnn=> ?_⟩
   ·have:q'=q:=by
     rw [hx,List.append_assoc]at hq'
     have:=List.append_cancel_left hq'
     simpa using this.symm
    subst this
    rw [hok1,hok2,hprd,decide_eq_true hle];rfl
   ·rw [hstep,d5t,hb,hi]
    show minmax_maker_opposite_L2 n ((opp p).map toP) (toP x) _ n 0 [] [] (f.map toP) m.names m.facts.Lifts m.facts.Persons m.facts.Flats false=_
    rw [hb1]at hN
    rw [hN n _ hnn]
    have e:opp (p++ [x])=step (opp p) x:=by unfold opp;rw [List.foldl_append];rfl
    rw [e,hb1]
 ·rw [minmax_maker_opposite_L1_s,decide_eq_false (by rw [hlen];omega)];rfl
end Go.Proofs.YthaegflpecbfgaaGreatDoor.Fm
namespace Go.Proofs.YthaegflpecbfgaaGreatDoor.Fm
open Go Rt M Ta Tp D Fe
section
variable{f g:RFm}{op:List RA->List RA->List RA}{P:Nat->List Affine->List Affine->Option (List Affine)}
theorem d4b(x:List RA)(hg:g.length<=1000)(hP:∀y,y∈g->Ev (fun n=>P n (toP x) (toP y)) (toP (op x y))){s0:RFm}(hs0:s0.length<=1000000):
 ∃N,∀n K,N<=n->minmax_join_L2 n (P n) (g.map toP) (toP x) K n 0 (s0.map toP)=K ((s0++g.map (op x)).map toP):=by
 refine c5h (xs:=g) (h:=toP) (by omega) (L:=fun n K m i s=>minmax_join_L2 n (P n) (g.map toP) (toP x) K m i s) (B:=fun n i y s k=>(P n (toP x) y).bind fun v1=>(app 24 s [v1]).bind k) (fun n K m i s=> ?_) (fun p=>(s0++p.map (op x)).map toP) (fun p y q hx=> ?_) (by simp)
 ·rw [minmax_join_L2_s];simp only [List.length_map]
 ·have h5:p.length<=1000:=by rw [hx,List.length_append]at hg;omega
  obtain⟨N,hN⟩:=hP y (by rw [hx];simp)
  dsimp only at hN
  refine⟨N,fun n k hn=> ?_⟩
  rw [hN n hn,Option.bind_some,b0e (by simp only [List.length_map,List.length_append,List.length_singleton];omega),Option.bind_some]
  simp only [List.map_append,List.map_cons,List.map_nil,List.append_assoc]
theorem b0k(hf:f.length<=1000)(hg:g.length<=1000)(hP:∀x,x∈f->∀y,y∈g->Ev (fun n=>P n (toP x) (toP y)) (toP (op x y))):Ev (fun n=>a3z n (toFm f) (toFm g) (P n)) (toFm (join op f g)):=by
 unfold a3z
 refine d6f (L:=fun n K=>minmax_join_L1 n (toFm f) (P n) (fun l _=>K l) n 0 ([]:List (List Affine)) [] (g.map toP)) (s:=(join op f g).map toP) (K:=fun _ l2=>some (⟨l2⟩:M.Form)) ?_ (Ev.pure _)
 refine c5h (xs:=f) (h:=toP) (by omega) (L:=fun n K m i s=>minmax_join_L1 n (toFm f) (P n) (fun l _=>K l) m i s [] (g.map toP)) (B:=fun n i x s k=>minmax_join_L2 n (P n) (g.map toP) x k n 0 s) (fun n K m i s=> ?_) (fun p=>(join op p g).map toP) (fun p x q hx=> ?_) rfl
 ·rw [minmax_join_L1_s];simp only [toFm,List.length_map]
 ·have h5:p.length<=1000:=by rw [hx,List.length_append]at hf;omega
  have h6:(join op p g).length<=1000000:=by rw [d1l];exact Nat.le_trans (Nat.mul_le_mul h5 hg) (by decide)
  obtain⟨N,hN⟩:=d4b (op:=op) x hg (hP x (by rw [hx];simp)) h6
  refine⟨N,fun n k hn=> ?_⟩
  rw [hN n _ hn]
  unfold join
  simp only [List.flatMap_append,List.flatMap_cons,List.flatMap_nil,List.append_nil]
end
theorem d5w{A B nn:Nat}{a:RA}{y:List RA}(hy:y.length<=1000)(ha:SmA A a/\a.2.length=nn)(hb:∀b,b∈y->SmA B b/\b.2.length=nn)(hn:nn<=1000000)(hk:A+B<4000000){s0:List RA}(hs0:s0.length<=1000000):
 ∃N,∀n K,N<=n->minmax_sums_L2 n (toP y) (toA a) K n 0 (toP s0)=K (toP (s0++y.map (addA a))):=by
 refine c5h (xs:=y) (h:=toA) (by omega) (L:=fun n K m i s=>minmax_sums_L2 n (toP y) (toA a) K m i s) (B:=fun n i b s k=>(a9p n (toA a) b).bind fun v1=>(app 88 s [v1]).bind k) (fun n K m i s=> ?_) (fun p=>toP (s0++p.map (addA a))) (fun p b q hx=> ?_) (by simp)
 ·rw [minmax_sums_L2_s];simp only [toP,List.length_map]
 ·have h5:p.length<=1000:=by rw [hx,List.length_append]at hy;omega
  obtain⟨h6,h7⟩:=hb b (by rw [hx];simp)
  obtain⟨N,hN⟩:=e7b ha.1 h6 hk (by omega) (by rw [h7,ha.2])
  dsimp only at hN
  refine⟨N,fun n k hn=> ?_⟩
  rw [hN n hn,Option.bind_some,b0e (by simp only [toP,List.length_map,List.length_append,List.length_singleton];omega),Option.bind_some]
  simp only [toP,List.map_append,List.map_cons,List.map_nil,List.append_assoc]
theorem d6v{A B nn:Nat}{x y:List RA}(hx0:x.length<=1000)(hy:y.length<=1000)(ha:∀a,a∈x->SmA A a/\a.2.length=nn)(hb:∀b,b∈y->SmA B b/\b.2.length=nn)(hn:nn<=1000000)(hk:A+B<4000000):Ev (fun n=>a4l n (toP x) (toP y)) (toP (sums x y)):=by
 unfold a4l
 refine d6f (L:=fun n K=>minmax_sums_L1 n (toP x) (toP y) K n 0 ([]:List Affine)) (s:=toP (sums x y)) (K:=fun _ l2=>some l2) ?_ (Ev.pure _)
 refine c5h (xs:=x) (h:=toA) (by omega) (L:=fun n K m i s=>minmax_sums_L1 n (toP x) (toP y) K m i s) (B:=fun n i a s k=>minmax_sums_L2 n (toP y) a k n 0 s) (fun n K m i s=> ?_) (fun p=>toP (sums p y)) (fun p a q hx=> ?_) rfl
 ·rw [minmax_sums_L1_s];simp only [toP,List.length_map]
 ·have h5:p.length<=1000:=by rw [hx,List.length_append]at hx0;omega
  have h6:(sums p y).length<=1000000:=by rw [sums_len];exact Nat.le_trans (Nat.mul_le_mul h5 hy) (by decide)
  obtain⟨N,hN⟩:=d5w hy (ha a (by rw [hx];simp)) hb hn hk h6
  refine⟨N,fun n k hn=> ?_⟩
  rw [hN n _ hn]
  unfold sums
  simp only [List.flatMap_append,List.flatMap_cons,List.flatMap_nil,List.append_nil]
theorem e1u{α:Type}(n:Nat){k:Int}(h:0<=k)(h2:k<=1000000):b2w n ([]:List α) k=some []:=by show(if 0<=k/\k<=1000000 then some ([]:List α)else none)=_;rw [if_pos ⟨h,h2⟩]
theorem e3k{α:Type}(n:Nat){k:Int}(h:0<=k)(h2:k<=1000000):b2c n ([]:List α) k=some []:=by show(if 0<=k/\k<=1000000 then some ([]:List α)else none)=_;rw [if_pos ⟨h,h2⟩]
theorem d2k{x y:List RA}(hx:x.length<=100000)(hy:y.length<=100000):Ev (fun n=>a1t n [toP x,toP y]) (toP (x++y)):=by
 refine Ev.from 3 (g:=fun _=>some (toP (x++y))) (fun n hn=> ?_) (Ev.pure _)
 obtain⟨m,rfl⟩:∃m,n=m+3:=⟨n-3,by omega⟩
 have h1:(toP x).length=x.length:=List.length_map ..
 have h2:(toP y).length=y.length:=List.length_map ..
 have e1:iadd .i64 0 ((toP x).length:Int)=(x.length:Int):=by rw [h1,a2v (by omega) (by omega)];omega
 have e2:iadd .i64 (x.length:Int) ((toP y).length:Int)=((x.length+y.length:Nat):Int):=by rw [h2,a2v (by omega) (by omega)];omega
 have a1:app 88 [] (toP x)=some (toP x):=b0e (l:= []) (by simp only [List.length_nil];omega)
 have a2:app 88 (toP x) (toP y)=some (toP x++toP y):=b0e (by omega)
 have hc:toP (x++y)=toP x++toP y:=List.map_append ..
 have i1:iadd .i64 0 1=1:=by decide
 have i2:iadd .i64 1 1=2:=by decide
 have x0:ix [toP x,toP y] 0=some (toP x):=rfl
 have x1:ix [toP x,toP y] 1=some (toP y):=rfl
 have d0:decide ((0:Int)<([toP x,toP y].length:Int))=true:=rfl
 have d1:decide ((1:Int)<([toP x,toP y].length:Int))=true:=rfl
 have d2:decide ((2:Int)<([toP x,toP y].length:Int))=false:=rfl
 unfold a1t
 rw [slices_Concat_api_Affine_api_Affine_L1_s,d0,cond_true,x0,Option.bind_some,e1,decide_eq_false (by omega),cond_false,i1,slices_Concat_api_Affine_api_Affine_L1_s,d1,cond_true,x1,Option.bind_some,e2,decide_eq_false (by omega),cond_false,i2,slices_Concat_api_Affine_api_Affine_L1_s,d2,cond_false,
  e1u _ (by omega) (by omega),Option.bind_some,slices_Concat_api_Affine_api_Affine_L2_s,d0,cond_true,x0,Option.bind_some,a1,Option.bind_some,i1,slices_Concat_api_Affine_api_Affine_L2_s,d1,cond_true,x1,Option.bind_some,a2,Option.bind_some,i2,slices_Concat_api_Affine_api_Affine_L2_s,d2,cond_false,hc]
theorem d2t{x y:List (List Affine)}(hx:x.length<=100000)(hy:y.length<=100000):Ev (fun n=>a0m n [x,y]) (x++y):=by
 refine Ev.from 3 (g:=fun _=>some (x++y)) (fun n hn=> ?_) (Ev.pure _)
 obtain⟨m,rfl⟩:∃m,n=m+3:=⟨n-3,by omega⟩
 have e1:iadd .i64 0 (x.length:Int)=(x.length:Int):=by rw [a2v (by omega) (by omega)];omega
 have e2:iadd .i64 (x.length:Int) (y.length:Int)=((x.length+y.length:Nat):Int):=by rw [a2v (by omega) (by omega)];omega
 have a1:app 24 [] x=some x:=b0e (l:= []) (by simp only [List.length_nil];omega)
 have a2:app 24 x y=some (x++y):=b0e (by omega)
 have i1:iadd .i64 0 1=1:=by decide
 have i2:iadd .i64 1 1=2:=by decide
 have x0:ix [x,y] 0=some (x):=rfl
 have x1:ix [x,y] 1=some (y):=rfl
 have d0:decide ((0:Int)<([x,y].length:Int))=true:=rfl
 have d1:decide ((1:Int)<([x,y].length:Int))=true:=rfl
 have d2:decide ((2:Int)<([x,y].length:Int))=false:=rfl
 unfold a0m
 rw [slices_Concat_LLapi_Affine_api_Affine_L1_s,d0,cond_true,x0,Option.bind_some,e1,decide_eq_false (by omega),cond_false,i1,slices_Concat_LLapi_Affine_api_Affine_L1_s,d1,cond_true,x1,Option.bind_some,e2,decide_eq_false (by omega),cond_false,i2,slices_Concat_LLapi_Affine_api_Affine_L1_s,d2,cond_false,
  e3k _ (by omega) (by omega),Option.bind_some,slices_Concat_LLapi_Affine_api_Affine_L2_s,d0,cond_true,x0,Option.bind_some,a1,Option.bind_some,i1,slices_Concat_LLapi_Affine_api_Affine_L2_s,d1,cond_true,x1,Option.bind_some,a2,Option.bind_some,i2,slices_Concat_LLapi_Affine_api_Affine_L2_s,d2,cond_false]
theorem e0c{x y:List RA}(hx:x.length<=100000)(hy:y.length<=100000):Ev (fun n=>a4i n (toP x) (toP y)) (toP (x++y)):=by
 unfold a4i
 exact Ev.bind (d2k hx hy) (Ev.pure _)
structure Gb(nn B:Nat)(g:RFm):Prop where
 gd:Gd nn B g
 sz:Fm.sz g<=200
 len:g.length<=200
theorem Gb.mono{nn A B:Nat}{g:RFm}(h:Gb nn A g)(hk:A<=B):Gb nn B g:=⟨h.gd.mono hk,h.sz,h.len⟩
theorem d3c(nn B:Nat):Gb nn B []:=⟨⟨fun p hp=>(by cases hp),fun p hp=>(by cases hp)⟩,by decide,by decide⟩
theorem Is.gb{nn B:Nat}{g:RFm}{V:List Rat->Rat}(h:Is nn B g V):Gb nn B g:=⟨h.gd,h.sz,h.len⟩
def Res(names:List Rt.Bs)(fc:Facts)(B:Nat)(o:Option RFm)(r:maker×M.Form):Prop:=∃g,r.2=toFm g/\Gb names.length B g/\(o=some g/\r.1=⟨names,fc,false⟩∨o=none/\r.1=⟨names,fc,true⟩)
section
variable{names:List Rt.Bs}{fc:Facts}{A B:Nat}{f g:RFm}
theorem Res.weak{o:Option RFm}{r:maker×M.Form}(h:Res names fc A o r)(hk:A<=B):Res names fc B o r:=by
 obtain⟨g,h1,h2,h3⟩:=h
 exact⟨g,h1,h2.mono hk,h3⟩
theorem c8g(h:prd f*f.length<=200)(h2:f≠ []):prd f<=200:=by
 have:1<=f.length:=List.length_pos_iff.2 h2
 have:prd f*1<=prd f*f.length:=Nat.mul_le_mul_left _ this
 omega
theorem e6g(h:Gb names.length A f)(hok:b7q f.length 1 f=true):Gb names.length A (opp f):=by
 refine⟨d6q h.gd,?_,?_⟩
 ·rw [e0t]
  by_cases h0:f= []
  ·subst h0;decide
  ·have:=c0b hok h0;rwa [Nat.one_mul]at this
 ·rw [c5i]
  by_cases h0:f= []
  ·subst h0;decide
  ·have:=c0b hok h0;rw [Nat.one_mul]at this
   exact c8g this h0
theorem c3t(h:Gb names.length A f)(hn:names.length<=1000)(hk:A+1<4000000)(b:Bool):Tt (Res names fc A (if b=true then none else oppB f)) (fun n=>a2e n ⟨names,fc,b⟩ (toFm f)):=by
 rcases c4l h.gd h.sz h.len (by omega) hk ⟨names,fc,b⟩with⟨h1,h2,h3⟩|⟨h1,h3⟩
 ·refine Tt.of h3 ⟨opp f,rfl,e6g h h2,?_⟩
  cases b with
  |false=>exact .inl ⟨by unfold oppB;rw [if_neg (by decide),if_pos h2],rfl⟩
  |true=>exact .inr ⟨rfl,rfl⟩
 ·refine Tt.of h3 ⟨[],rfl,d3c _ _,.inr ⟨?_,rfl⟩⟩
  cases b with
  |true=>rfl
  |false=>
   rw [if_neg (by decide)]
   unfold oppB
   rcases h1 with⟨_,h1⟩|h1
   ·cases h1
   ·rw [if_neg (by rw [h1];decide)]
theorem c2a{c:Rat}(h:Gb names.length A f)(hc:SmF B c)(hn:names.length<=1000)(hk:A+B<4000000):Ev (fun n=>a4q n (toFm f) (toF c)) (toFm (scl c f))/\Gb names.length (A+B) (scl c f):=
 ⟨d4a h.gd (by have:=h.sz;omega) (by have:=h.len;omega) (by omega) hc hk,d0z h.gd hc,by rw [c7n];exact h.sz,by rw [e5d];exact h.len⟩
theorem c3l(c:Rat)(hc:SmF B c)(hB:1<=B)(hn:names.length<=1000)(b:Bool):Tt (Res names fc B (if b=true then none else some (cst names.length c))) (fun n=>a1h n ⟨names,fc,b⟩ (toF c)):=by
 refine Tt.of (c1a _ c hn) ⟨cst names.length c,rfl,⟨e0g hc hB,by show 1+0<=200;decide,by show 1<=200;decide⟩,?_⟩
 cases b
 ·exact .inl ⟨rfl,rfl⟩
 ·exact .inr ⟨rfl,rfl⟩
theorem a1m(c:Rat):(c=0/\sg c.num=0)∨(0<c/\sg c.num=1)∨(c<0/\sg c.num=-1):=by
 rw [e0q]
 rcases a9q c 0 with⟨h1,h2⟩|⟨h1,h2⟩|⟨h1,h2⟩
 ·exact .inr (.inr ⟨h1,h2⟩)
 ·exact .inl ⟨h1,h2⟩
 ·exact .inr (.inl ⟨h1,h2⟩)
theorem e2t{α β:Type}{b:Bool}{o:Option α}{F:α->β}:(if b=true then none else o).map F=if b=true then none else o.map F:=by cases b<;>rfl
theorem b7g{c:Rat}(h:Gb names.length A f)(hc:SmF B c)(hB:1<=B)(hn:names.length<=1000)(hk:A+B+1<1000000)(b:Bool):Tt (Res names fc (A+B) (if b=true then none else b9k names.length f c)) (fun n=>a3i n ⟨names,fc,b⟩ (toFm f) (toF c)):=by
 unfold a3i b9k
 refine Tt.evb (FSign_ev hc (by omega)) ?_
 rcases a1m c with⟨h1,h2⟩|⟨h1,h2⟩|⟨h1,h2⟩
 ·rw [h2,if_pos h1]
  refine Tt.bif (fun _=> ?_) (fun h=>by cases h)
  refine Tt.bind (c3l c hc hB hn b) fun r hr=>Tt.pure ?_
  subst h1
  exact Res.weak hr (by omega)
 ·rw [h2,if_neg (Rat.ne_of_gt h1),if_pos h1]
  refine Tt.bif (fun h=>by cases h) (fun _=>Tt.bif (fun _=> ?_) (fun h=>by cases h))
  obtain⟨e,hg⟩:=c2a h hc hn (by omega)
  refine Tt.evb e (Tt.pure ⟨_,rfl,hg,?_⟩)
  cases b
  ·exact .inl ⟨rfl,rfl⟩
  ·exact .inr ⟨rfl,rfl⟩
 ·have hnp:¬(0<c):=by grind
  rw [h2,if_neg (Rat.ne_of_lt h1),if_neg hnp]
  refine Tt.bif (fun h=>by cases h) (fun _=>Tt.bif (fun h=>by cases h) (fun _=> ?_))
  refine Tt.bind (c3t (fc:=fc) h hn (by omega) b) fun r⟨g,hr1,hr2,hr3⟩=> ?_
  refine Tt.evb (FNeg_ev hc (by omega)) ?_
  obtain⟨e,hg⟩:=c2a hr2 hc.neg hn (by omega)
  rw [hr1]
  refine Tt.evb e (Tt.pure ⟨_,rfl,hg,?_⟩)
  rw [<-e2t]
  rcases hr3 with⟨e1,e2⟩|⟨e1,e2⟩
  ·exact .inl ⟨by rw [e1];rfl,e2⟩
  ·exact .inr ⟨by rw [e1];rfl,e2⟩
end
end Go.Proofs.YthaegflpecbfgaaGreatDoor.Fm
namespace Go.Proofs.YthaegflpecbfgaaGreatDoor.Fm
open Go Rt M Ta Tp D Fe
section
variable{names:List Rt.Bs}{fc:Facts}{A B:Nat}{f g:RFm}
theorem d3t{α β:Type}{b:Bool}{o:Option α}{F:α->Option β}:(if b=true then none else o).bind F=if b=true then none else o.bind F:=by cases b<;>rfl
theorem mem_len:∀{f:RFm}{p:List RA},p∈f->p.length<=Fm.sz f
 |q::f,p,hp=>by
  show p.length<=q.length+Fm.sz f
  rcases List.mem_cons.1 hp with rfl|hp
  ·omega
  ·have:=mem_len hp;omega
theorem c0c{o:Int}(hf:Gb names.length A f)(hg:Gb names.length B g)(hn:names.length<=1000)(hk:A+B+1<1000000)(ho:o=5∨o=6∨o=9∨o=10)(b:Bool){k:Int}(hsz:k=((c5p o f g:Nat):Int))(hlen:b=false->c5p o f g<=200->(b9m o f g).length<=200):
 Tt (Res names fc (A+B+1) (if b=true then none else if c5p o f g<=200 then some (b9m o f g)else none)) (fun n=>(a2i n ⟨names,fc,b⟩ k).bind fun v5=>bif !v5.2 then some (v5.1,(⟨[]⟩:M.Form))else
  bif o==9 then(a0m n [(toFm f).Pieces,g.map toP]).bind fun v6=>some (v5.1,(⟨v6⟩:M.Form))else
  bif o==10 then(a3z n (toFm f) (⟨g.map toP⟩:M.Form) (a4i n)).bind fun v7=>some (v5.1,v7)else
  (a3z n (toFm f) (⟨g.map toP⟩:M.Form) (a4l n)).bind fun v8=>some (v5.1,v8)):=by
 refine Tt.evb (Ev.all fun n=>d5t n _ _) ?_
 dsimp only
 cases hb:(b||decide (200<k))with
 |true=>
  refine Tt.bif (fun _=>Tt.pure ⟨[],rfl,d3c _ _,.inr ⟨?_,rfl⟩⟩) (fun h=>by cases h)
  cases b with
  |true=>rfl
  |false=>
   have:=of_decide_eq_true (show decide (200<k)=true from hb)
   rw [if_neg (by decide),if_neg (by omega)]
 |false=>
  obtain⟨rfl,h2⟩:=Bool.or_eq_false_iff.1 hb
  have h2:=of_decide_eq_false h2
  have hs:c5p o f g<=200:=by omega
  rw [if_neg (by decide),if_pos hs]
  refine Tt.bif (fun h=>by cases h) (fun _=> ?_)
  have hl:=hlen rfl hs
  have hfl:=hf.len
  have hgl:=hg.len
  have hfs:=hf.sz
  have hgs:=hg.sz
  have fin:∀{e:Nat->Option M.Form},Ev e (toFm (b9m o f g))->Gd names.length (A+B+1) (b9m o f g)->Fm.sz (b9m o f g)=c5p o f g->Tt (Res names fc (A+B+1) (some (b9m o f g))) (fun n=>(e n).bind fun v=>some ((⟨names,fc,false⟩:maker),v)):=by
   intro e he hgd hz
   exact Tt.evb he (Tt.pure ⟨b9m o f g,rfl,⟨hgd,by rw [hz];exact hs,hl⟩,.inl ⟨rfl,rfl⟩⟩)
  rcases ho with rfl|rfl|rfl|rfl
  ·refine Tt.bif (fun h=>by cases h) (fun _=>Tt.bif (fun h=>by cases h) (fun _=> ?_))
   exact fin (b0k (op:=sums) (by omega) (by omega) (fun x hx y hy=>d6v (by have:=mem_len hx;omega) (by have:=mem_len hy;omega) (fun a ha=>⟨gdA hf.gd hx ha,hf.gd.wide x hx a ha⟩) (fun a ha=>⟨gdA hg.gd hy ha,hg.gd.wide y hy a ha⟩) (by omega) (by omega))) (c5s hf.gd hg.gd) (sz_sums f g)
  ·refine Tt.bif (fun h=>by cases h) (fun _=>Tt.bif (fun h=>by cases h) (fun _=> ?_))
   exact fin (b0k (op:=sums) (by omega) (by omega) (fun x hx y hy=>d6v (by have:=mem_len hx;omega) (by have:=mem_len hy;omega) (fun a ha=>⟨gdA hf.gd hx ha,hf.gd.wide x hx a ha⟩) (fun a ha=>⟨gdA hg.gd hy ha,hg.gd.wide y hy a ha⟩) (by omega) (by omega))) (c5s hf.gd hg.gd) (sz_sums f g)
  ·refine Tt.bif (fun _=> ?_) (fun h=>by cases h)
   have e:Ev (fun n=>(a0m n [(toFm f).Pieces,g.map toP]).bind fun v6=>some (⟨v6⟩:M.Form)) (toFm (b9m 9 f g)):=by
    refine Ev.bind (d2t (by show(f.map toP).length<=_;rw [List.length_map];omega) (by rw [List.length_map];omega)) ((Ev.pure _).eq ?_)
    show(⟨f.map toP++g.map toP⟩:M.Form)=⟨(f++g).map toP⟩
    rw [List.map_append]
   have:=fin e (e1i (hf.gd.mono (by omega)) (hg.gd.mono (by omega))) (sz_app f g)
   obtain⟨r,hr,h⟩:=this
   exact⟨r,Ev.conv (fun n=>by cases a0m n [(toFm f).Pieces,g.map toP]<;>rfl) hr,h⟩
  ·refine Tt.bif (fun h=>by cases h) (fun _=>Tt.bif (fun _=> ?_) (fun h=>by cases h))
   exact fin (b0k (op:=(·++·)) (by omega) (by omega) (fun x hx y hy=>e0c (by have:=mem_len hx;omega) (by have:=mem_len hy;omega))) (d7p (hf.gd.mono (by omega)) (hg.gd.mono (by omega))) (sz_both f g)
theorem d6d{o:Int}(hf:Gb names.length A f)(hg:Gb names.length B g)(hn:names.length<=1000)(hk:A+B+1<1000000)(ho:o=5∨o=6∨o=9∨o=10)(b:Bool)(hlen:b=false->∀r,c3a o f g=some r->r.length<=200):
 Tt (Res names fc (A+B+1) (if b=true then none else c3a o f g)) (fun n=>a5i n ⟨names,fc,b⟩ o (toFm f) (toFm g)):=by
 unfold a5i
 refine Tt.bind (P:=fun r=>∃g' b',r=(g'.map toP,names,fc.Lifts,fc.Persons,fc.Flats,b')/\Gb names.length B g'/\(if b=true then none else(if o=6 then oppB g else some g))=(if b'=true then none else some g')/\(b'=false->b=false)) ?_ ?_
 ·refine Tt.bif (fun h6=> ?_) (fun h6=> ?_)
  ·have h6:o=6:=by simpa using h6
   refine Tt.bind (c3t (fc:=fc) hg hn (by omega) b) fun r⟨g',hr1,hr2,hr3⟩=>Tt.pure ?_
   rcases hr3 with⟨e1,e2⟩|⟨e1,e2⟩
   ·refine⟨g',false,by rw [hr1,e2];rfl,hr2,by rw [if_pos h6,e1];rfl,fun _=> ?_⟩
    cases b
    ·rfl
    ·cases e1
   ·exact⟨g',true,by rw [hr1,e2];rfl,hr2,by rw [if_pos h6,e1];rfl,fun h=>by cases h⟩
  ·have h6:¬o=6:=by simpa using h6
   exact Tt.pure ⟨g,b,rfl,hg,by rw [if_neg h6],id⟩
 ·rintro _ ⟨g',b',rfl,hg',hb,hbb⟩
  dsimp only
  have hfl:=hf.len
  have hfs:=hf.sz
  have hgl:=hg'.len
  have hgs:=hg'.sz
  have s1:Ev (fun n=>a3y n (toFm f)) (Fm.sz f:Int):=d6c f (by omega) (by omega)
  have s2:Ev (fun n=>a3y n (⟨g'.map toP⟩:M.Form)) (Fm.sz g':Int):=d6c g' (by omega) (by omega)
  have m1:=Nat.mul_le_mul hfs hgl
  have m2:=Nat.mul_le_mul hgs hfl
  have m3:=Nat.mul_le_mul hfs hgs
  have hpb:(if b=true then none else c3a o f g)=(if b'=true then none else if c5p o f g'<=200 then some (b9m o f g')else none):=by
   have e:(if b=true then none else c3a o f g)=(if b=true then none else(if o=6 then oppB g else some g)).bind fun g=>if c5p o f g<=200 then some (b9m o f g)else none:=by rw [d3t];rfl
   rw [e,hb,d3t];rfl
  have hlen':b'=false->c5p o f g'<=200->(b9m o f g').length<=200:=by
   intro h1 h2
   have h3:=hbb h1
   refine hlen h3 _ ?_
   rw [h3,h1,if_neg (by decide),if_neg (by decide),if_pos h2]at hpb
   exact hpb
  rw [hpb]
  refine Tt.evb s1 (Tt.evb s2 ?_)
  have mi:∀{x y:Nat},x*y<=40000->imul .i64 (x:Int) (y:Int)=((x*y:Nat):Int):=fun h=>mulN (by omega)
  rcases ho with rfl|rfl|rfl|rfl
  ·refine Tt.bif (fun h=>by cases h) (fun _=>Tt.bif (fun h=>by cases h) (fun _=> ?_))
   exact c0c (k:=imul .i64 (Fm.sz f:Int) (Fm.sz g':Int)) hf hg' hn hk (by decide) b' (mi m3) hlen'
  ·refine Tt.bif (fun h=>by cases h) (fun _=>Tt.bif (fun h=>by cases h) (fun _=> ?_))
   exact c0c (k:=imul .i64 (Fm.sz f:Int) (Fm.sz g':Int)) hf hg' hn hk (by decide) b' (mi m3) hlen'
  ·refine Tt.bif (fun _=> ?_) (fun h=>by cases h)
   refine Tt.evb s1 (Tt.evb s2 ?_)
   exact c0c (k:=iadd .i64 (Fm.sz f:Int) (Fm.sz g':Int)) hf hg' hn hk (by decide) b' (by rw [a2v (by omega) (by omega)];rfl) hlen'
  ·refine Tt.bif (fun h=>by cases h) (fun _=>Tt.bif (fun _=> ?_) (fun h=>by cases h))
   refine Tt.evb s1 (Tt.evb s2 ?_)
   refine c0c (k:=iadd .i64 (imul .i64 (Fm.sz f:Int) ((g'.map toP).length:Int)) (imul .i64 (Fm.sz g':Int) ((toFm f).Pieces.length:Int))) hf hg' hn hk (by decide) b' ?_ hlen'
   have l1:(toFm f).Pieces.length=f.length:=List.length_map ..
   rw [List.length_map,l1,mi m1,mi m2,a2v (by omega) (by omega)];rfl
end
section
variable{names:List Rt.Bs}{fc:Facts}(hf:RF names fc (List.replicate names.length 0))(hnm:named names=true)(hn:names.length<=1000)
include hf hnm hn
omit hf hnm hn in
theorem d7j(k:Nat):∀w,w∈List.replicate k (0:Rat)->SmF 4 w:=fun w hw=>by obtain⟨_,rfl⟩:=List.mem_replicate.1 hw;exact sm0 (by decide)
theorem e5c{x:M.Expr}(hx:Fit x)(hfr:Frm x){k:Int}(ht:Typ names x k)(hk:k≠0):Ev (fun n=>a4b n (⟨[97],x,-1⟩:Tariff) names fc (List.replicate names.length (toF 0))) (toF (num (E0 names fc) x),0):=by
 have:=(d0o (t:=⟨[97],x,-1⟩) hx (by omega) (d7j names.length) (by decide) (by decide) (by omega) ⟨hnm,⟨show Lx.name [97]=true by decide,hfr,show(-1:Int)<=-1 by decide,show(-1:Int)<=1099511627776 by decide⟩,k,hk,ht⟩ hf).1
 rwa [List.map_replicate]at this
theorem b1t{x:M.Expr}(hx:Fit x)(hfr:Frm x){k:Int}(ht:Typ names x k)(hk:k≠0)(b:Bool):Ev (fun n=>a2k n ⟨names,fc,b⟩ x) (⟨names,fc,b⟩,toF (num (E0 names fc) x)):=by
 unfold a2k
 exact Ev.bind FInt0 (Ev.bind (b7e _ hn) (Ev.bind (Ev.bind (e5c hf hnm hn hx hfr ht hk) (Ev.pure _)) (Ev.pure _)))
theorem d9u{c a e:M.Expr}(hx:Fit c)(hfr:Frm ⟨11,0,[],[c,a,e]⟩)(ht:Typ names c 0)(b:Bool):Ev (fun n=>a5a n ⟨names,fc,b⟩ c) (⟨names,fc,b⟩,tru (E0 names fc) c):=by
 unfold a5a
 have f0:Fit ⟨11,0,[],[c,⟨0,1,[],[]⟩,⟨0,0,[],[]⟩]⟩:=Fit.mk (by simp) (fun y hy=>by
  simp only [List.mem_cons,List.not_mem_nil,or_false]at hy
  rcases hy with rfl|rfl|rfl
  ·exact hx
  ·exact Fit.leaf _ _ _
  ·exact Fit.leaf _ _ _)
 have t0:Typ names ⟨11,0,[],[c,⟨0,1,[],[]⟩,⟨0,0,[],[]⟩]⟩ (wd 1 1):=Typ.ite ht (Typ.num (by decide) (by decide)) (Typ.num (by decide) (by decide)) (by decide) (by decide)
 have hc1:cnt ⟨11,0,[],[c,a,e]⟩=cnt c+(cnt a+(cnt e+0))+1:=rfl
 have hc2:cnt ⟨11,0,[],[c,⟨0,1,[],[]⟩,⟨0,0,[],[]⟩]⟩=cnt c+(1+(1+0))+1:=rfl
 have hd1:dep ⟨11,0,[],[c,a,e]⟩=max (dep c) (max (dep a) (max (dep e) 0))+1:=rfl
 have hd2:dep ⟨11,0,[],[c,⟨0,1,[],[]⟩,⟨0,0,[],[]⟩]⟩=max (dep c) (max 1 (max 1 0))+1:=rfl
 have pa:=b1d a
 have pe:=b1d e
 have da:1<=dep a:=by obtain⟨o,n,s,l⟩:=a;show 1<=deps l+1;omega
 have r1:Frm ⟨11,0,[],[c,⟨0,1,[],[]⟩,⟨0,0,[],[]⟩]⟩:=⟨⟨by have:=hfr.1.1;omega,by have:=hfr.1.2;omega⟩,t0.shx⟩
 refine Ev.bind (b1t hf hnm hn f0 r1 t0 (by decide) b) ?_
 have hv:num (E0 names fc) ⟨11,0,[],[c,⟨0,1,[],[]⟩,⟨0,0,[],[]⟩]⟩=if tru (E0 names fc) c=true then 1 else 0:=by rw [num_ite,num_num,num_num];rfl
 rw [hv]
 cases tru (E0 names fc) c with
 |true=>exact Ev.bind (FSign_ev (k:=1) (sm1 (by decide)) (by decide)) ((Ev.pure _).eq rfl)
 |false=>exact Ev.bind (FSign_ev (k:=1) (sm0 (by decide)) (by decide)) ((Ev.pure _).eq rfl)
omit hf in
theorem b6e{x:M.Expr}(hx:Fit x)(hfr:Frm x){k:Int}(ht:Typ names x k)(b:Bool):Ev (fun n=>a3m n ⟨names,fc,b⟩ x) (⟨names,fc,b⟩,k):=by
 unfold a3m
 exact Ev.bind (e4x (by omega) hnm hx hfr ht) (Ev.pure _)
omit hf hnm hn in
theorem d6o{x:M.Expr}:Ev (fun n=>minmax_maker_made n ⟨names,fc,true⟩ x) (⟨names,fc,true⟩,⟨[]⟩):=Ev.suc (fun n=>minmax_maker_made_s _ _ n) (Ev.then rfl (Ev.pure _))
theorem d9y{x:M.Expr}(hx:Fit x)(hfr:Frm x)(ht:Typ names x 1){K:Nat->maker×Int->Option (maker×M.Form)}:Tt (Res names fc (4*cnt x) (some (cst names.length (num (E0 names fc) x)))) (fun n=>(a3m n ⟨names,fc,false⟩ x).bind fun v1=>bif v1.2==1 then(a2k n v1.1 x).bind fun v2=>(a1h n v2.1 v2.2).bind fun v3=>some (v3.1,v3.2)else K n v1):=by
 refine Tt.evb (b6e hnm hn hx hfr ht false) (Tt.bif (fun _=> ?_) (fun h=>by cases h))
 refine Tt.evb (b1t hf hnm hn hx hfr ht (by decide) false) ?_
 have hc:cnt x<=1000:=by have:=hfr.1.2;omega
 refine Tt.bind (c3l (fc:=fc) (num (E0 names fc) x) (b7x hf (by omega) ht (by decide) hc) (by have:=b1d x;omega) hn false) fun r hr=>Tt.pure ?_
 exact hr
omit hf hnm hn in
theorem d9p{n k:Nat}(hk:k<n):setw (toFm (cst n 0)).Pieces (k:Int) (toF 1)=some (toFm (wgt n k)).Pieces:=by
 rw [c5b]
 unfold setw
 dsimp only
 have h1:lset (List.replicate n (toF 0)) (k:Int) (toF 1)=some ((List.replicate n (toF 0)).set k (toF 1)):=by
  unfold lset
  rw [if_pos ⟨by omega,by simp;omega⟩,Int.toNat_natCast]
 rw [h1]
 unfold toFm wgt toP toA
 simp only [List.map_cons,List.map_nil,List.map_set,List.map_replicate,Option.bind_some]
theorem e7o{x:M.Expr}{k:Int}(ht:Typ names x k):Fit x->Frm x->k≠0->Tt (Res names fc (4*cnt x) (mk names (E0 names fc) x).2) (fun n=>minmax_maker_made n ⟨names,fc,false⟩ x):=by
 have c2:∀(o n:Int)(s:Rt.Bs)(a b:M.Expr),cnt ⟨o,n,s,[a,b]⟩=cnt a+cnt b+1:=fun o n s a b=>by show cnt a+(cnt b+0)+1=_;omega
 have num1:∀{x:M.Expr},Typ names x 1->Fit x->Frm x->Tt (Res names fc (4*cnt x) (mk names (E0 names fc) x).2) (fun n=>minmax_maker_made n ⟨names,fc,false⟩ x):=by
  intro x ht hx hfr
  rw [(c3h hf (by omega) ht (by have:=hfr.1.2;omega) (by decide)).2.1 rfl]
  exact Tt.suc (fun n=>minmax_maker_made_s _ _ n) (Tt.bif (fun h=>by cases h) (fun _=>d9y hf hnm hn hx hfr ht))
 have ht0:=ht
 induction ht with
 |num h0 h1=>intro hx hfr _;exact num1 ht0 hx hfr
 |lifts h0 h1=>intro hx hfr _;exact num1 ht0 hx hfr
 |pers=>intro hx hfr _;exact num1 ht0 hx hfr
 |flats=>intro hx hfr _;exact num1 ht0 hx hfr
 | @wgt s h0 hs=>
  intro hx hfr _
  refine Tt.suc (fun n=>minmax_maker_made_s _ _ n) (Tt.bif (fun h=>by cases h) (fun _=> ?_))
  refine Tt.evb (b6e hnm hn hx hfr ht0 false) (Tt.bif (fun h=>by cases h) (fun _=>Tt.bif (fun _=> ?_) (fun h=>by cases h)))
  refine Tt.evb FInt0 (Tt.evb (c1a _ 0 hn) ?_)
  have hi:names.idxOf s<names.length:=List.idxOf_lt_length_of_mem hs
  refine Tt.step (a:= [⟨toF 0,List.replicate names.length (toF 0)⟩]) (by rw [c5b];rfl) ?_
  refine Tt.step (a:=⟨toF 0,List.replicate names.length (toF 0)⟩) rfl ?_
  refine Tt.evb (d0n s (by show names.length<_;omega)) ?_
  rw [if_pos (show s∈names from hs)]
  refine Tt.evb FInt1 ?_
  refine Tt.step (a:=toF 0) (by rw [b2z];show(List.replicate names.length (toF 0))[names.idxOf s]?=_;rw [List.getElem?_replicate,if_pos hi]) ?_
  refine Tt.step (d9p hi) (Tt.pure ?_)
  exact⟨wgt names.length (names.idxOf s),rfl,⟨e0s (by show 1<=4*1;decide),by show 1+0<=200;decide,by show 1<=200;decide⟩,.inl ⟨rfl,rfl⟩⟩
 | @ari o a b p q ho ha hb hp hq iha ihb=>
  intro hx hfr _
  have hxa:=b4b hx (y:=a) (by simp)
  have hxb:=b4b hx (y:=b) (by simp)
  have hra:=b6d hfr (y:=a) (by simp)
  have hrb:=b6d hfr (y:=b) (by simp)
  have hcx:=hfr.1.2
  rw [c2]at hcx
  have ma:=c3h hf (by omega) ha (by omega) hp
  have mb:=c3h hf (by omega) hb (by omega) hq
  have hw:=wd2 (r12 ha hp) (r12 hb hq)
  rcases a9o p q with h1|h2
  ·rw [h1]at ht0;exact num1 ht0 hx hfr
  ·rw [h2]at ht0
   have hcond:((mk names (E0 names fc) a).1||(mk names (E0 names fc) b).1)=true:=by rw [ma.1,mb.1,<-hw,h2];rfl
   have e:(mk names (E0 names fc) ⟨o,0,[],[a,b]⟩).2=(mk names (E0 names fc) a).2.bind fun f=>(mk names (E0 names fc) b).2.bind fun g=>c3a o f g:=by
    rw [b6o,b2b]
    rw [if_pos hcond,if_neg (by omega),if_neg (by omega)]
   have hm:=c3h hf (by omega) ht0 (by rw [c2];omega) (by decide)
   rw [e]
   have ne:∀k:Int,(k=4∨k=11∨k=8∨k=7)->(o==k)=false:=fun k hk=>by rw [beq_eq_false_iff_ne];omega
   refine Tt.suc (fun n=>minmax_maker_made_s _ _ n) (Tt.bif (fun h=>by cases h) (fun _=> ?_))
   refine Tt.evb (b6e hnm hn hx hfr ht0 false) (Tt.bif (fun h=>by cases h) (fun _=> ?_))
   refine Tt.bif (fun h=>by rw [show(o==4)=false from ne 4 (by decide)]at h;cases h) (fun _=>Tt.bif (fun h=>by rw [show(o==11)=false from ne 11 (by decide)]at h;cases h) (fun _=>Tt.bif (fun h=>by rw [show(o==8)=false from ne 8 (by decide)]at h;cases h) (fun _=>Tt.bif (fun h=>by rw [show(o==7)=false from ne 7 (by decide)]at h;cases h) (fun _=> ?_))))
   refine Tt.step (a:=a) rfl (Tt.bind (iha ha hxa hra hp) fun r1⟨f,f1,f2,f3⟩=>Tt.step (a:=b) rfl ?_)
   rw [c2]
   rcases f3 with⟨f3,f4⟩|⟨f3,f4⟩
   ·rw [f4]
    refine Tt.bind (ihb hb hxb hrb hq) fun r2⟨g,g1,g2,g3⟩=> ?_
    rw [f1,g1,f3]
    rcases g3 with⟨g3,g4⟩|⟨g3,g4⟩
    ·rw [g3,g4]
     refine Tt.bind (d6d (fc:=fc) f2 g2 hn (by omega) ho false fun _ r hr=> ?_) fun r3 hr3=>Tt.pure (Res.weak hr3 (by omega))
     exact(hm.2.2 r (by rw [e,f3,g3];exact hr)).len
    ·rw [g3,g4]
     refine Tt.bind (d6d (fc:=fc) f2 g2 hn (by omega) ho true fun h=>by cases h) fun r3 hr3=>Tt.pure (Res.weak hr3 (by omega))
   ·rw [f4]
    refine Tt.evb d6o ?_
    rw [f1,f3]
    refine Tt.bind (d6d (fc:=fc) (B:=0) f2 (d3c _ _) hn (by omega) ho true fun h=>by cases h) fun r3 hr3=>Tt.pure (Res.weak hr3 (by omega))
 | @mul a b p q ha hb hp hq hpq iha ihb=>
  intro hx hfr _
  have hxa:=b4b hx (y:=a) (by simp)
  have hxb:=b4b hx (y:=b) (by simp)
  have hra:=b6d hfr (y:=a) (by simp)
  have hrb:=b6d hfr (y:=b) (by simp)
  have hcx:=hfr.1.2
  rw [c2]at hcx
  have ma:=c3h hf (by omega) ha (by omega) hp
  have mb:=c3h hf (by omega) hb (by omega) hq
  have hw:=wd2 (r12 ha hp) (r12 hb hq)
  rcases a9o p q with h1|h2
  ·rw [h1]at ht0;exact num1 ht0 hx hfr
  ·rw [h2]at ht0
   have hcond:((mk names (E0 names fc) a).1||(mk names (E0 names fc) b).1)=true:=by rw [ma.1,mb.1,<-hw,h2];rfl
   have e:(mk names (E0 names fc) ⟨7,0,[],[a,b]⟩).2=if(mk names (E0 names fc) a).1=true then(mk names (E0 names fc) a).2.bind fun f=>b9k names.length f (num (E0 names fc) b)else(mk names (E0 names fc) b).2.bind fun f=>b9k names.length f (num (E0 names fc) a):=by
    rw [b6o,b2b]
    rw [if_pos hcond,if_pos rfl];rfl
   rw [e]
   refine Tt.suc (fun n=>minmax_maker_made_s _ _ n) (Tt.bif (fun h=>by cases h) (fun _=> ?_))
   refine Tt.evb (b6e hnm hn hx hfr ht0 false) (Tt.bif (fun h=>by cases h) (fun _=> ?_))
   refine Tt.bif (fun h=>by cases h) (fun _=>Tt.bif (fun h=>by cases h) (fun _=>Tt.bif (fun h=>by cases h) (fun _=>Tt.bif (fun _=> ?_) (fun h=>by cases h))))
   refine Tt.step (a:=a) rfl (Tt.evb (b6e hnm hn hxa hra ha false) ?_)
   rw [c2]
   refine Tt.bif (fun h1=> ?_) (fun h1=> ?_)
   ·have hp1:p=1:=by simpa using h1
    subst hp1
    rw [ma.1,if_neg (by decide)]
    refine Tt.step (a:=b) rfl (Tt.step (a:=a) rfl ?_)
    refine Tt.bind (ihb hb hxb hrb hq) fun r1⟨f,f1,f2,f3⟩=> ?_
    rw [f1]
    have hs:=b7x hf (by omega) ha (by decide) (by omega)
    rcases f3 with⟨f3,f4⟩|⟨f3,f4⟩
    ·rw [f4,f3]
     refine Tt.evb (b1t hf hnm hn hxa hra ha (by decide) false) ?_
     exact Tt.bind (b7g (fc:=fc) f2 hs (by have:=b1d a;omega) hn (by omega) false) fun r3 hr3=>Tt.pure (Res.weak hr3 (by omega))
    ·rw [f4,f3]
     refine Tt.evb (b1t hf hnm hn hxa hra ha (by decide) true) ?_
     exact Tt.bind (b7g (fc:=fc) f2 hs (by have:=b1d a;omega) hn (by omega) true) fun r3 hr3=>Tt.pure (Res.weak hr3 (by omega))
   ·have hp2:p=2:=by
     rcases r12 ha hp with h|h
     ·subst h;cases h1
     ·exact h
    have hq1:q=1:=by rcases r12 hb hq with h|h;exact h;exact absurd ⟨hp2,h⟩ hpq
    subst hp2;subst hq1
    rw [ma.1,if_pos (by decide)]
    refine Tt.step (a:=a) rfl (Tt.step (a:=b) rfl ?_)
    refine Tt.bind (iha ha hxa hra hp) fun r1⟨f,f1,f2,f3⟩=> ?_
    rw [f1]
    have hs:=b7x hf (by omega) hb (by decide) (by omega)
    rcases f3 with⟨f3,f4⟩|⟨f3,f4⟩
    ·rw [f4,f3]
     refine Tt.evb (b1t hf hnm hn hxb hrb hb (by decide) false) ?_
     exact Tt.bind (b7g (fc:=fc) f2 hs (by have:=b1d b;omega) hn (by omega) false) fun r3 hr3=>Tt.pure (Res.weak hr3 (by omega))
    ·rw [f4,f3]
     refine Tt.evb (b1t hf hnm hn hxb hrb hb (by decide) true) ?_
     exact Tt.bind (b7g (fc:=fc) f2 hs (by have:=b1d b;omega) hn (by omega) true) fun r3 hr3=>Tt.pure (Res.weak hr3 (by omega))
 | @div a m p ha hp h1 h2 iha=>
  intro hx hfr _
  have hxa:=b4b hx (y:=a) (by simp)
  have hra:=b6d hfr (y:=a) (by simp)
  have hcx:=hfr.1.2
  rw [c2]at hcx
  have ma:=c3h hf (by omega) ha (by omega) hp
  rcases r12 ha hp with rfl|rfl
  ·exact num1 ht0 hx hfr
  ·have e:(mk names (E0 names fc) ⟨8,0,[],[a,⟨0,m,[],[]⟩]⟩).2=(mk names (E0 names fc) a).2.map (scl (1/(m:Rat))):=by
    have hb:(mk names (E0 names fc) ⟨0,m,[],[]⟩).1=false:=rfl
    rw [b6o,b2b]
    rw [if_pos (by rw [ma.1,hb];decide),if_neg (by decide),if_pos rfl];rfl
   rw [e]
   refine Tt.suc (fun n=>minmax_maker_made_s _ _ n) (Tt.bif (fun h=>by cases h) (fun _=> ?_))
   refine Tt.evb (b6e hnm hn hx hfr ht0 false) (Tt.bif (fun h=>by cases h) (fun _=> ?_))
   refine Tt.bif (fun h=>by cases h) (fun _=>Tt.bif (fun h=>by cases h) (fun _=>Tt.bif (fun _=> ?_) (fun h=>by cases h)))
   refine Tt.step (a:=⟨0,m,[],[]⟩) rfl ?_
   have hdv:Rat.divInt 1 m=1/(m:Rat):=by rw [Rat.divInt_eq_div];rfl
   have hof:=e6v (x:=1) (y:=m) (by decide) (by decide) (by omega) (by omega) (by omega)
   rw [hdv]at hof
   refine Tt.evb hof (Tt.step (a:=a) rfl ?_)
   have hs:SmF 5 (1/(m:Rat)):=e4s (j:=1) (k:=4) (sm1 (by decide)) (smI (x:=m) (by omega) (by omega) (by decide)) (by rw [Rat.num_intCast];omega)
   have hcl:cnt ⟨0,m,[],[]⟩=1:=rfl
   rw [c2]
   refine Tt.bind (iha ha hxa hra hp) fun r1⟨f,f1,f2,f3⟩=> ?_
   rw [f1]
   obtain⟨e5,hg5⟩:=c2a f2 hs hn (by omega)
   refine Tt.evb e5 (Tt.pure ⟨_,rfl,hg5.mono (by omega),?_⟩)
   rcases f3 with⟨f3,f4⟩|⟨f3,f4⟩
   ·exact .inl ⟨by rw [f3];rfl,f4⟩
   ·exact .inr ⟨by rw [f3];rfl,f4⟩
 | @ite c a b p q hc0 ha hb hp hq ihc iha ihb=>
  intro hx hfr _
  have hxc:=b4b hx (y:=c) (by simp)
  have hxa:=b4b hx (y:=a) (by simp)
  have hxb:=b4b hx (y:=b) (by simp)
  have hra:=b6d hfr (y:=a) (by simp)
  have hrb:=b6d hfr (y:=b) (by simp)
  have hcx:=hfr.1.2
  have hc3:cnt ⟨11,0,[],[c,a,b]⟩=cnt c+cnt a+cnt b+1:=by show cnt c+(cnt a+(cnt b+0))+1=_;omega
  rw [hc3]at hcx
  have ma:=c3h hf (by omega) ha (by omega) hp
  have mb:=c3h hf (by omega) hb (by omega) hq
  have hw:=wd2 (r12 ha hp) (r12 hb hq)
  rcases a9o p q with h1|h2
  ·rw [h1]at ht0;exact num1 ht0 hx hfr
  ·rw [h2]at ht0
   have hcond:((mk names (E0 names fc) a).1||(mk names (E0 names fc) b).1)=true:=by rw [ma.1,mb.1,<-hw,h2];rfl
   have e:(mk names (E0 names fc) ⟨11,0,[],[c,a,b]⟩).2=if tru (E0 names fc) c=true then(mk names (E0 names fc) a).2 else(mk names (E0 names fc) b).2:=by
    show(mkN names 11 [] (num (E0 names fc) ⟨11,0,[],[c,a,b]⟩) [vl (E0 names fc) c,vl (E0 names fc) a,vl (E0 names fc) b] [mk names (E0 names fc) c,mk names (E0 names fc) a,mk names (E0 names fc) b]).2=_
    rw [c0z,if_pos hcond];rfl
   rw [e]
   refine Tt.suc (fun n=>minmax_maker_made_s _ _ n) (Tt.bif (fun h=>by cases h) (fun _=> ?_))
   refine Tt.evb (b6e hnm hn hx hfr ht0 false) (Tt.bif (fun h=>by cases h) (fun _=> ?_))
   refine Tt.bif (fun h=>by cases h) (fun _=>Tt.bif (fun _=> ?_) (fun h=>by cases h))
   refine Tt.step (a:=c) rfl (Tt.evb (d9u hf hnm hn hxc hfr hc0 false) ?_)
   rw [hc3]
   cases tru (E0 names fc) c with
   |true=>
    refine Tt.bif (fun _=> ?_) (fun h=>by cases h)
    exact Tt.step (a:=a) rfl (Tt.bind (iha ha hxa hra hp) fun r hr=>Tt.pure (Res.weak hr (by omega)))
   |false=>
    refine Tt.bif (fun h=>by cases h) (fun _=> ?_)
    exact Tt.step (a:=b) rfl (Tt.bind (ihb hb hxb hrb hq) fun r hr=>Tt.pure (Res.weak hr (by omega)))
 |rel=>intro _ _ h;exact absurd rfl h
 |not=>intro _ _ h;exact absurd rfl h
 |bin=>intro _ _ h;exact absurd rfl h
end
end Go.Proofs.YthaegflpecbfgaaGreatDoor.Fm
namespace Go.Proofs.YthaegflpecbfgaaGreatDoor.Fm
open Go Rt M Ta Tp D Fe
theorem c7h{names:List Rt.Bs}{f:Facts}{t:Tariff}(hx:Fit t.Fee)(hn:names.length<=1000)(hl:f.Lifts.length<=1000000){weights:List Frac}{k:Nat}(hw:Lim k weights)(hk:k<=30)(hk4:4<=k)(hwl:weights.length<=1000000):
 ∃e,Ev (fun n=>a2y n t names) e/\(e=0↔Chk names t)/\(e≠0->Ev (fun n=>a4b n t names f weights) (zeroF,e))/\(e=0->b0x names f weights=false->Ev (fun n=>a4b n t names f weights) (zeroF,1))/\
  (e=0->∀ws:List Rat,weights=ws.map toF->RF names f ws->(∀w,w∈ws->SmF k w)->Ev (fun n=>a4b n t names f weights) (toF (fv names f ws t),0)/\SmF 3000 (fv names f ws t)):=by
 obtain⟨e,he,hq⟩:=c8l hx names (by omega)
 refine⟨e,he,hq,fun h=> ?_,fun h hr=> ?_,fun h ws hws hrf hsm=> ?_⟩
 ·unfold a4b
  exact Ev.bind he (Ev.then (by simpa using h) (Ev.pure _))
 ·unfold a4b
  subst h
  refine Ev.bind he (Ev.else rfl (Ev.bind (d1t hw hk hl hwl) ?_))
  rw [hr]
  exact Ev.then rfl (Ev.pure _)
 ·subst hws
  exact d0o hx (by omega) hsm hk hk4 (by omega) (hq.1 h) hrf
def FR(names:List Rt.Bs)(f:Facts):Prop:=RF names f (List.replicate names.length 0)
theorem e4n{names:List Rt.Bs}{f:Facts}{ws:List Rat}(h:RF names f ws):FR names f:=⟨h.hl,by simp,h.p1,h.p2,h.f1,h.f2,h.l1,fun w hw=>by obtain⟨_,rfl⟩:=List.mem_replicate.1 hw;exact Rat.le_refl⟩
theorem lim0(k:Nat):Lim 4 (List.replicate k (toF 0)):=by
 intro w hw
 obtain⟨_,rfl⟩:=List.mem_replicate.1 hw
 exact b2j (sm0 (by decide))
theorem e6u{names:List Rt.Bs}{f:Facts}:b0x names f (List.replicate names.length (toF 0))=true↔FR names f:=by
 constructor
 ·intro h
  obtain⟨ws,_,h2,_⟩:=b4z (lim0 _) h
  exact e4n h2
 ·intro h
  have:=c6l h
  rwa [List.map_replicate]at this
theorem e5g{names:List Rt.Bs}{f:Facts}{t:Tariff}(hx:Fit t.Fee)(hn:names.length<=1000)(hl:f.Lifts.length<=1000000):
 ∃e,Ev (fun n=>a2y n t names) e/\(e=0↔Chk names t)/\(e≠0->Ev (fun n=>a4x n t names f) (⟨[]⟩,e))/\(e=0->¬FR names f->Ev (fun n=>a4x n t names f) (⟨[]⟩,1))/\
  (e=0->FR names f->(∀g,(mk names (E0 names f) t.Fee).2=some g->Ev (fun n=>a4x n t names f) (toFm g,0))/\((mk names (E0 names f) t.Fee).2=none->Ev (fun n=>a4x n t names f) (⟨[]⟩,6))):=by
 obtain⟨e,he,hq⟩:=c8l hx names (by omega)
 have num:e=0->∃e2,(e2=0↔FR names f)/\(e2≠0->e2=1)/\Ev (fun n=>(a3f n 0).bind fun v3=>(a2q n [v3] (names.length:Int)).bind fun v4=>(a4b n (⟨[97],(⟨0,0,[],[]⟩:M.Expr),(-1)⟩:Tariff) names f v4).bind fun v5=>some v5.2) e2:=by
  intro h0
  have hc:=hq.1 h0
  have hc2:Chk names ⟨[97],⟨0,0,[],[]⟩,-1⟩:=⟨hc.1,⟨show Lx.name [97]=true by decide,⟨⟨by decide,by decide⟩,(Typ.num (names:= []) (by decide) (by decide)).shx⟩,show(-1:Int)<=-1 by decide,show(-1:Int)<=1099511627776 by decide⟩,1,by decide,Typ.num (by decide) (by decide)⟩
  obtain⟨e3,g1,g2,g3,g4,g5⟩:=c7h (names:=names) (f:=f) (t:=⟨[97],⟨0,0,[],[]⟩,-1⟩) (weights:=List.replicate names.length (toF 0)) (k:=4) (Fit.leaf _ _ _) hn hl (lim0 _) (by decide) (by decide) (by simp;omega)
  have h3:=g2.2 hc2
  by_cases hr:FR names f
  ·refine⟨0,⟨fun _=>hr,fun _=>rfl⟩,fun h=>absurd rfl h,?_⟩
   exact Ev.bind FInt0 (Ev.bind (b7e _ hn) (Ev.bind (g5 h3 (List.replicate names.length 0) (by rw [List.map_replicate]) hr (d7j _)).1 (Ev.pure _)))
  ·refine⟨1,⟨fun h=>(by cases h),fun h=>absurd h hr⟩,fun _=>rfl,?_⟩
   have hr2:b0x names f (List.replicate names.length (toF 0))=false:=by
    cases h:b0x names f (List.replicate names.length (toF 0))with
    |false=>rfl
    |true=>exact absurd (e6u.1 h) hr
   exact Ev.bind FInt0 (Ev.bind (b7e _ hn) (Ev.bind (g4 h3 hr2) (Ev.pure _)))
 refine⟨e,he,hq,fun h=> ?_,fun h hr=> ?_,fun h hr=> ?_⟩
 ·unfold a4x
  exact Ev.bind he (Ev.then (by simpa using h) (Ev.pure _))
 ·obtain⟨e2,h1,h2,h3⟩:=num h
  have h4:e2≠0:=fun h=>hr (h1.1 h)
  have h5:=h2 h4
  subst h5
  unfold a4x
  exact Ev.bind he (Ev.else (by rw [h];rfl) (Ev.bind h3 (Ev.then rfl (Ev.pure _))))
 ·obtain⟨e2,h1,h2,h3⟩:=num h
  have h5:=h1.2 hr
  subst h5
  obtain⟨hc1,hc2,k,hk,ht⟩:=hq.1 h
  obtain⟨r,hr1,g,hr2,hr3,hr4⟩:=e7o hr hc1 hn ht hx hc2.2.1 hk
  have main:∀{res:M.Form×Int},(bif r.1.full then some ((⟨[]⟩:M.Form),(6:Int))else some (r.2,0))=some res->Ev (fun n=>a4x n t names f) res:=by
   intro res hres
   unfold a4x
   refine Ev.bind he (Ev.else (by rw [h];rfl) (Ev.bind h3 (Ev.else rfl (Ev.bind hr1 ?_))))
   rw [hres];exact Ev.pure _
  refine⟨fun g' hg'=> ?_,fun hnone=> ?_⟩
  ·rcases hr4 with⟨e1,e3⟩|⟨e1,e3⟩
   ·rw [hg']at e1;cases e1
    exact main (by rw [e3,hr2];rfl)
   ·rw [hg']at e1;cases e1
  ·rcases hr4 with⟨e1,e3⟩|⟨e1,e3⟩
   ·rw [hnone]at e1;cases e1
   ·exact main (by rw [e3];rfl)
def rat(f:Frac):Rat:=Rat.divInt (ofB f.P) (ofB f.Q)
theorem c2i(r:Rat):rat (toF r)=r:=by
 unfold rat toF
 rw [b4n,b4n]
 exact Rat.num_divInt_den r
theorem c8b{f:Frac}(h:a7x f=true):toF (rat f)=f:=by
 obtain⟨r,rfl⟩:=b6v h
 rw [c2i]
def LimF(k:Nat)(w:Frac):Prop:=w.P.Digits.length<=k/\w.Q.Digits.length<=k
theorem c9b{f:Frac}{k:Nat}(hl:LimF k f)(h:a7x f=true):SmF k (rat f):=by
 obtain⟨r,rfl,hs⟩:=d5a hl h
 rw [c2i];exact hs
def decA(a:Affine):RA:=(rat a.Const,a.Coefs.map rat)
def decX(x:M.Form):RFm:=x.Pieces.map (·.map decA)
theorem d9h(a:RA):decA (toA a)=a:=by
 obtain⟨c,l⟩:=a
 unfold decA toA
 simp only [c2i,List.map_map]
 congr 1
 rw [show rat∘toF=id from funext fun x=>c2i x,List.map_id]
theorem d3j(g:RFm):decX (toFm g)=g:=by
 unfold decX toFm toP
 simp only [List.map_map]
 rw [show((List.map decA)∘fun p:List RA=>List.map toA p)=id from funext fun p=>by
  show List.map decA (List.map toA p)=p
  rw [List.map_map,show decA∘toA=id from funext fun a=>d9h a,List.map_id],List.map_id]
theorem ratW(ws:List Rat):(ws.map toF).map rat=ws:=by rw [List.map_map,show rat∘toF=id from funext fun x=>c2i x,List.map_id]
def badC(c:Frac):Bool:= !a7x c
def oddA(k:Int)(a:Affine):Bool:=(badC a.Const||((a.Coefs.length:Int) !=k))||a.Coefs.any badC
def badL(k:Int)(l:List Affine):Bool:=((l.length:Int)==0)||l.any (oddA k)
def c7l(x:M.Form)(k:Int):Bool:=decide (0<(x.Pieces.length:Int))&& !(x.Pieces.any (badL k))
def b9b(x:M.Form)(weights:List Frac):Bool:=weights.any badC|| !c7l x (weights.length:Int)
structure LimX(k:Nat)(x:M.Form):Prop where
 len:x.Pieces.length<=1000
 lens:∀l,l∈x.Pieces->l.length<=4611686018427387904
 coefs:∀l,l∈x.Pieces->∀a,a∈l->a.Coefs.length<=1000
 con:∀l,l∈x.Pieces->∀a,a∈l->LimF k a.Const
 lim:∀l,l∈x.Pieces->∀a,a∈l->Lim k a.Coefs
theorem orE{c d:Bool}{x:Nat->Option Bool}(h:c=false->Ev x d):Ev (fun n=>bif c then some true else x n) (c||d):=by
 cases c
 ·exact Ev.else rfl (h rfl)
 ·exact Ev.then rfl (Ev.pure _)
section
variable{k:Nat}(hk:k<4000000)
include hk
theorem d3i{c:Frac}(h:LimF k c):Ev (fun n=>a4e n c) (badC c):=by
 unfold a4e
 exact Ev.bind (b7j h.1 h.2 (by omega)) (Ev.pure _)
theorem d8s{c:Frac}(h:LimF k c):Ev (fun n=>a7s n c) (badC c):=by
 unfold a7s
 exact Ev.bind (b7j h.1 h.2 (by omega)) (Ev.pure _)
omit hk in
theorem d4g{l:List Affine}(hl:l.length<=4611686018427387904)(F:Nat->Affine->Option Bool)(p:Affine->Bool)(hF:∀y,y∈l->Ev (fun n=>F n y) (p y)):Ev (fun n=>a1j n l (F n)) (l.any p):=by
 have L:=lpR (xs:=l) (h:=id) (σ:=Unit) (ρ:=Int) (by omega) (L:=fun n K m i _=>slices_IndexFunc_api_Affine_api_Affine_L1 n l (F n) (K ()) m i) (B:=fun n i x _ k=>(F n x).bind fun v1=>bif v1 then some i else k ()) (fun n K m i s=>by rw [slices_IndexFunc_api_Affine_api_Affine_L1_s,List.map_id]) (fun q _=>q.any p=false) (fun r=>0<=r/\l.any p=true) (fun q x q2 s hx hi=> ?_) (s0:=()) rfl
 ·unfold a1j a2a
  rcases L with⟨_,h1,N,L⟩|⟨r,⟨h0,h1⟩,N,L⟩
  ·refine Ev.bind (a:=-1) ⟨N,fun n hn=>L n (fun _=>some (-1)) hn⟩ ((Ev.pure _).eq (by rw [h1];rfl))
  ·refine Ev.bind (a:=r) ⟨N,fun n hn=>L n (fun _=>some (-1)) hn⟩ ((Ev.pure _).eq (by rw [h1];exact decide_eq_true h0))
 ·obtain⟨N,e⟩:=hF x (by rw [hx];simp)
  dsimp only at e
  cases hp:p x with
  |true=>exact .inr ⟨q.length,⟨by omega,by rw [hx,List.any_append,List.any_cons,hp];simp⟩,N,fun n k hn=>by rw [show(id x:Affine)=x from rfl,e n hn,hp];rfl⟩
  |false=>exact .inl ⟨(),by rw [List.any_append,hi];simp [hp],N,fun n k hn=>by rw [show(id x:Affine)=x from rfl,e n hn,hp];rfl⟩
omit hk in
theorem d4i{l:List (List Affine)}(hl:l.length<=4611686018427387904)(F:Nat->List Affine->Option Bool)(p:List Affine->Bool)(hF:∀y,y∈l->Ev (fun n=>F n y) (p y)):Ev (fun n=>a0u n l (F n)) (l.any p):=by
 have L:=lpR (xs:=l) (h:=id) (σ:=Unit) (ρ:=Int) (by omega) (L:=fun n K m i _=>slices_IndexFunc_LLapi_Affine_api_Affine_L1 n l (F n) (K ()) m i) (B:=fun n i x _ k=>(F n x).bind fun v1=>bif v1 then some i else k ()) (fun n K m i s=>by rw [slices_IndexFunc_LLapi_Affine_api_Affine_L1_s,List.map_id]) (fun q _=>q.any p=false) (fun r=>0<=r/\l.any p=true) (fun q x q2 s hx hi=> ?_) (s0:=()) rfl
 ·unfold a0u a1w
  rcases L with⟨_,h1,N,L⟩|⟨r,⟨h0,h1⟩,N,L⟩
  ·refine Ev.bind (a:=-1) ⟨N,fun n hn=>L n (fun _=>some (-1)) hn⟩ ((Ev.pure _).eq (by rw [h1];rfl))
  ·refine Ev.bind (a:=r) ⟨N,fun n hn=>L n (fun _=>some (-1)) hn⟩ ((Ev.pure _).eq (by rw [h1];exact decide_eq_true h0))
 ·obtain⟨N,e⟩:=hF x (by rw [hx];simp)
  dsimp only at e
  cases hp:p x with
  |true=>exact .inr ⟨q.length,⟨by omega,by rw [hx,List.any_append,List.any_cons,hp];simp⟩,N,fun n k hn=>by rw [show(id x:List Affine)=x from rfl,e n hn,hp];rfl⟩
  |false=>exact .inl ⟨(),by rw [List.any_append,hi];simp [hp],N,fun n k hn=>by rw [show(id x:List Affine)=x from rfl,e n hn,hp];rfl⟩
theorem e3n{a:Affine}{j:Int}(h1:LimF k a.Const)(h2:Lim k a.Coefs)(h3:a.Coefs.length<=1000):Ev (fun n=>a5e n a j) (oddA j a):=by
 unfold a5e oddA
 refine Ev.bind (d3i hk h1) (Ev.bind (orE fun _=>Ev.pure _) (Ev.bind (orE fun _=>Ev.bind (b3s (by omega) a4e badC fun y hy=>d3i hk (h2 y hy)) (Ev.pure _)) (Ev.pure _)))
theorem d7g{x:M.Form}{j:Int}(hx:LimX k x):Ev (fun n=>a9b n x j) (c7l x j):=by
 unfold a9b c7l
 have hxl:=hx.len
 refine Ev.bind (andE (x:=fun n=>(a0u n x.Pieces (fun l=>a5c n l j)).bind fun v2=>some (!v2)) fun _=>Ev.bind (d4i (by omega) (fun n l=>a5c n l j) (badL j) fun l hl=> ?_) (Ev.pure _)) (Ev.pure _)
 unfold a5c badL
 have hll:=hx.lens l hl
 refine Ev.bind (orE fun _=>Ev.bind (d4g (by omega) (fun n a=>a5e n a j) (oddA j) fun a ha=> ?_) (Ev.pure _)) (Ev.pure _)
 exact e3n hk (hx.con l hl a ha) (hx.lim l hl a ha) (hx.coefs l hl a ha)
end
theorem b3m{α:Type}{h:α->α}:∀{l:List α},(∀y,y∈l->h y=y)->l.map h=l
 | [],_=>rfl
 |x::l,H=>by rw [List.map_cons,H x (by simp),b3m fun y hy=>H y (by simp [hy])]
theorem d3f{x:M.Form}{weights:List Frac}{A W:Nat}(hx:LimX A x)(hw:Lim W weights)(h:b9b x weights=false):
 x=toFm (decX x)/\weights=(weights.map rat).map toF/\Gd weights.length A (decX x)/\(∀w,w∈weights.map rat->SmF W w)/\decX x≠ []/\(∀p,p∈decX x->p≠ [])/\(decX x).length<=1000/\∀p,p∈decX x->p.length<=4611686018427387904:=by
 unfold b9b c7l at h
 simp only [Bool.or_eq_false_iff,Bool.not_eq_false',Bool.and_eq_true,decide_eq_true_eq,Bool.not_eq_true']at h
 obtain⟨h1,h2,h3⟩:=h
 rw [List.any_eq_false]at h1 h3
 have hW:∀w,w∈weights->a7x w=true:=fun w hw=>by have:=h1 w hw;simpa [badC]using this
 have hL:∀l,l∈x.Pieces->l≠ []/\∀a,a∈l->a7x a.Const=true/\a.Coefs.length=weights.length/\∀c,c∈a.Coefs->a7x c=true:=by
  intro l hl
  have h4:=h3 l hl
  unfold badL at h4
  simp only [Bool.not_eq_true,Bool.or_eq_false_iff]at h4
  refine⟨fun e=>by rw [e]at h4;simp at h4,fun a ha=> ?_⟩
  have h5:=h4.2
  rw [List.any_eq_false]at h5
  have h6:=h5 a ha
  unfold oddA at h6
  simp only [Bool.not_eq_true,Bool.or_eq_false_iff]at h6
  obtain⟨⟨h7,h8⟩,h9⟩:=h6
  rw [List.any_eq_false]at h9
  refine⟨by simpa [badC]using h7,by simp at h8;omega,fun c hc=>by have:=h9 c hc;simpa [badC]using this⟩
 refine⟨?_,?_,?_,?_,?_,?_,?_,?_⟩
 ·obtain⟨P⟩:=x
  unfold toFm decX toP
  congr 1
  rw [List.map_map]
  refine(b3m fun l hl=> ?_).symm
  show List.map toA (List.map decA l)=l
  rw [List.map_map]
  refine b3m fun a ha=> ?_
  obtain⟨h4,h5,h6⟩:=(hL l hl).2 a ha
  show toA (decA a)=a
  unfold toA decA
  dsimp only
  rw [c8b h4,List.map_map,b3m (h:=toF∘rat) fun c hc=>c8b (h6 c hc)]
 ·rw [List.map_map]
  exact(b3m fun w hw=>c8b (hW w hw)).symm
 ·constructor
  ·intro p hp a ha
   obtain⟨l,hl,rfl⟩:=List.mem_map.1 hp
   obtain⟨b,hb,rfl⟩:=List.mem_map.1 ha
   show(b.Coefs.map rat).length=_
   rw [List.length_map];exact((hL l hl).2 b hb).2.1
  ·intro p hp a ha
   obtain⟨l,hl,rfl⟩:=List.mem_map.1 hp
   obtain⟨b,hb,rfl⟩:=List.mem_map.1 ha
   obtain⟨h4,h5,h6⟩:=(hL l hl).2 b hb
   refine⟨c9b (hx.con l hl b hb) h4,fun c hc=> ?_⟩
   obtain⟨d,hd,rfl⟩:=List.mem_map.1 hc
   exact c9b (hx.lim l hl b hb d hd) (h6 d hd)
 ·intro w hw2
  obtain⟨d,hd,rfl⟩:=List.mem_map.1 hw2
  exact c9b (hw d hd) (hW d hd)
 ·intro e
  unfold decX at e
  rw [List.map_eq_nil_iff]at e
  rw [e]at h2;simp at h2
 ·intro p hp
  obtain⟨l,hl,rfl⟩:=List.mem_map.1 hp
  rw [Ne,List.map_eq_nil_iff];exact(hL l hl).1
 ·unfold decX;rw [List.length_map];exact hx.len
 ·intro p hp
  obtain⟨l,hl,rfl⟩:=List.mem_map.1 hp
  rw [List.length_map];exact hx.lens l hl
end Go.Proofs.YthaegflpecbfgaaGreatDoor.Fm
namespace Go.Proofs.YthaegflpecbfgaaGreatDoor.Fm
open Go Rt M Ta Tp D Fe
theorem dot_snoc:∀(p:List Rat)(x:Rat)(ws:List Rat)(y:Rat),ws[p.length]?=some y->dot (p++ [x]) ws=dot p ws+x*y
 | [],x,[],y,h=>by simp at h
 | [],x,z::ws,y,h=>by
  simp only [List.length_nil,List.getElem?_cons_zero,Option.some.injEq]at h
  subst h
  show x*z+dot [] ws=0+x*z
  have:dot [] ws=0:=rfl
  rw [this,Rat.add_zero,Rat.zero_add]
 |a::p,x,[],y,h=>by simp at h
 |a::p,x,z::ws,y,h=>by
  show a*z+dot (p++ [x]) ws=a*z+dot p ws+x*y
  rw [dot_snoc p x ws y (by simpa using h),Rat.add_assoc]
def bnd(A W n:Nat):Nat:=A+n*(A+W+1)
theorem d1s{A W m n:Nat}(h:m<=n):bnd A W m<=bnd A W n:=by
 unfold bnd
 have:=Nat.mul_le_mul_right (A+W+1) h
 omega
theorem e3l(A W n:Nat):bnd A W n+(A+W)+1=bnd A W (n+1):=by
 unfold bnd
 rw [Nat.add_mul];omega
section
variable{A W:Nat}{ws:List Rat}(hw:∀w,w∈ws->SmF W w)
include hw
theorem e6y{a:RA}(ha:SmA A a)(hl:a.2.length=ws.length)(hn:ws.length<=1000)(hB:bnd A W ws.length<1000000):Ev (fun n=>a8f n (toA a) (ws.map toF)) (toF (evA ws a))/\SmF (bnd A W ws.length) (evA ws a):=by
 have L:=lpR (xs:=a.2) (h:=toF) (σ:=Frac) (ρ:=Frac) (by omega) (L:=fun n K m i s=>minmax_at_L1 n (toA a) (ws.map toF) (fun x y z u=>K ⟨⟨x,y⟩,⟨z,u⟩⟩) m i s.P.Sign s.P.Digits s.Q.Sign s.Q.Digits)
  (B:=fun n i x s k=>((ix (ws.map toF) i).bind fun ex2=>(b0w n x ex2).bind fun v2=>some (v2.1.P.Sign,v2.1.P.Digits,v2.1.Q.Sign,v2.1.Q.Digits)).bind fun(f9,f10,f11,f12)=>(a8y n s (⟨(⟨f9,f10⟩:Big),(⟨f11,f12⟩:Big)⟩:Frac)).bind fun v1=>k v1.1)
  (fun n K m i s=>by rw [minmax_at_L1_s];simp only [toA,List.length_map]) (fun p s=>s=toF (a.1+dot p ws)/\SmF (bnd A W p.length) (a.1+dot p ws)) (fun _=>False) (fun p x q s hx hi=> .inl ?_) (s0:=toF a.1) ⟨by show toF a.1=toF (a.1+0);rw [Rat.add_zero],by show SmF _ (a.1+0);rw [Rat.add_zero];exact ha.1.mono (by unfold bnd;omega)⟩
 ·rcases L with⟨s',⟨rfl,h2⟩,N,L⟩|⟨r,hr,_⟩
  ·refine⟨?_,hl▸h2⟩
   unfold a8f
   exact⟨N,fun n hn=>L n (fun s=>some s) hn⟩
  ·exact hr.elim
 ·obtain⟨rfl,h2⟩:=hi
  have hpl:p.length<ws.length:=by rw [<-hl,hx];simp
  have hy:ws[p.length]?=some ws[p.length]:=List.getElem?_eq_getElem hpl
  have hix:ix (ws.map toF) (p.length:Int)=some (toF ws[p.length]):=by rw [b2z,List.getElem?_map,hy];rfl
  have hb1:bnd A W (p.length+1)<=bnd A W ws.length:=d1s hpl
  have hbs:=e3l A W p.length
  have hx2:SmF A x:=ha.2 x (by rw [hx];simp)
  have hy2:SmF W ws[p.length]:=hw _ (List.getElem_mem hpl)
  have hA:A+W<4000000:=by omega
  obtain⟨N1,e1⟩:=FMul_ev hx2 hy2 hA
  obtain⟨N2,e2⟩:=FAdd_ev h2 (hx2.mul hy2) (by omega)
  dsimp only at e1 e2
  have hv:a.1+dot (p++ [x]) ws=a.1+dot p ws+x*ws[p.length]:=by rw [dot_snoc p x ws _ hy,Rat.add_assoc]
  refine⟨_,⟨rfl,?_⟩,max N1 N2,fun n k hn=> ?_⟩
  ·rw [hv,List.length_append,List.length_singleton,<-hbs]
   exact h2.add (hx2.mul hy2)
  ·rw [hix,Option.bind_some,e1 n (by omega)]
   show(a8y n (toF (a.1+dot p ws)) (toF (x*ws[p.length]))).bind _=_
   rw [e2 n (by omega),hv];rfl
def Gr(l:List RA)(ws:List Rat)(v:Rat):Prop:=(∃a,a∈l/\v<=evA ws a)/\∀a,a∈l->evA ws a<=v
omit hw in
theorem e6z(a:RA):Gr [a] ws (evA ws a):=⟨⟨a,by simp,Rat.le_refl⟩,fun b hb=>by obtain rfl:=List.mem_singleton.1 hb;exact Rat.le_refl⟩
omit hw in
theorem e3u{l:List RA}{v:Rat}(h:Gr l ws v)(a:RA):Gr (l++ [a]) ws (if v<evA ws a then evA ws a else v):=by
 obtain⟨⟨b,hb,h1⟩,h2⟩:=h
 split
 ·rename_i hlt
  refine⟨⟨a,by simp,Rat.le_refl⟩,fun c hc=> ?_⟩
  rcases List.mem_append.1 hc with hc|hc
  ·exact Rat.le_trans (h2 c hc) (Rat.le_of_lt hlt)
  ·obtain rfl:=List.mem_singleton.1 hc;exact Rat.le_refl
 ·rename_i hlt
  refine⟨⟨b,by simp [hb],h1⟩,fun c hc=> ?_⟩
  rcases List.mem_append.1 hc with hc|hc
  ·exact h2 c hc
  ·obtain rfl:=List.mem_singleton.1 hc;exact Rat.not_lt.1 hlt
omit hw in
theorem Gr.uniq{l:List RA}{u v:Rat}(h:Gr l ws u)(k:Gr l ws v):u=v:=by
 obtain⟨⟨a,ha,h1⟩,h2⟩:=h
 obtain⟨⟨b,hb,k1⟩,k2⟩:=k
 exact Rat.le_antisymm (Rat.le_trans h1 (k2 a ha)) (Rat.le_trans k1 (h2 b hb))
omit hw in
theorem d3e{l:List RA}{v:Rat}(h:Gr l ws v):IsV [l] ws v:=⟨fun p hp=>by obtain rfl:=List.mem_singleton.1 hp;exact h.1,l,by simp,h.2⟩
theorem e1s{l:List RA}{a0:RA}(ha:∀a,a∈l->SmA A a/\a.2.length=ws.length)(hl:l.length<=4611686018427387904)(hn:ws.length<=1000)(hB:bnd A W ws.length<1000000)(h0:SmF (bnd A W ws.length) (evA ws a0)):
 ∃v,Gr (a0::l) ws v/\SmF (bnd A W ws.length) v/\∃N,∀n(K:Frac->Option (Frac×Bool)),N<=n->minmax_At_L2 n (ws.map toF) (toP l) (fun x y z u=>K ⟨⟨x,y⟩,⟨z,u⟩⟩) n 0 (toF (evA ws a0)).P.Sign (toF (evA ws a0)).P.Digits (toF (evA ws a0)).Q.Sign (toF (evA ws a0)).Q.Digits=K (toF v):=by
 have L:=lpR (xs:=l) (h:=toA) (σ:=Frac) (ρ:=Frac×Bool) (by omega) (L:=fun n K m i s=>minmax_At_L2 n (ws.map toF) (toP l) (fun x y z u=>K ⟨⟨x,y⟩,⟨z,u⟩⟩) m i s.P.Sign s.P.Digits s.Q.Sign s.Q.Digits)
  (B:=fun n i x s k=>(a8f n x (ws.map toF)).bind fun v6=>(b2u n s v6).bind fun v7=>k v7.1)
  (fun n K m i s=>by rw [minmax_At_L2_s];simp only [toP,List.length_map]) (fun p s=>∃v,s=toF v/\Gr (a0::p) ws v/\SmF (bnd A W ws.length) v) (fun _=>False) (fun p x q s hx⟨v,hs,h1,h2⟩=> .inl ?_) (s0:=toF (evA ws a0)) ⟨_,rfl,e6z a0,h0⟩
 ·rcases L with⟨s',⟨v,rfl,h1,h2⟩,L⟩|⟨r,hr,_⟩
  ·exact⟨v,h1,h2,L⟩
  ·exact hr.elim
 ·subst hs
  obtain⟨g1,g2⟩:=ha x (by rw [hx];simp)
  obtain⟨⟨N1,e1⟩,s1⟩:=e6y hw g1 g2 hn hB
  obtain⟨N2,e2⟩:=FMax_ev h2 s1 (by omega)
  dsimp only at e1 e2
  refine⟨_,⟨_,rfl,e3u h1 x,by split;exact s1;exact h2⟩,max N1 N2,fun n k hn=> ?_⟩
  rw [e1 n (by omega),Option.bind_some,e2 n (by omega)];rfl
theorem e4f{g:RFm}(hg:Gd ws.length A g)(h0:g≠ [])(hne:∀p,p∈g->p≠ [])(hgl:g.length<=1000)(hpl:∀p,p∈g->p.length<=4611686018427387904)(hn:ws.length<=1000)(hB:bnd A W ws.length<1000000):
 ∃v,IsV g ws v/\SmF (bnd A W ws.length) v/\∃N,∀n,N<=n->minmax_At_L1 n (toFm g) (ws.map toF) (fun(f10:Int)(f11:(List Int))(f12:Int)(f13:(List Int))(_:Int)(_:(List Int))(_:Int)(_:(List Int))=>some ((⟨(⟨f10,f11⟩:Big),(⟨f12,f13⟩:Big)⟩:Frac),true)) n 0 0 [] 0 [] 0 [] 0 []=some (toF v,true):=by
 have L:=lpR (xs:=g) (h:=toP) (σ:=Frac) (ρ:=Frac×Bool) (by omega) (L:=fun n K m i s=>minmax_At_L1 n (toFm g) (ws.map toF) (fun x y z u _ _ _ _=>K ⟨⟨x,y⟩,⟨z,u⟩⟩) m i s.P.Sign s.P.Digits s.Q.Sign s.Q.Digits 0 [] 0 [])
  (B:=fun n i x s k=>(ix x 0).bind fun ex2=>(a8f n ex2 (ws.map toF)).bind fun v3=>(lsl x 1 x.length).bind fun l1=>minmax_At_L2 n (ws.map toF) l1 (fun f22 f23 f24 f25=>(bif i==0 then some true else(a3u n (⟨(⟨f22,f23⟩:Big),(⟨f24,f25⟩:Big)⟩:Frac) s).bind fun v5=>some (decide (v5<0))).bind fun v4=>bif v4 then k ⟨⟨f22,f23⟩,⟨f24,f25⟩⟩else k s) n 0 v3.P.Sign v3.P.Digits v3.Q.Sign v3.Q.Digits)
  (fun n K m i s=>by rw [minmax_At_L1_s];simp only [toFm,List.length_map]) (fun p s=>p= []∨∃v,s=toF v/\IsV p ws v/\SmF (bnd A W ws.length) v) (fun _=>False) (fun p x q s hx hi=> .inl ?_) (s0:=⟨⟨0,[]⟩,⟨0,[]⟩⟩) (.inl rfl)
 ·rcases L with⟨s',h1|⟨v,rfl,h1,h2⟩,N,L⟩|⟨r,hr,_⟩
  ·exact absurd h1 h0
  ·exact⟨v,h1,h2,N,fun n hn=>L n (fun s=>some (s,true)) hn⟩
  ·exact hr.elim
 ·have hxm:x∈g:=by rw [hx];simp
  obtain⟨a0,l,rfl⟩:∃a0 l,x=a0::l:=by
   cases x with
   |nil=>exact absurd rfl (hne _ hxm)
   |cons a l=>exact⟨a,l,rfl⟩
  have ha:∀a,a∈a0::l->SmA A a/\a.2.length=ws.length:=fun a h=>⟨gdA hg hxm h,hg.wide _ hxm a h⟩
  obtain⟨⟨N1,e1⟩,s1⟩:=e6y hw (ha a0 (by simp)).1 (ha a0 (by simp)).2 hn hB
  have hll:=hpl _ hxm
  rw [List.length_cons]at hll
  obtain⟨v,h1,h2,N2,e2⟩:=e1s hw (a0:=a0) (l:=l) (fun a h=>ha a (by simp [h])) (by omega) hn hB s1
  dsimp only at e1
  have hlsl:lsl (toP (a0::l)) 1 ((toP (a0::l)).length:Int)=some (toP l):=by
   have hl2:(toP (a0::l)).length=l.length+1:=by show(toA a0::l.map toA).length=_;simp
   have:=d0s (l:=toP (a0::l)) (p:=1) (q:=(toP (a0::l)).length) (by omega) (Nat.le_refl _)
   rw [List.take_length]at this
   exact this
  have hd:∀n(k:Frac->Option (Frac×Bool)),max N1 N2<=n->((ix (toP (a0::l)) 0).bind fun ex2=>(a8f n ex2 (ws.map toF)).bind fun v3=>(lsl (toP (a0::l)) 1 (toP (a0::l)).length).bind fun l1=>minmax_At_L2 n (ws.map toF) l1 (fun f22 f23 f24 f25=>(bif(p.length:Int)==0 then some true else(a3u n (⟨(⟨f22,f23⟩:Big),(⟨f24,f25⟩:Big)⟩:Frac) s).bind fun v5=>some (decide (v5<0))).bind fun v4=>bif v4 then k ⟨⟨f22,f23⟩,⟨f24,f25⟩⟩else k s) n 0 v3.P.Sign v3.P.Digits v3.Q.Sign v3.Q.Digits)=
   (bif(p.length:Int)==0 then some true else(a3u n (toF v) s).bind fun v5=>some (decide (v5<0))).bind fun v4=>bif v4 then k (toF v)else k s:=by
   intro n k hn
   rw [show ix (toP (a0::l)) 0=some (toA a0)from rfl,Option.bind_some,e1 n (by omega),Option.bind_some,hlsl,Option.bind_some]
   exact e2 n (fun t=>(bif(p.length:Int)==0 then some true else(a3u n t s).bind fun v5=>some (decide (v5<0))).bind fun v4=>bif v4 then k t else k s) (by omega)
  rcases hi with rfl|⟨u,rfl,k1,k2⟩
  ·exact⟨toF v,.inr ⟨v,rfl,d3e h1,h2⟩,max N1 N2,fun n k hn=>by rw [hd n k hn];rfl⟩
  ·obtain⟨N3,e3⟩:=FCompare_ev h2 k2 (by omega)
   dsimp only at e3
   have hp0:((p.length:Int)==0)=false:=by
    rw [beq_eq_false_iff_ne]
    intro e
    have:p= []:=List.length_eq_zero_iff.1 (by omega)
    subst this
    obtain⟨_,q',hq',_⟩:=k1
    cases hq'
   have hmin:=d3n k1 (d3e h1)
   have hcmp:decide (cmpQ v u<0)=decide (v<u):=by
    rcases a9q v u with⟨c1,c2⟩|⟨c1,c2⟩|⟨c1,c2⟩
    ·rw [c2,decide_eq_true c1];rfl
    ·rw [c2,c1,decide_eq_false Rat.lt_irrefl];rfl
    ·rw [c2,decide_eq_false (Rat.not_lt.2 (Rat.le_of_lt c1))];rfl
   refine⟨toF (if v<u then v else u),.inr ⟨_,rfl,hmin,by split;exact h2;exact k2⟩,max (max N1 N2) N3,fun n k hn=> ?_⟩
   rw [hd n k (by omega),hp0,cond_false,e3 n (by omega),Option.bind_some,Option.bind_some,hcmp]
   by_cases hlt:v<u
   ·rw [decide_eq_true hlt,cond_true,if_pos hlt]
   ·rw [decide_eq_false hlt,cond_false,if_neg hlt]
end
def AtS(x:M.Form)(weights:List Frac)(B:Nat)(r:Frac×Bool):Prop:=
 (b9b x weights=false/\∃v,r=(toF v,true)/\SmF B v/\IsV (decX x) (weights.map rat) v)∨(b9b x weights=true/\r=(zeroF,false))
theorem AtS.uniq{x:M.Form}{weights:List Frac}{B C:Nat}{r s:Frac×Bool}(h:AtS x weights B r)(k:AtS x weights C s):r=s:=by
 rcases h with⟨h1,u,rfl,_,h2⟩|⟨h1,rfl⟩<;>rcases k with⟨k1,v,rfl,_,k2⟩|⟨k1,rfl⟩
 ·rw [h2.uniq k2]
 ·rw [h1]at k1;cases k1
 ·rw [h1]at k1;cases k1
 ·rfl
theorem At_t{x:M.Form}{weights:List Frac}{A W:Nat}(hx:LimX A x)(hw:Lim W weights)(hn:weights.length<=1000)(hA:A<1000000)(hW:W<1000000)(hB:bnd A W weights.length<1000000):Tt (AtS x weights (bnd A W weights.length)) (fun n=>a6p n x weights):=by
 unfold a6p
 refine Tt.evb (b3s (by omega) a7s badC (fun y hy=>d8s (k:=W) (by omega) (hw y hy))) ?_
 refine Tt.evb (a:=b9b x weights) (orE fun _=>Ev.bind (d7g (k:=A) (by omega) hx) (Ev.pure _)) ?_
 cases hwr:b9b x weights with
 |true=>exact Tt.bif (fun _=>Tt.pure (.inr ⟨hwr,rfl⟩)) (fun h=>by cases h)
 |false=>
  refine Tt.bif (fun h=>by cases h) (fun _=> ?_)
  obtain⟨e1,e2,g1,g2,g3,g4,g5,g6⟩:=d3f hx hw hwr
  have hlen:(weights.map rat).length=weights.length:=List.length_map ..
  obtain⟨v,h1,h2,N,h3⟩:=e4f (A:=A) g2 (by rw [hlen];exact g1) g3 g4 g5 g6 (by omega) (by rw [hlen];exact hB)
  rw [<-e1,<-e2]at h3
  rw [hlen]at h2
  exact Tt.of ⟨N,h3⟩ (.inl ⟨hwr,v,rfl,h2,h1⟩)
end Go.Proofs.YthaegflpecbfgaaGreatDoor.Fm
namespace Go.Proofs.YthaegflpecbfgaaGreatDoor.Ta
open Go Rt M
theorem orT(c d:Bool):(bif c then some true else some d)=some (c||d):=by cases c<;>rfl
theorem andT(c d:Bool):(bif c then some d else some false)=some (c&&d):=by cases c<;>rfl
theorem d3d(n:Nat){o:Int}(h1:0<=o)(h2:o<=16):b0m n o=some (b5y o):=by
 unfold b0m b5y
 rw [decide_eq_false (show¬o<0 by omega),cond_false,Option.bind_some,decide_eq_false (show¬17<=o by omega),cond_false]
 by_cases h3:o<=4
 ·rw [decide_eq_true h3,if_pos h3];rfl
 ·rw [decide_eq_false h3,if_neg h3,cond_false]
  by_cases h4:o=14
  ·subst h4;rfl
  ·rw [show(o==14)=false by simpa using h4,if_neg h4,cond_false]
   by_cases h5:o=11
   ·subst h5;rfl
   ·rw [show(o==11)=false by simpa using h5,if_neg h5];rfl
theorem d7a(n:Nat){o:Int}(h:¬(0<=o/\o<=16)):b0m n o=some (-1):=by
 unfold b0m
 rw [orT,Option.bind_some,show(decide (o<0)||decide (17<=o))=true by by_cases h1:o<0<;>simp [h1];omega];rfl
theorem d1d(x:M.Expr)(hl:x.Args.length<=1000000):∀(us:List M.Expr)(i:Nat),x.Args.drop i=us->(∀y,y∈us->∃b,Ev (fun n=>tariff_shaped n y) b/\Ev (fun n=>ref35_shaped n y) b)->
 ∃N r,∀n m,N<=n->us.length<m->slices_IndexFunc_api_Expr_api_Expr_L1 n x.Args (tariff_shaped_1 n) (some (-1)) m (i:Int)=some r/\ref35_shaped_L1 n (ref35_shaped n) x (some true) m (i:Int)=some (!decide (0<=r))
 | [],i,hd,_=>by
  refine⟨0,-1,fun n m _ hm=> ?_⟩
  obtain⟨m,rfl⟩:=left hm
  rw [slices_IndexFunc_api_Expr_api_Expr_L1_s,a5w hd,ref35_shaped_L1_s,a5w hd]
  exact⟨rfl,rfl⟩
 |y::us,i,hd,H=>by
  obtain⟨h1,h2,h3⟩:=drop_cons hd
  obtain⟨b,⟨N1,e1⟩,⟨N2,e2⟩⟩:=H y (by simp)
  obtain⟨N,r,ih⟩:=d1d x hl us (i+1) h2 (fun z hz=>H z (by simp [hz]))
  refine⟨max N (max (N1+1) N2),if b=true then r else(i:Int),fun n m hn hm=> ?_⟩
  obtain⟨m,rfl,hm2⟩:=pred (by simpa using hm)
  obtain⟨n',rfl⟩:∃k,n=k+1:=⟨n-1,by omega⟩
  have e1:tariff_shaped n' y=some b:=e1 n' (by omega)
  have e2:ref35_shaped (n'+1) y=some b:=e2 (n'+1) (by omega)
  have ih:=ih (n'+1) m (by omega) hm2
  rw [slices_IndexFunc_api_Expr_api_Expr_L1_s,a2g hd,cond_true,h1,Option.bind_some,a7e,e1,Option.bind_some,Option.bind_some,ref35_shaped_L1_s,a2g hd,cond_true,h1,Option.bind_some,e2,Option.bind_some]
  cases b with
  |true=>rw [Bool.not_true,cond_false,cond_false,if_pos rfl,inc64 (by omega)];exact ih
  |false=>
   rw [if_neg (by decide),decide_eq_true (show(0:Int)<=(i:Int) by omega)]
   exact⟨rfl,rfl⟩
theorem d9j{x:M.Expr}(hx:Fit x):∃b,Ev (fun n=>tariff_shaped n x) b/\Ev (fun n=>ref35_shaped n x) b:=by
 induction hx with
 | @mk o k s l hl _ ih=>
  by_cases hr:0<=o/\o<=16
  rotate_left
  ·refine⟨false,Ev.suc (fun n=>tariff_shaped_s _ n) ?_,Ev.suc (fun n=>ref35_shaped_s _ n) ?_⟩
   ·refine Ev.bind (a:=true) (Ev.all fun n=> ?_) (Ev.bind (a:=true) (Ev.then rfl (Ev.pure _)) (Ev.then rfl (Ev.pure _)))
    rw [orT];dsimp only
    congr 1
    by_cases h1:o<0<;>simp [h1]
    omega
   ·refine Ev.bind (Ev.all fun n=>d7a n hr) ?_
    exact Ev.bind (a:=true) (Ev.then (by dsimp only;rw [bne_iff_ne];omega) (Ev.pure _)) (Ev.then rfl (Ev.pure _))
  have d1:decide (o<0)=false:=decide_eq_false (by omega)
  have d2:decide (17<=o)=false:=decide_eq_false (by omega)
  by_cases ha:(l.length:Int)=b5y o
  rotate_left
  ·have d3:((l.length:Int) !=b5y o)=true:=by simpa using ha
   refine⟨false,Ev.suc (fun n=>tariff_shaped_s _ n) ?_,Ev.suc (fun n=>ref35_shaped_s _ n) ?_⟩
   ·exact Ev.bind (a:=false) (Ev.else d1 ((Ev.pure _).eq d2)) (Ev.bind (a:=true) (Ev.else rfl (Ev.bind (Ev.all fun n=>d0i n _) ((Ev.pure _).eq d3))) (Ev.then rfl (Ev.pure _)))
   ·exact Ev.bind (Ev.all fun n=>d3d n hr.1 hr.2) (Ev.bind (a:=true) (Ev.then d3 (Ev.pure _)) (Ev.then rfl (Ev.pure _)))
  have d3:((l.length:Int) !=b5y o)=false:=by simpa using ha
  have code:∀{b:Bool}{f:Nat->Option Bool},Ev f b->Ev (fun n=>(bif decide (o<0)then some true else some (decide (17<=o))).bind fun v1=>(bif v1 then some true else(a8o n o).bind fun v11=>some ((l.length:Int) !=v11)).bind fun v2=>bif v2 then some false else f n) b:=fun h=>
   Ev.bind (a:=false) (Ev.else d1 ((Ev.pure _).eq d2)) (Ev.bind (a:=false) (Ev.else rfl (Ev.bind (Ev.all fun n=>d0i n _) ((Ev.pure _).eq d3))) (Ev.else rfl h))
  obtain⟨N,r,hL⟩:=d1d ⟨o,k,s,l⟩ hl l 0 rfl ih
  have loopR:Ev (fun n=>ref35_shaped_L1 n (ref35_shaped n) ⟨o,k,s,l⟩ (some true) n 0) (!decide (0<=r)):=⟨N+l.length+1,fun n hn=>(hL n n (by omega) (by omega)).2⟩
  have loopC:Ev (fun n=>a0o n l (tariff_shaped_1 n)) (decide (0<=r)):=by
   unfold a0o a1k
   exact Ev.bind (a:=r) ⟨N+l.length+1,fun n hn=>(hL n n (by omega) (by omega)).1⟩ (Ev.pure _)
  have loop0:b5y o=0->(!decide (0<=r))=true:=by
   intro h0
   have hz:l= []:=List.length_eq_zero_iff.1 (by omega)
   subst hz
   have h1:=(hL (N+1) 1 (by omega) (by simp)).1
   rw [slices_IndexFunc_api_Expr_api_Expr_L1_s]at h1
   have h2:(some (-1):Option Int)=some r:=h1
   cases h2;rfl
  have ref:∀{vn:Bool},Lx.name s=vn->Ev (fun n=>ref35_shaped n ⟨o,k,s,l⟩) (!((o !=0&&k !=0)||((((o==1||o==4)&& !vn)||(!(o==1||o==4)&& !(s== [])))||(o==0&&(decide (k<0)||decide (1099511627776<k)))))&& !decide (0<=r)):=by
   intro vn hvn
   refine Ev.suc (fun n=>ref35_shaped_s _ n) ?_
   refine Ev.bind (Ev.all fun n=>d3d n hr.1 hr.2) ?_
   refine Ev.bind (a:=(o !=0&&k !=0)) (Ev.else d3 (Ev.all fun n=>by rw [andT];rfl)) ?_
   cases(o !=0&&k !=0)with
   |true=>exact Ev.then rfl ((Ev.pure _).eq rfl)
   |false=>
    refine Ev.else rfl ?_
    refine Ev.bind (a:=(o==1||o==4)) (Ev.all fun n=>orT _ _) ?_
    refine Ev.bind (a:=((o==1||o==4)&& !vn)) ?_ ?_
    ·cases(o==1||o==4)with
     |true=>exact Ev.then rfl (Ev.bind ((c4m s).eq hvn) (Ev.pure _))
     |false=>exact Ev.else rfl (Ev.pure _)
    refine Ev.bind (a:=(((o==1||o==4)&& !vn)||(!(o==1||o==4)&& !(s== [])))) ?_ ?_
    ·cases((o==1||o==4)&& !vn)with
     |true=>exact Ev.then rfl (Ev.pure _)
     |false=>exact Ev.else rfl (Ev.all fun n=>by rw [andT];rfl)
    refine Ev.bind (a:=((((o==1||o==4)&& !vn)||(!(o==1||o==4)&& !(s== [])))||(o==0&&(decide (k<0)||decide (1099511627776<k))))) ?_ ?_
    ·cases(((o==1||o==4)&& !vn)||(!(o==1||o==4)&& !(s== [])))with
     |true=>exact Ev.then rfl (Ev.pure _)
     |false=>
      refine Ev.else rfl (Ev.bind (a:=(o==0&&(decide (k<0)||decide (1099511627776<k)))) ?_ ((Ev.pure _).eq (by simp)))
      cases o==0 with
      |true=>exact Ev.then rfl (Ev.all fun n=>by rw [orT];rfl)
      |false=>exact Ev.else rfl (Ev.pure _)
    cases((((o==1||o==4)&& !vn)||(!(o==1||o==4)&& !(s== [])))||(o==0&&(decide (k<0)||decide (1099511627776<k))))with
    |true=>exact Ev.then rfl (Ev.pure _)
    |false=>exact Ev.else rfl (loopR.eq (by simp))
  by_cases o0:o=0
  ·refine⟨(decide (0<=k)&&decide (k<=1099511627776))&&s== [],Ev.suc (fun n=>tariff_shaped_s _ n) (code (Ev.then (by simpa using o0) ?_)),(ref rfl).eq ?_⟩
   ·refine Ev.bind (a:=(decide (0<=k)&&decide (k<=1099511627776))) (Ev.all fun n=>andT _ _) ?_
    exact Ev.bind (a:=((decide (0<=k)&&decide (k<=1099511627776))&&s== [])) (Ev.all fun n=>andT _ _) (Ev.pure _)
   ·rw [loop0 (by rw [o0];rfl)]
    subst o0
    by_cases k1:k<0
    ·rw [decide_eq_true k1,decide_eq_false (show¬0<=k by omega)];simp
    ·by_cases k2:1099511627776<k
     ·rw [decide_eq_true k2,decide_eq_false (show¬k<=1099511627776 by omega)];simp
     ·rw [decide_eq_false k1,decide_eq_false k2,decide_eq_true (show 0<=k by omega),decide_eq_true (show k<=1099511627776 by omega)];simp
  have f0:(o==0)=false:=by simpa using o0
  have g0:(o !=0)=true:=by simpa using o0
  by_cases o1:(o==1||o==4)=true
  ·refine⟨k==0&&Lx.name s,Ev.suc (fun n=>tariff_shaped_s _ n) (code (Ev.else f0 (Ev.bind (a:=true) ((Ev.all fun n=>orT _ _).eq o1) (Ev.then rfl (Ev.bind (a:=(k==0&&Lx.name s)) ?_ (Ev.pure _)))))),(ref rfl).eq ?_⟩
   ·cases hk:k==0 with
    |true=>exact Ev.then rfl (Ev.bind (b8p s) ((Ev.pure _).eq (by simp)))
    |false=>exact Ev.else rfl (Ev.pure _)
   ·have h4:o=1∨o=4:=by simpa using o1
    rw [loop0 (by rcases h4 with h|h<;>rw [h]<;>rfl),o1,f0,g0]
    cases hk:k==0<;>cases Lx.name s<;>simp [bne,hk]
  ·have o1':(o==1||o==4)=false:=by simpa using o1
   refine⟨(k==0&&s== [])&& !decide (0<=r),Ev.suc (fun n=>tariff_shaped_s _ n) (code (Ev.else f0 (Ev.bind (a:=false) ((Ev.all fun n=>orT _ _).eq o1') (Ev.else rfl ?_)))),(ref rfl).eq ?_⟩
   ·refine Ev.bind (a:=(k==0&&s== [])) (Ev.all fun n=>andT _ _) ?_
    refine Ev.bind (a:=((k==0&&s== [])&& !decide (0<=r))) ?_ (Ev.pure _)
    cases(k==0&&s== [])with
    |true=>exact Ev.then rfl (Ev.bind loopC ((Ev.pure _).eq (by simp)))
    |false=>exact Ev.else rfl (Ev.pure _)
   ·rw [o1',f0,g0]
    cases hk:k==0<;>cases s== []<;>simp [bne,hk]
theorem e6j{x:M.Expr}(hx:Fit x):∃b,Ev (fun n=>a6o n x) b/\Ev (fun n=>b8s n x) b/\(b=true->Shp x):=by
 obtain⟨b1,z,e1,e2⟩:=e7x hx
 obtain⟨b2,e3,e4⟩:=d9j hx
 obtain⟨b3,e5,hS⟩:=e0b hx
 have hb:b3=b2:=e5.uniq e3
 refine⟨b1&&b2,?_,?_,fun h=>hS (by rw [hb];simp at h;exact h.2)⟩
 ·unfold a6o
  refine Ev.bind e1 (Ev.bind (a:=b1&&b2) ?_ (Ev.pure _))
  cases b1 with
  |true=>exact Ev.then rfl (Ev.bind e3 ((Ev.pure _).eq (by simp)))
  |false=>exact Ev.else rfl (Ev.pure _)
 ·unfold b8s
  refine Ev.bind e2 (Ev.bind (a:=b1&&b2) ?_ (Ev.pure _))
  cases b1 with
  |true=>exact Ev.then rfl (Ev.bind e4 ((Ev.pure _).eq (by simp)))
  |false=>exact Ev.else rfl (Ev.pure _)
theorem d3g{t:Tariff}(hx:Fit t.Fee):∃b,Ev (fun n=>a4h n t) b/\Ev (fun n=>b2o n t) b/\(b=true->Shp t.Fee):=by
 obtain⟨b,e1,e2,hS⟩:=e6j hx
 refine⟨((Lx.name t.Name&&b)&&decide (-1<=t.Cap))&&decide (t.Cap<=1099511627776),?_,?_,fun h=>hS (by simp at h;exact h.1.1.2)⟩
 ·unfold a4h
  refine Ev.bind (b8p _) (Ev.bind (a:=(Lx.name t.Name&&b)) ?_ (Ev.bind (Ev.all fun n=>andT _ _) (Ev.bind (Ev.all fun n=>andT _ _) (Ev.pure _))))
  cases Lx.name t.Name with
  |true=>exact Ev.then rfl (Ev.bind e1 ((Ev.pure _).eq (by simp)))
  |false=>exact Ev.else rfl (Ev.pure _)
 ·unfold b2o
  refine Ev.bind (c4m _) (Ev.bind (a:=(Lx.name t.Name&&b)) ?_ (Ev.bind (Ev.all fun n=>andT _ _) (Ev.bind (Ev.all fun n=>andT _ _) (Ev.pure _))))
  cases Lx.name t.Name with
  |true=>exact Ev.then rfl (Ev.bind e2 ((Ev.pure _).eq (by simp)))
  |false=>exact Ev.else rfl (Ev.pure _)
end Go.Proofs.YthaegflpecbfgaaGreatDoor.Ta
namespace Go.Proofs.YthaegflpecbfgaaGreatDoor.Ta
open Go Rt M
def b9l(a b:Int):Int:=bif a==2||b==2 then 2 else 1
theorem d7t(n:Nat)(a b:Int):a8r n a b=some (b9l a b):=by
 unfold a8r b9l
 rw [orT,Option.bind_some]
 cases a==2||b==2<;>rfl
theorem e5n(n:Nat)(a b:Int):a1i n a b=some (bif a==0||b==0 then(0,13)else(b9l a b,0)):=by
 unfold a1i b9l
 rw [orT,Option.bind_some,orT,Option.bind_some]
 cases a==0||b==0<;>cases a==2||b==2<;>rfl
theorem c8j(a b:Int):0<=b9l a b/\b9l a b<=2:=by
 unfold b9l
 cases a==2||b==2<;>decide
theorem d0t(n:Nat)(p q:Int):a3l n 12 [p,q]=some (0,p==1&&q==1)/\a3l n 13 [p,q]=some (0,p==1&&q==1):=by
 constructor<;>(show((bif p==1 then some (q==1)else some false).bind fun v4=>some ((0:Int),v4))=_;rw [andT];rfl)
theorem d7q(n:Nat)(p q:Int):a3l n 15 [p,q]=some (0,p==0&&q==0)/\a3l n 16 [p,q]=some (0,p==0&&q==0):=by
 constructor<;>(show((bif p==0 then some (q==0)else some false).bind fun v4=>some ((0:Int),v4))=_;rw [andT];rfl)
theorem e3x(n:Nat)(p:Int):a3l n 14 [p]=some (0,p==0):=rfl
theorem e7n(n:Nat)(p q r:Int):a3l n 11 [p,q,r]=some (b9l q r,(p==0&&q !=0)&&r !=0):=by
 show((a8r n q r).bind fun v5=>(bif p==0 then some (q !=0)else some false).bind fun v6=>(bif v6 then some (r !=0)else some false).bind fun v7=>some (v5,v7))=_
 rw [d7t,Option.bind_some,andT,Option.bind_some,andT];rfl
theorem e3z(n:Nat)(p q:Int):a3l n 7 [p,q]=some (b9l p q,(p !=0&&q !=0)&&(p==1||q==1)):=by
 show((bif p !=0 then some (q !=0)else some false).bind fun v8=>((bif v8 then(bif p==1 then some true else some (q==1)).bind fun v11=>some v11 else some false).bind fun v10=>some v10).bind fun numbers1=>(a8r n p q).bind fun v9=>some (v9,numbers1))=_
 rw [andT,Option.bind_some,orT,d7t]
 cases p !=0&&q !=0<;>rfl
theorem e2g(n:Nat)(p q:Int){o:Int}(ho:o=5∨o=6∨o=8∨o=9∨o=10):a3l n o [p,q]=some (b9l p q,p !=0&&q !=0):=by
 have h:(bif p !=0 then some (q !=0)else some false).bind (fun v8=>(some v8).bind fun numbers1=>(a8r n p q).bind fun v9=>some (v9,numbers1))=some (b9l p q,p !=0&&q !=0):=by
  rw [andT,Option.bind_some,Option.bind_some,d7t];rfl
 rcases ho with rfl|rfl|rfl|rfl|rfl<;>exact h
theorem all2(k p q w:Int):Ev (fun n=>a2z n k [p,q] w) (bif p==w&&q==w then(k,0)else(0,13)):=by
 refine⟨3,fun n hn=> ?_⟩
 obtain⟨n,rfl⟩:∃j,n=j+3:=⟨n-3,by omega⟩
 show((bif p !=w then some (0:Int)else bif q !=w then some 1 else some (-1)).bind fun v1=>some (decide (0<=v1))).bind (fun v1=>bif v1 then some ((0:Int),(13:Int))else some (k,0))=_
 cases hp:p==w<;>cases hq:q==w<;>simp [bne,hp,hq]
theorem all1(k p w:Int):Ev (fun n=>a2z n k [p] w) (bif p==w then(k,0)else(0,13)):=by
 refine⟨3,fun n hn=> ?_⟩
 obtain⟨n,rfl⟩:∃j,n=j+3:=⟨n-3,by omega⟩
 show((bif p !=w then some (0:Int)else some (-1)).bind fun v1=>some (decide (0<=v1))).bind (fun v1=>bif v1 then some ((0:Int),(13:Int))else some (k,0))=_
 cases hp:p==w<;>simp [bne,hp]
theorem d0y(n:Nat)(l:List Rt.Bs)(s:Rt.Bs)(hl:l.length<4611686018427387904):∀(us:List Rt.Bs)(i m:Nat),l.drop i=us->us.length<m->
 ref35_Number_L1 n l s (some (-1)) m (i:Int)=some (if s∈us then((i+us.idxOf s:Nat):Int)else-1)
 | [],i,m+1,hd,_=>by rw [ref35_Number_L1_s,a5w hd];rfl
 |x::us,i,m+1,hd,hm=>by
  obtain⟨h1,h2,h3⟩:=drop_cons hd
  have ih:=d0y n l s hl us (i+1) m h2 (by simp only [List.length_cons]at hm;omega)
  rw [ref35_Number_L1_s,a2g hd,cond_true,h1,Option.bind_some]
  by_cases h:x=s
  ·subst h
   rw [beq_self_eq_true,cond_true,if_pos (by simp)];simp
  ·have e:(x==s)=false:=by simpa using h
   rw [e,cond_false,inc64 (by omega),ih]
   by_cases h5:s∈us
   ·rw [if_pos h5,if_pos (List.mem_cons_of_mem _ h5),List.idxOf_cons,e]
    simp only [cond_false];congr 1;omega
   ·rw [if_neg h5,if_neg (by simp only [List.mem_cons,not_or];exact⟨fun h6=>h h6.symm,h5⟩)]
theorem c7o{l:List Rt.Bs}(s:Rt.Bs)(hl:l.length<4611686018427387904):Ev (fun n=>(b0y n l s).bind fun v6=>some (decide (v6<0))) (!decide (s∈l)):=by
 refine⟨l.length+1,fun n hn=> ?_⟩
 unfold b0y
 dsimp only
 have h:ref35_Number_L1 n l s (some (-1)) n 0=_:=d0y n l s hl l 0 n rfl (by omega)
 rw [h,Option.bind_some]
 by_cases h5:s∈l
 ·rw [if_pos h5,decide_eq_true h5,decide_eq_false (by omega)];rfl
 ·rw [if_neg h5,decide_eq_false h5];rfl
def Ty(r:Int×Int):Prop:=r.2=0->0<=r.1/\r.1<=2
theorem d7r(x:M.Expr)(names:List Rt.Bs)(hx:x.Args.length<=1000000):∀(us:List M.Expr)(i:Nat)(acc:List Int),x.Args.drop i=us->acc.length=i->i<=x.Args.length->(∀t,t∈acc->0<=t/\t<=2)->
 (∀y,y∈us->∃r,Ev (fun n=>tariff_typed n y names) r/\Ev (fun n=>ref35_typed n y names) r/\Ty r)->
 (∃(N:Nat)(e:Int),e≠0/\∀n m kont kont',N<=n->us.length<m->tariff_typed_L1 n (tariff_typed n) x names kont m (i:Int) acc=some (0,e)/\ref35_typed_L1 n (ref35_typed n) x names kont' m (i:Int) acc=some (0,e))∨
 ∃(N:Nat)(l2:List Int),l2.length=x.Args.length/\(∀t,t∈l2->0<=t/\t<=2)/\∀n m kont kont',N<=n->us.length<m->tariff_typed_L1 n (tariff_typed n) x names kont m (i:Int) acc=kont l2/\ref35_typed_L1 n (ref35_typed n) x names kont' m (i:Int) acc=kont' l2
 | [],i,acc,hd,ha,hi,ht,_=>by
  refine .inr ⟨0,acc,by have:=Rt.drop_nil hd;omega,ht,fun n m kont kont' _ hm=> ?_⟩
  obtain⟨m,rfl⟩:=left hm
  rw [tariff_typed_L1_s,a5w hd,ref35_typed_L1_s,a5w hd];exact⟨rfl,rfl⟩
 |y::us,i,acc,hd,ha,hi,ht,H=>by
  obtain⟨h1,h2,h3⟩:=drop_cons hd
  obtain⟨⟨k,e⟩,⟨N1,e1⟩,⟨N2,e2⟩,hty⟩:=H y (by simp)
  by_cases he:e=0
  ·subst he
   have hk:=hty rfl
   have step:∀n m kont kont',max N1 N2<=n->tariff_typed_L1 n (tariff_typed n) x names kont (m+1) (i:Int) acc=tariff_typed_L1 n (tariff_typed n) x names kont m ((i+1:Nat):Int) (acc++ [k])/\ref35_typed_L1 n (ref35_typed n) x names kont' (m+1) (i:Int) acc=ref35_typed_L1 n (ref35_typed n) x names kont' m ((i+1:Nat):Int) (acc++ [k]):=by
    intro n m kont kont' hn
    have e1:tariff_typed n y names=some (k,0):=e1 n (by omega)
    have e2:ref35_typed n y names=some (k,0):=e2 n (by omega)
    constructor
    ·rw [tariff_typed_L1_s,a2g hd,cond_true,h1,Option.bind_some,e1,Option.bind_some]
     show((app 8 acc [k]).bind fun l3=>_)=_
     rw [b0e (by simp only [List.length_cons,List.length_nil];omega),Option.bind_some,inc64 (by omega)]
    ·rw [ref35_typed_L1_s,a2g hd,cond_true,h1,Option.bind_some,e2,Option.bind_some]
     show((app 8 acc [k]).bind fun l3=>_)=_
     rw [b0e (by simp only [List.length_cons,List.length_nil];omega),Option.bind_some,inc64 (by omega)]
   have ht2:∀t,t∈acc++ [k]->0<=t/\t<=2:=by
    intro t h
    rcases List.mem_append.1 h with h|h
    ·exact ht t h
    ·rw [List.mem_singleton]at h;subst h;exact hk
   rcases d7r x names hx us (i+1) (acc++ [k]) h2 (by simp [ha]) (by omega) ht2 (fun z hz=>H z (by simp [hz]))with⟨N,e,he,ih⟩|⟨N,l2,hl2,ht3,ih⟩
   ·refine .inl ⟨max N (max N1 N2),e,he,fun n m kont kont' hn hm=> ?_⟩
    obtain⟨m,rfl,hm2⟩:=pred (by simpa using hm)
    have h5:=step n m kont kont' (by omega)
    rw [h5.1,h5.2]
    exact ih n m kont kont' (by omega) hm2
   ·refine .inr ⟨max N (max N1 N2),l2,hl2,ht3,fun n m kont kont' hn hm=> ?_⟩
    obtain⟨m,rfl,hm2⟩:=pred (by simpa using hm)
    have h5:=step n m kont kont' (by omega)
    rw [h5.1,h5.2]
    exact ih n m kont kont' (by omega) hm2
  ·refine .inl ⟨max N1 N2,e,he,fun n m kont kont' hn hm=> ?_⟩
   obtain⟨m,rfl⟩:=left hm
   have e1:tariff_typed n y names=some (k,e):=e1 n (by omega)
   have e2:ref35_typed n y names=some (k,e):=e2 n (by omega)
   have hb:(e !=0)=true:=by simpa using he
   constructor
   ·rw [tariff_typed_L1_s,a2g hd,cond_true,h1,Option.bind_some,e1,Option.bind_some]
    dsimp only
    rw [hb];rfl
   ·rw [ref35_typed_L1_s,a2g hd,cond_true,h1,Option.bind_some,e2,Option.bind_some]
    dsimp only
    rw [hb];rfl
end Go.Proofs.YthaegflpecbfgaaGreatDoor.Ta
namespace Go.Proofs.YthaegflpecbfgaaGreatDoor.Ta
open Go Rt M
def d4f(names:List Rt.Bs)(x:M.Expr)(n:Nat)(l2:List Int):Option (Int×Int):=
 (bif x.Op==1 then
  some true
 else
  some (x.Op==4)).bind fun v1=>
 bif v1 then
  (a1b n names x.Name).bind fun v2=>
  bif !v2 then
   some (0,11)
  else
   bif x.Op==4 then
    some (2,0)
   else
    some (1,0)
 else
  (bif x.Op==0 then
   some true
  else
   bif x.Op==2 then
    some true
   else
    some (x.Op==3)).bind fun v3=>
  bif v3 then
   some (1,0)
  else
   (bif x.Op==12 then
    some true
   else
    some (x.Op==13)).bind fun v4=>
   bif v4 then
    (a2z n 0 l2 1).bind fun v5=>
    some (v5.1,v5.2)
   else
    (bif x.Op==14 then
     some true
    else
     bif x.Op==15 then
      some true
     else
      some (x.Op==16)).bind fun v6=>
    bif v6 then
     (a2z n 0 l2 0).bind fun v7=>
     some (v7.1,v7.2)
    else
     bif x.Op==11 then
      (ix l2 0).bind fun ex=>
      bif ex !=0 then
       some (0,13)
      else
       (ix l2 1).bind fun w2=>
       (ix l2 2).bind fun w3=>
       (a1i n w2 w3).bind fun v8=>
       some (v8.1,v8.2)
     else
      bif x.Op==7 then
       (ix l2 0).bind fun w4=>
       (bif w4==2 then
        (ix l2 1).bind fun w7=>
        some (w7==2)
       else
        some false).bind fun v9=>
       bif v9 then
        some (0,13)
       else
        (ix l2 0).bind fun w5=>
        (ix l2 1).bind fun w6=>
        (a1i n w5 w6).bind fun v10=>
        some (v10.1,v10.2)
      else
       bif x.Op==8 then
        (ix x.Args 1).bind fun w8=>
        bif w8.Op !=0 then
         some (0,13)
        else
         bif w8.N==0 then
          some (0,14)
         else
          (ix l2 0).bind fun w9=>
          (ix l2 1).bind fun w0=>
          (a1i n w9 w0).bind fun v11=>
          some (v11.1,v11.2)
       else
        (ix l2 0).bind fun w1=>
        (ix l2 1).bind fun w2=>
        (a1i n w1 w2).bind fun v12=>
        some (v12.1,v12.2)
def refK(names:List Rt.Bs)(x:M.Expr)(n:Nat)(l2:List Int):Option (Int×Int):=
 (bif x.Op==1 then
  some true
 else
  some (x.Op==4)).bind fun v1=>
 (bif v1 then
  (b0y n names x.Name).bind fun v6=>
  some (decide (v6<0))
 else
  some false).bind fun v2=>
 bif v2 then
  some (0,11)
 else
  bif x.Op==4 then
   some (2,0)
  else
   bif(l2.length:Int)==0 then
    some (1,0)
   else
    bif x.Op==8 then
     (ix x.Args 1).bind fun ex=>
     (bif ex.Op==0 then
      (ix x.Args 1).bind fun ex3=>
      some (ex3.N==0)
     else
      some false).bind fun v3=>
     bif v3 then
      some (0,14)
     else
      (ix x.Args 1).bind fun ex2=>
      bif ex2.Op !=0 then
       some (0,13)
      else
       (a3l n x.Op l2).bind fun v4=>
       bif !v4.2 then
        some (0,13)
       else
        some (v4.1,0)
    else
     (a3l n x.Op l2).bind fun v5=>
     bif !v5.2 then
      some (0,13)
     else
      some (v5.1,0)
theorem c2d(n:Nat)(x:M.Expr)(names:List Rt.Bs):tariff_typed (n+1) x names=tariff_typed_L1 n (tariff_typed n) x names (d4f names x n) n 0 []:=rfl
theorem c9z(n:Nat)(x:M.Expr)(names:List Rt.Bs):ref35_typed (n+1) x names=ref35_typed_L1 n (ref35_typed n) x names (refK names x n) n 0 []:=rfl
def c3b(p q:Int):Int×Int:=bif p==0||q==0 then(0,13)else(b9l p q,0)
theorem b2k(p q:Int):Ty (c3b p q):=by
 unfold c3b
 cases p==0||q==0
 ·exact fun _=>c8j p q
 ·exact fun h=>by cases h
theorem b0k(p q:Int):Ev (fun n=>(a1i n p q).bind fun v=>some (v.1,v.2)) (c3b p q):=Ev.all fun n=>by rw [e5n];rfl
theorem ty0(b:Bool):Ty (bif b then((0:Int),(0:Int))else(0,13)):=by
 cases b
 ·exact fun h=>by cases h
 ·exact fun _=>⟨by decide,by decide⟩
theorem c1u{o p q:Int}(ho:o=5∨o=6∨o=8∨o=9∨o=10):Ev (fun n=>(a3l n o [p,q]).bind fun v5=>bif !v5.2 then some ((0:Int),(13:Int))else some (v5.1,0)) (c3b p q):=Ev.all fun n=>by
 rw [e2g n p q ho]
 unfold c3b
 cases hp:p==0<;>cases hq:q==0<;>simp [bne,hp,hq]
theorem d9i(p q w:Int):Ev (fun n=>(a2z n 0 [p,q] w).bind fun v5=>some (v5.1,v5.2)) (bif p==w&&q==w then(0,0)else(0,13)):=Ev.bind (all2 0 p q w) (Ev.pure _)
theorem e8f(p w:Int):Ev (fun n=>(a2z n 0 [p] w).bind fun v5=>some (v5.1,v5.2)) (bif p==w then(0,0)else(0,13)):=Ev.bind (all1 0 p w) (Ev.pure _)
theorem fitb{o:Int}{l:List Int}{b:Bool}(h:∀n,a3l n o l=some (0,b)):Ev (fun n=>(a3l n o l).bind fun v5=>bif !v5.2 then some ((0:Int),(13:Int))else some (v5.1,0)) (bif b then(0,0)else(0,13)):=
 Ev.all fun n=>by rw [h n];cases b<;>rfl
theorem e4o{x:M.Expr}(hx:Fit x)(names:List Rt.Bs)(hn:names.length<4611686018427387904):Shp x->∃r,Ev (fun n=>tariff_typed n x names) r/\Ev (fun n=>ref35_typed n x names) r/\Ty r:=by
 induction hx with
 | @mk o k s l hl _ ih=>
  intro hs
  cases hs with
  |mk h1 h2 h3 h4=>
  rcases d7r ⟨o,k,s,l⟩ names hl l 0 [] rfl rfl (by simp) (by simp) (fun y hy=>ih y hy (h4 y hy))with⟨N,e,he,hL⟩|⟨N,l2,hl2,ht,hL⟩
  ·exact⟨(0,e),Ev.suc (fun n=>c2d n _ _) ⟨N+l.length+1,fun n hn=>(hL n n _ (fun _=>none) (by omega) (by omega)).1⟩,Ev.suc (fun n=>c9z n _ _) ⟨N+l.length+1,fun n hn=>(hL n n (fun _=>none) _ (by omega) (by omega)).2⟩,fun h=>absurd h he⟩
  have out:∀r:Int×Int,Ty r->Ev (fun n=>d4f names ⟨o,k,s,l⟩ n l2) r->Ev (fun n=>refK names ⟨o,k,s,l⟩ n l2) r->∃r,Ev (fun n=>tariff_typed n ⟨o,k,s,l⟩ names) r/\Ev (fun n=>ref35_typed n ⟨o,k,s,l⟩ names) r/\Ty r:=by
   intro r hty hf hg
   exact⟨r,Ev.suc (fun n=>c2d n _ _) (Ev.from (N+l.length+1) (fun n hn=>(hL n n _ (fun _=>none) (by omega) (by omega)).1) hf),Ev.suc (fun n=>c9z n _ _) (Ev.from (N+l.length+1) (fun n hn=>(hL n n (fun _=>none) _ (by omega) (by omega)).2) hg),hty⟩
  replace hl2:(l2.length:Int)=b5y o:=by rw [<-h3];exact congrArg Int.ofNat hl2
  clear hL
  have len0:(l2.length:Int)=0->l2= []:=fun h=>List.length_eq_zero_iff.1 (by omega)
  have len1:(l2.length:Int)=1->∃p,l2= [p]:=fun h=>by
   match l2,h with
   | [p],_=>exact⟨p,rfl⟩
   | [],h=>simp at h
   |_::_::_,h=>simp at h;omega
  have len2:(l2.length:Int)=2->∃p q,l2= [p,q]/\(0<=p/\p<=2)/\(0<=q/\q<=2):=fun h=>by
   match l2,h,ht with
   | [p,q],_,ht=>exact⟨p,q,rfl,ht p (by simp),ht q (by simp)⟩
   | [],h,_=>simp at h
   | [_],h,_=>simp at h
   |_::_::_::_,h,_=>simp at h;omega
  have len3:(l2.length:Int)=3->∃p q r,l2= [p,q,r]:=fun h=>by
   match l2,h with
   | [p,q,r],_=>exact⟨p,q,r,rfl⟩
   | [],h=>simp at h
   | [_],h=>simp at h
   | [_,_],h=>simp at h
   |_::_::_::_::_,h=>simp at h;omega
  have hc:o=0∨o=1∨o=2∨o=3∨o=4∨o=5∨o=6∨o=7∨o=8∨o=9∨o=10∨o=11∨o=12∨o=13∨o=14∨o=15∨o=16:=by omega
  have lf:∀t:Int,0<=t->t<=2->Ty (bif !decide (s∈names)then((0:Int),(11:Int))else(t,0)):=by
   intro t h5 h6
   cases decide (s∈names)
   ·exact fun h=>by cases h
   ·exact fun _=>⟨h5,h6⟩
  have t10:Ty ((1:Int),(0:Int)):=fun _=>⟨by decide,by decide⟩
  rcases hc with rfl|rfl|rfl|rfl|rfl|rfl|rfl|rfl|rfl|rfl|rfl|rfl|rfl|rfl|rfl|rfl|rfl
  ·obtain rfl:=len0 hl2
   exact out (1,0) t10 (Ev.all fun n=>rfl) (Ev.all fun n=>rfl)
  ·obtain rfl:=len0 hl2
   refine out _ (lf 1 (by decide) (by decide)) ?_ ?_
   ·exact Ev.bind (f:=fun n v2=>bif !v2 then some (0,11)else some (1,0)) (b0i s hn) (by cases decide (s∈names)<;>exact Ev.pure _)
   ·exact Ev.bind (f:=fun n v2=>bif v2 then some (0,11)else some (1,0)) (c7o s hn) (by cases decide (s∈names)<;>exact Ev.pure _)
  ·obtain rfl:=len0 hl2
   exact out (1,0) t10 (Ev.all fun n=>rfl) (Ev.all fun n=>rfl)
  ·obtain rfl:=len0 hl2
   exact out (1,0) t10 (Ev.all fun n=>rfl) (Ev.all fun n=>rfl)
  ·obtain rfl:=len0 hl2
   refine out _ (lf 2 (by decide) (by decide)) ?_ ?_
   ·exact Ev.bind (f:=fun n v2=>bif !v2 then some (0,11)else some (2,0)) (b0i s hn) (by cases decide (s∈names)<;>exact Ev.pure _)
   ·exact Ev.bind (f:=fun n v2=>bif v2 then some (0,11)else some (2,0)) (c7o s hn) (by cases decide (s∈names)<;>exact Ev.pure _)
  ·obtain⟨p,q,rfl,_,_⟩:=len2 hl2
   exact out _ (b2k p q) (b0k p q) (c1u (o:=5) (by decide))
  ·obtain⟨p,q,rfl,_,_⟩:=len2 hl2
   exact out _ (b2k p q) (b0k p q) (c1u (o:=6) (by decide))
  ·obtain⟨p,q,rfl,hp,hq⟩:=len2 hl2
   refine out (bif p==2&&q==2 then(0,13)else c3b p q) ?_ ?_ ?_
   ·cases p==2&&q==2
    ·exact b2k p q
    ·exact fun h=>by cases h
   ·show Ev (fun n=>(bif p==2 then some (q==2)else some false).bind fun v9=>bif v9 then some (0,13)else(a1i n p q).bind fun v=>some (v.1,v.2)) _
    refine Ev.bind (a:=p==2&&q==2) (Ev.all fun n=>andT _ _) ?_
    cases p==2&&q==2
    ·exact Ev.else rfl (b0k p q)
    ·exact Ev.then rfl (Ev.pure _)
   ·show Ev (fun n=>(a3l n 7 [p,q]).bind fun v5=>bif !v5.2 then some ((0:Int),(13:Int))else some (v5.1,0)) _
    refine Ev.all fun n=> ?_
    rw [e3z]
    unfold c3b
    have hp3:p=0∨p=1∨p=2:=by omega
    have hq3:q=0∨q=1∨q=2:=by omega
    rcases hp3 with rfl|rfl|rfl<;>rcases hq3 with rfl|rfl|rfl<;>rfl
  ·obtain⟨p,q,rfl,_,_⟩:=len2 hl2
   have h8:(l.length:Int)=2:=h3
   obtain⟨u,v,rfl⟩:∃u v,l= [u,v]:=by
    match l,h8 with
    | [u,v],_=>exact⟨u,v,rfl⟩
    | [],h=>simp at h
    | [_],h=>simp at h
    |_::_::_::_,h=>simp at h;omega
   refine out (bif v.Op !=0 then(0,13)else bif v.N==0 then(0,14)else c3b p q) ?_ ?_ ?_
   ·cases v.Op !=0
    ·cases v.N==0
     ·exact b2k p q
     ·exact fun h=>by cases h
    ·exact fun h=>by cases h
   ·show Ev (fun n=>bif v.Op !=0 then some (0,13)else bif v.N==0 then some (0,14)else(a1i n p q).bind fun v=>some (v.1,v.2)) _
    cases v.Op !=0
    ·cases v.N==0
     ·exact Ev.else rfl (Ev.else rfl (b0k p q))
     ·exact Ev.else rfl (Ev.then rfl (Ev.pure _))
    ·exact Ev.then rfl (Ev.pure _)
   ·show Ev (fun n=>(bif v.Op==0 then some (v.N==0)else some false).bind fun v3=>bif v3 then some (0,14)else bif v.Op !=0 then some (0,13)else(a3l n 8 [p,q]).bind fun v5=>bif !v5.2 then some ((0:Int),(13:Int))else some (v5.1,0)) _
    refine Ev.bind (a:=v.Op==0&&v.N==0) (Ev.all fun n=>andT _ _) ?_
    unfold bne
    cases v.Op==0
    ·exact Ev.else rfl (Ev.then rfl (Ev.pure _))
    ·cases v.N==0
     ·exact Ev.else rfl (Ev.else rfl (c1u (o:=8) (by decide)))
     ·exact Ev.then rfl (Ev.pure _)
  ·obtain⟨p,q,rfl,_,_⟩:=len2 hl2
   exact out _ (b2k p q) (b0k p q) (c1u (o:=9) (by decide))
  ·obtain⟨p,q,rfl,_,_⟩:=len2 hl2
   exact out _ (b2k p q) (b0k p q) (c1u (o:=10) (by decide))
  ·obtain⟨p,q,r,rfl⟩:=len3 hl2
   refine out (bif p !=0 then(0,13)else c3b q r) ?_ ?_ ?_
   ·cases p !=0
    ·exact b2k q r
    ·exact fun h=>by cases h
   ·show Ev (fun n=>bif p !=0 then some (0,13)else(a1i n q r).bind fun v=>some (v.1,v.2)) _
    cases p !=0
    ·exact Ev.else rfl (b0k q r)
    ·exact Ev.then rfl (Ev.pure _)
   ·show Ev (fun n=>(a3l n 11 [p,q,r]).bind fun v5=>bif !v5.2 then some ((0:Int),(13:Int))else some (v5.1,0)) _
    refine Ev.all fun n=> ?_
    rw [e7n]
    unfold c3b
    cases hp:p==0<;>cases hq:q==0<;>cases hr:r==0<;>simp [bne,hp,hq,hr]
  ·obtain⟨p,q,rfl,_,_⟩:=len2 hl2
   exact out _ (ty0 (p==1&&q==1)) (d9i p q 1) (fitb fun n=>(d0t n p q).1)
  ·obtain⟨p,q,rfl,_,_⟩:=len2 hl2
   exact out _ (ty0 (p==1&&q==1)) (d9i p q 1) (fitb fun n=>(d0t n p q).2)
  ·obtain⟨p,rfl⟩:=len1 hl2
   exact out _ (ty0 (p==0)) (e8f p 0) (fitb fun n=>e3x n p)
  ·obtain⟨p,q,rfl,_,_⟩:=len2 hl2
   exact out _ (ty0 (p==0&&q==0)) (d9i p q 0) (fitb fun n=>(d7q n p q).1)
  ·obtain⟨p,q,rfl,_,_⟩:=len2 hl2
   exact out _ (ty0 (p==0&&q==0)) (d9i p q 0) (fitb fun n=>(d7q n p q).2)
theorem Check_2{t:Tariff}(hx:Fit t.Fee)(names:List Rt.Bs)(hn:names.length<4611686018427387904):∃e,Ev (fun n=>a2y n t names) e/\Ev (fun n=>c9i n t names) e:=by
 obtain⟨b,w1,w2,hS⟩:=d3g hx
 cases hnm:named names with
 |false=>exact⟨1,Ev.bind ((b6r hn).eq hnm) (Ev.then rfl (Ev.pure _)),Ev.bind ((c4g names).eq hnm) (Ev.then rfl (Ev.pure _))⟩
 |true=>
  cases b with
  |false=>exact⟨2,Ev.bind ((b6r hn).eq hnm) (Ev.else rfl (Ev.bind w1 (Ev.then rfl (Ev.pure _)))),Ev.bind ((c4g names).eq hnm) (Ev.else rfl (Ev.bind w2 (Ev.then rfl (Ev.pure _))))⟩
  |true=>
   obtain⟨r,r1,r2,_⟩:=e4o hx names hn (hS rfl)
   refine⟨bif(r.2==0&&r.1==0)then 13 else r.2,Ev.bind ((b6r hn).eq hnm) (Ev.else rfl (Ev.bind w1 (Ev.else rfl (Ev.bind r1 (Ev.bind (Ev.all fun n=>andT _ _) ?_))))),Ev.bind ((c4g names).eq hnm) (Ev.else rfl (Ev.bind w2 (Ev.else rfl (Ev.bind r2 (Ev.bind (Ev.all fun n=>andT _ _) ?_)))))⟩<;>
   (cases r.2==0&&r.1==0<;>exact Ev.pure _)
end Go.Proofs.YthaegflpecbfgaaGreatDoor.Ta
namespace Go.Proofs.YthaegflpecbfgaaGreatDoor.Fm
open Go Rt M Ta Tp D Fe
theorem more{α:Type}{l p q:List α}{x:α}(hx:l=p++x::q):decide ((p.length:Int)<(l.length:Int))=true:=by
 rw [hx,List.length_append,List.length_cons]
 exact decide_eq_true (by omega)
end Go.Proofs.YthaegflpecbfgaaGreatDoor.Fm
namespace Go.Proofs.YthaegflpecbfgaaGreatDoor.Fm
open Go Rt M Ta Tp D Fe
theorem e2s(t:Tariff)(names:List Rt.Bs)(f:Facts)(weights:List Frac):Tt (fun b=>b=true->FewS t names f weights) (fun n=>b4j n t names f weights):=by
 unfold b4j
 refine Tt.bind (e8c t names f weights) fun b hb=> ?_
 refine Tt.bind (P:=fun c=>c=true->b=true) (Tt.bif (fun h=>Tt.bind (e0h t.Fee 30 12 (by decide) (by decide) (by decide) (by decide)) fun c _=>Tt.pure fun _=>h) (fun _=>Tt.pure fun h=>by cases h)) fun c hc=>Tt.pure fun h=>hb (hc h)
structure FewX(x:M.Form):Prop where
 lim:LimX 3 x
 co:∀l,l∈x.Pieces->∀a,a∈l->a.Coefs.length<=8
theorem sane37:Ev b1p true:=⟨400,fun n hn=>by
 obtain⟨m,rfl⟩:∃m,n=m+400:=⟨n-400,by omega⟩
 kernel_rfl⟩
end Go.Proofs.YthaegflpecbfgaaGreatDoor.Fm
namespace Go.Proofs.YthaegflpecbfgaaGreatDoor.Fm
open Go Rt M Ta Tp D Fe
def N6(o:Option (Int×Int)):Prop:=∀r,o=some r->r.2≠6
theorem n6b{α:Type}{o:Option α}{f:α->Option (Int×Int)}(h:∀a,o=some a->N6 (f a)):N6 (o.bind f):=fun r hr=>by
 obtain⟨a,h1,h2⟩:=Option.bind_eq_some_iff.1 hr
 exact h a h1 r h2
theorem n6i{b:Bool}{x y:Option (Int×Int)}(h:N6 x)(k:N6 y):N6 (bif b then x else y):=by cases b;exact k;exact h
theorem n6p{a b:Int}(h:b≠6):N6 (some (a,b)):=fun r hr=>by cases hr;exact h
theorem n6q{o:Option (Int×Int)}(h:N6 o):N6 (o.bind fun v=>some (v.1,v.2)):=n6b fun a ha=>n6p (h a ha)
theorem all6(n:Nat)(k:Int)(l:List Int)(w:Int):N6 (a2z n k l w):=by
 unfold a2z
 repeat first|exact n6p (by decide)|refine n6b fun _ _=> ?_|refine n6i ?_ ?_
theorem e7w(n:Nat)(a b:Int):N6 (a1i n a b):=by
 unfold a1i
 repeat first|exact n6p (by decide)|refine n6b fun _ _=> ?_|refine n6i ?_ ?_
theorem typed6:∀(n:Nat)(x:M.Expr)(names:List Rt.Bs),N6 (tariff_typed n x names)
 |0,_,_=>fun r hr=>by cases hr
 |n+1,x,names=>by
  have ih:=typed6 n
  have L:∀(K:List Int->Option (Int×Int)),(∀l,N6 (K l))->∀(m:Nat)(i:Int)(l:List Int),N6 (tariff_typed_L1 n (tariff_typed n) x names K m i l):=by
   intro K hK m
   induction m with
   |zero=>exact fun _ _ r hr=>by cases hr
   |succ m hm=>
    intro i l
    rw [tariff_typed_L1_s]
    refine n6i (n6b fun y _=>n6b fun v hv=>n6i (n6p (ih _ _ v hv)) (n6b fun l3 _=>hm _ _)) (hK l)
  rw [tariff_typed_s]
  refine L _ (fun l=> ?_) _ _ _
  repeat first|exact n6p (by decide)|exact n6q (all6 _ _ _ _)|exact n6q (e7w _ _ _)|refine n6b fun _ _=> ?_|refine n6i ?_ ?_
theorem e6w{n:Nat}{t:Tariff}{names:List Rt.Bs}{e:Int}(h:a2y n t names=some e):e≠6:=by
 have key:N6 ((a2y n t names).map fun e=>(0,e)):=by
  unfold a2y
  have mb:∀{α β γ:Type}(o:Option α)(f:α->Option β)(g:β->γ),(o.bind f).map g=o.bind fun a=>(f a).map g:=fun o f g=>by cases o<;>rfl
  have mi:∀{α β:Type}(b:Bool)(x y:Option α)(g:α->β),(bif b then x else y).map g=bif b then x.map g else y.map g:=fun b x y g=>by cases b<;>rfl
  simp only [mb,mi,Option.map_some]
  refine n6b fun _ _=>n6i (n6p (by decide)) (n6b fun _ _=>n6i (n6p (by decide)) (n6b fun v hv=>n6b fun _ _=>n6i (n6p (by decide)) (n6p (typed6 _ _ _ v hv))))
 exact key (0,e) (by rw [h];rfl)
theorem d4k{nn B:Nat}{g:RFm}(hg:Gb nn B g)(hn:nn<=1000):LimX B (toFm g)where
 len:=by show(g.map toP).length<=1000;rw [List.length_map];have:=hg.len;omega
 lens:=fun l hl=>by
  obtain⟨p,hp,rfl⟩:=List.mem_map.1 (show l∈g.map toP from hl)
  have:=mem_len hp
  have:=hg.sz
  show(p.map toA).length<=_
  rw [List.length_map];omega
 coefs:=fun l hl a ha=>by
  obtain⟨p,hp,rfl⟩:=List.mem_map.1 (show l∈g.map toP from hl)
  obtain⟨b,hb,rfl⟩:=List.mem_map.1 (show a∈p.map toA from ha)
  show(b.2.map toF).length<=1000
  rw [List.length_map,hg.gd.wide p hp b hb];exact hn
 con:=fun l hl a ha=>by
  obtain⟨p,hp,rfl⟩:=List.mem_map.1 (show l∈g.map toP from hl)
  obtain⟨b,hb,rfl⟩:=List.mem_map.1 (show a∈p.map toA from ha)
  exact b2j (hg.gd.sm p hp b hb).1
 lim:=fun l hl a ha=>by
  obtain⟨p,hp,rfl⟩:=List.mem_map.1 (show l∈g.map toP from hl)
  obtain⟨b,hb,rfl⟩:=List.mem_map.1 (show a∈p.map toA from ha)
  intro w hw
  obtain⟨c,hc,rfl⟩:=List.mem_map.1 (show w∈b.2.map toF from hw)
  exact b2j ((hg.gd.sm p hp b hb).2 c hc)
theorem d1w(r:Rat):badC (toF r)=false:=by unfold badC;rw [b8r];rfl
theorem d2i{nn B:Nat}{g:RFm}{ws:List Rat}(hg:Gb nn B g)(h0:g≠ [])(h1:∀p,p∈g->p≠ [])(hl:ws.length=nn):b9b (toFm g) (ws.map toF)=false:=by
 have a1:∀l:List Rat,(l.map toF).any badC=false:=fun l=>List.any_eq_false.2 fun x hx=>by
  obtain⟨r,_,rfl⟩:=List.mem_map.1 hx
  rw [d1w];decide
 have a2:((toFm g).Pieces.any (badL ((ws.map toF).length:Int)))=false:=List.any_eq_false.2 fun x hx=>by
  obtain⟨p,hp,rfl⟩:=List.mem_map.1 (show x∈g.map toP from hx)
  have e1:(((toP p).length:Int)==0)=false:=by
   have:0<p.length:=List.length_pos_iff.2 (h1 p hp)
   have e:(toP p).length=p.length:=List.length_map ..
   rw [e];exact beq_eq_false_iff_ne.2 (by omega)
  have e2:(toP p).any (oddA ((ws.map toF).length:Int))=false:=List.any_eq_false.2 fun a ha=>by
   obtain⟨b,hb,rfl⟩:=List.mem_map.1 (show a∈p.map toA from ha)
   have w:=hg.gd.wide p hp b hb
   have e3:(((toA b).Coefs.length:Int) !=((ws.map toF).length:Int))=false:=by
    show(((b.2.map toF).length:Int) !=((ws.map toF).length:Int))=false
    rw [List.length_map,List.length_map,w,hl];exact bne_self_eq_false _
   unfold oddA
   rw [e3,show badC (toA b).Const=false from d1w _,show(toA b).Coefs.any badC=false from a1 _];decide
  unfold badL
  rw [e1,e2];decide
 unfold b9b c7l
 rw [a1,a2,decide_eq_true (by show(0:Int)<((g.map toP).length:Int);rw [List.length_map];have:0<g.length:=List.length_pos_iff.2 h0;omega)];rfl
theorem e2o{names:List Rt.Bs}{f:Facts}{t:Tariff}{g:RFm}{ws:List Rat}(hc:Chk names t)(hr:FR names f)(hlen:ws.length=names.length)(hm:(mk names (E0 names f) t.Fee).2=some g)(hn:names.length<=8){W:Nat}(hW:W<=10000)(hsm:∀w,w∈ws->SmF W w):
 Ev (fun n=>a6p n (toFm g) (ws.map toF)) (toF (fv names f ws t),true):=by
 obtain⟨hc1,hc2,k,hk,ht⟩:=hc
 have hcn:=hc2.2.1.1.2
 have is:=(c3h hr (by omega) ht (by omega) hk).2.2 g hm
 have hg:Gb names.length 400 g:=is.gb.mono (by omega)
 have hl2:(ws.map toF).length<=8:=by rw [List.length_map];omega
 obtain⟨r,a1,h1⟩:=At_t (A:=400) (W:=W) (d4k hg (by omega)) (d4s hsm) (by omega) (by decide) (by omega) (Nat.lt_of_le_of_lt (d1s hl2) (by unfold bnd;omega))
 refine a1.eq ?_
 rcases h1 with⟨_,v,rfl,_,h2⟩|⟨h2,_⟩
 ·rw [d3j,ratW]at h2
  rw [h2.uniq (is.val ws hlen)];rfl
 ·rw [d2i hg is.ne.1 is.ne.2 hlen]at h2;cases h2
theorem fvalue_ev(t:Tariff)(names:List Rt.Bs)(f:Facts)(weights:List Frac):Ev (fun n=>a6l n t names f weights) true:=by
 unfold a6l
 refine Ev.bind sane37 ?_
 obtain⟨b,hb,hq⟩:=e2s t names f weights
 refine Ev.bind hb ?_
 cases b with
 |false=>exact Ev.then rfl (Ev.pure _)
 |true=>
 refine Ev.else rfl ?_
 have s1:=hq rfl
 have n8:=s1.nl
 have l8:=s1.ll
 have w8:=s1.wl
 obtain⟨e,he,heq,o1,o2,o3⟩:=e5g (f:=f) s1.fit (show names.length<=1000 by omega) (by omega)
 obtain⟨e',he',_,v1,v2,v3⟩:=c7h (f:=f) s1.fit (show names.length<=1000 by omega) (show f.Lifts.length<=1000000 by omega) s1.lim (by decide) (by decide) (show weights.length<=1000000 by omega)
 obtain rfl:=he.uniq he'
 have e6:e≠6:=by obtain⟨N,h⟩:=he;exact e6w (h N (Nat.le_refl _))
 have nf:∀{e2:Int},e2≠6->e2≠0->Ev (fun n=>a4x n t names f) (⟨[]⟩,e2)->Ev (fun n=>a4b n t names f weights) (zeroF,e2)->Ev (fun n=>(a4x n t names f).bind fun v3=>
  (a4b n t names f weights).bind fun v4=>
  bif v3.2==6 then
   (bif true then(a2y n t names).bind fun v7=>some (v7==0)else some false).bind fun v5=>(bif v5 then some ((v3.1.Pieces.length:Int)==0)else some false).bind fun v6=>some v6
  else
   bif v3.2 !=0 then
    (bif true then some (v4.2==v3.2)else some false).bind fun v8=>(bif v8 then some ((v3.1.Pieces.length:Int)==0)else some false).bind fun v9=>some v9
   else
    bif v4.2 !=0 then(bif true then some (v4.2==1)else some false).bind fun v10=>some v10
    else
     (a6p n v3.1 weights).bind fun v11=>(bif true then some v11.2 else some false).bind fun v12=>(bif v12 then(a6e n v4.1 v11.1).bind fun v14=>some v14 else some false).bind fun v13=>some v13) true:=by
  intro e2 h6 h0 h1 h2
  refine Ev.bind h1 (Ev.bind h2 (Ev.else (by simpa using h6) (Ev.then (by simpa using h0) ?_)))
  exact Ev.bind (a:=true) (Ev.then rfl ((Ev.pure _).eq (beq_self_eq_true e2))) (Ev.bind (a:=true) (Ev.then rfl (Ev.pure _)) (Ev.pure _))
 by_cases h:e=0
 ·by_cases hr:FR names f
  ·obtain⟨a1,a2⟩:=o3 h hr
   have hc:=heq.1 h
   cases hm:(mk names (E0 names f) t.Fee).2 with
   |none=>
    cases hw:b0x names f weights with
    |false=>
     refine Ev.bind (a2 hm) (Ev.bind (v2 h hw) (Ev.then rfl ?_))
     exact Ev.bind (a:=true) (Ev.then rfl (Ev.bind he ((Ev.pure _).eq (by rw [h];rfl)))) (Ev.bind (a:=true) (Ev.then rfl (Ev.pure _)) (Ev.pure _))
    |true=>
     obtain⟨ws,hws,hrf,hsm⟩:=b4z s1.lim hw
     refine Ev.bind (a2 hm) (Ev.bind (v3 h ws hws hrf hsm).1 (Ev.then rfl ?_))
     exact Ev.bind (a:=true) (Ev.then rfl (Ev.bind he ((Ev.pure _).eq (by rw [h];rfl)))) (Ev.bind (a:=true) (Ev.then rfl (Ev.pure _)) (Ev.pure _))
   |some g=>
    cases hw:b0x names f weights with
    |false=>
     refine Ev.bind (a1 g hm) (Ev.bind (v2 h hw) (Ev.else rfl (Ev.else rfl (Ev.then rfl ?_))))
     exact Ev.bind (a:=true) (Ev.then rfl (Ev.pure _)) (Ev.pure _)
    |true=>
     obtain⟨ws,hws,hrf,hsm⟩:=b4z s1.lim hw
     have hv:=v3 h ws hws hrf hsm
     refine Ev.bind (a1 g hm) (Ev.bind hv.1 (Ev.else rfl (Ev.else rfl (Ev.else rfl ?_))))
     subst hws
     refine Ev.bind (e2o hc (e4n hrf) hrf.hw hm n8 (by decide) hsm) ?_
     refine Ev.bind (a:=true) (Ev.then rfl (Ev.pure _)) ?_
     have hl:=b2j hv.2
     refine Ev.bind (a:=true) (Ev.then rfl (Ev.bind (a:=true) ?_ (Ev.pure _))) (Ev.pure _)
     exact(d5x (f:=toF (fv names f ws t)) (g:=toF (fv names f ws t)) (by omega) (by omega)).eq (decide_eq_true rfl)
  ·have hw:b0x names f weights=false:=by
    cases hw:b0x names f weights with
    |false=>rfl
    |true=>
     obtain⟨ws,_,hrf,_⟩:=b4z s1.lim hw
     exact absurd (e4n hrf) hr
   exact nf (by decide) (by decide) (o2 h hr) (v2 h hw)
 ·exact nf e6 h (o1 h) (v1 h)
end Go.Proofs.YthaegflpecbfgaaGreatDoor.Fm
namespace Go.Proofs.YthaegflpecbfgaaGreatDoor.FormValue
open Go Go.ChangeShapes Go.WideShapes Go.ChangeAt Go.RowKit Rt Wrap
set_option maxRecDepth 100000 in
theorem d8w(H:Type)(enc:TypeId×Value->H)(W:World)(base:Nat)(args:Array Value)(ds gs:List (DataW H))(before:List MemPlace)
 (hval:∀(j:Nat)t v,Tryz.f4.params[j]?=some t->args[j]?=some v->Value.okWide Tryz.prog W .any base t v)
 (hW:DataW.Whole enc Tryz.prog Tryz.f4.params.toList Rows.formValueSpec.vars false W args.toList ds gs before) (hL:laidMetH Tryz.prog tabs W):
 Calls Tryz.prog 4 args W fun e W'=>∃v,e= .returned v/\Rows.formValueSpec.post enc Tryz.prog Tryz.f4 false true false false W args v W':=by
 have hW':=hW
 obtain⟨p,q,hA0,hV,rfl,hfz,hnd⟩:=hW
 have hA:DataW.TrodAll enc Tryz.prog W 0 (fun _=>true) true Tryz.f4.params.toList args.toList ds p:=hA0
 rw [Tryz.params4]at hA hval
 obtain⟨v0,vs0,d0,ds0,p0,q0,hargs,rfl,rfl,h0,r0⟩:=trodAll_cons hA
 obtain⟨v1,vs1,d1,ds1,p1,q1,rfl,rfl,rfl,h1,r1⟩:=trodAll_cons r0
 obtain⟨v2,vs2,d2,ds2,p2,q2,rfl,rfl,rfl,h2,r2⟩:=trodAll_cons r1
 obtain⟨v3,vs3,d3,ds3,p3,q3,rfl,rfl,rfl,h3,r3⟩:=trodAll_cons r2
 obtain⟨rfl,rfl,rfl⟩:=trodAll_nil r3
 obtain rfl:args= #[v0,v1,v2,v3]:=by cases args;simp_all
 obtain⟨rfl,rfl⟩:=trodVars_none hV
 obtain⟨cs0,rfl,hsz0⟩:=okWide_struct Tryz.underlying26 (hval 0 26 v0 rfl rfl)
 obtain⟨y0,hr0,ho0⟩:=c5d (e4r W) h0
 obtain⟨ax0_4,nx0_4,cx0_4,he0,sx0_4⟩:=hr0
 have he0':cs0.toList= [vs y0.Name,.int .i64 y0.Fee.Op,.int .i64 y0.Fee.N,vs y0.Fee.Name,.slice ax0_4 nx0_4 cx0_4,.int .i64 y0.Cap]:=he0
 obtain rfl:cs0= #[vs y0.Name,.int .i64 y0.Fee.Op,.int .i64 y0.Fee.N,vs y0.Fee.Name,.slice ax0_4 nx0_4 cx0_4,.int .i64 y0.Cap]:=by rw [<-Array.toArray_toList (xs:=cs0),he0']
 obtain⟨a1,n1,c1,l1,rfl,hl1,ho1⟩:=d6x Tryz.underlying27 (e2j W) (hval 1 27 v1 rfl rfl) h1
 obtain⟨cs2,rfl,hsz2⟩:=okWide_struct Tryz.underlying30 (hval 2 30 v2 rfl rfl)
 obtain⟨y2,hr2,ho2⟩:=c5d (e3f W) h2
 obtain⟨ax2_0,nx2_0,cx2_0,he2,sx2_0⟩:=hr2
 have he2':cs2.toList= [.slice ax2_0 nx2_0 cx2_0,.int .i64 y2.Persons,.int .i64 y2.Flats]:=he2
 obtain rfl:cs2= #[.slice ax2_0 nx2_0 cx2_0,.int .i64 y2.Persons,.int .i64 y2.Flats]:=by rw [<-Array.toArray_toList (xs:=cs2),he2']
 obtain⟨a3,n3,c3,l3,rfl,hl3,ho3⟩:=d6x Tryz.underlying31 (e4h W) (hval 3 31 v3 rfl rfl) h3
 obtain⟨N,hN⟩:=Fm.fvalue_ev y0 l1 y2 l3
 refine(M.law37_FormValue_ok' N y0 l1 y2 l3 true (hN N (Nat.le_refl N)) (e2i W) sx0_4 hl1 sx2_0 hl3 (e5q hL)).mono ?_
 rintro e W' ⟨v,F',O',rfl,hh,rfl,rfl⟩
 refine⟨_,rfl,d5l laidOut ?_ rfl (by kernel_rfl) Tryz.underlying4 rfl hW' hh.below⟩
 rw [Tryz.params4]
 intro t ht
 have ht:t∈ [26,27,30,31]:=ht
 rcases List.mem_cons.1 ht with rfl|ht
 ·exact⟨by kernel_rfl,of_decide_eq_true (by kernel_rfl)⟩
 rcases List.mem_cons.1 ht with rfl|ht
 ·exact⟨by kernel_rfl,of_decide_eq_true (by kernel_rfl)⟩
 rcases List.mem_cons.1 ht with rfl|ht
 ·exact⟨by kernel_rfl,of_decide_eq_true (by kernel_rfl)⟩
 rcases List.mem_cons.1 ht with rfl|ht
 ·exact⟨by kernel_rfl,of_decide_eq_true (by kernel_rfl)⟩
 exact absurd ht (List.not_mem_nil)
theorem reads(os:Os){H:Type}(enc:TypeId×Value->H):∃places,DataW.whole enc Tryz.prog ((c1w os).forCall (fun _ _=>0) ⟨#[], #[.agg #[.string ⟨#[]⟩,.int .i64 0,.int .i64 0,.string ⟨#[]⟩,.slice none 0 0,.int .i64 0],.slice none 0 0,.agg #[.slice none 0 0,.int .i64 0,.int .i64 0],.slice none 0 0],[]⟩).memory Tryz.f4.params.toList Rows.formValueSpec.vars false (#[.agg #[.string ⟨#[]⟩,.int .i64 0,.int .i64 0,.string ⟨#[]⟩,.slice none 0 0,.int .i64 0],.slice none 0 0,.agg #[.slice none 0 0,.int .i64 0,.int .i64 0],.slice none 0 0]:Array Value).toList 8=some ([.agg [.lit (.string []),.agg [.lit (.int .i64 0),.lit (.int .i64 0),.lit (.string []),.nil],.lit (.int .i64 0)],.nil,.agg [.nil,.lit (.int .i64 0),.lit (.int .i64 0)],.nil],[],places):=
 ⟨[],by kernel_rfl⟩
set_option maxRecDepth 100000 in
theorem e6h(os:Os)(started:os.Started)(H:Type)(enc:TypeId×Value->H)(F:Stop.Interp):
 ReturnsInHanded {} Tryz.checked os 4 .any ((OpenSpec.ofChange Rows.formValueSpec).preRow enc Tryz.prog Tryz.f4 Rows.formValueRow.domain false Rows.formValueRow.laid) (((OpenSpec.ofChange Rows.formValueSpec).at F).post enc Tryz.prog Tryz.f4 false true false false):=by
 obtain⟨places,hx⟩:=reads os enc
 refine returnsInHanded_of_row (C:=Tryz.checked) (s:=OpenSpec.ofChange Rows.formValueSpec) own started (by kernel_rfl) Tryz.func4
  (witness_row_at (enc:=enc) (C:=Tryz.checked) false (c1w os) #[.agg #[.string ⟨#[]⟩,.int .i64 0,.int .i64 0,.string ⟨#[]⟩,.slice none 0 0,.int .i64 0],.slice none 0 0,.agg #[.slice none 0 0,.int .i64 0,.int .i64 0],.slice none 0 0] rfl (by kernel_rfl) (by kernel_rfl) (by kernel_rfl)
   (OpenSpec.preRow_of_cond 8 hx (by kernel_rfl) (fun k hk=>by cases hk) (by kernel_rfl) (d9z os _))) ?_
 intro W base args ds gs before hval hW _ _ _ hL _ _
 exact d8w H enc W base args ds gs before hval hW hL
theorem said:Rows.FormValueSaid:=
 OpenClaim.holds_of_cond 4 Tryz.f4 rfl rfl rfl rfl rfl rfl rfl ⟨rfl,rfl,rfl,rfl,rfl⟩ rfl rfl rfl rfl rfl (by kernel_rfl) Tryz.func4 (by kernel_rfl)
  (of_decide_eq_true (by kernel_rfl)) (by unfold Func.isWrapper;first|(rw [if_pos (by decide+kernel)];kernel_rfl)|(rw [if_neg (by decide+kernel)];exact⟨rfl,rfl⟩))
  (fun os started H enc _ F=>by rw [OpenClaim.pre_eq_preRow];exact e6h os started H enc F)
theorem e7s(f:FuncId)(fn:Func)(hf:Tryz.pinned.checked.prog.funcNamed "kerbside/kerbsidelaw37.FormValue" =some f)(hfn:Tryz.pinned.checked.prog.funcs[f]?=some fn):
 false=Tryz.pinned.checked.prog.looks []/\∀(j:Nat)t,fn.params[j]?=some t->Tryz.pinned.checked.prog.wantsStandIn t=false:=by
 obtain rfl:f=4:=Option.some.inj ((show Tryz.prog.funcNamed "kerbside/kerbsidelaw37.FormValue" =some 4 by kernel_rfl).symm.trans hf)|>.symm
 obtain rfl:fn=Tryz.f4:=(Option.some.inj (Tryz.func4.symm.trans hfn)).symm
 refine⟨by kernel_rfl,fun j t ht=> ?_⟩
 rw [Tryz.params4]at ht
 have ht:t∈ [26,27,30,31]:=Array.mem_toList_iff.2 (Array.mem_of_getElem? ht)
 rcases List.mem_cons.1 ht with rfl|ht
 ·exact(show Tryz.prog.wantsStandIn 26=false by kernel_rfl)
 rcases List.mem_cons.1 ht with rfl|ht
 ·exact(show Tryz.prog.wantsStandIn 27=false by kernel_rfl)
 rcases List.mem_cons.1 ht with rfl|ht
 ·exact(show Tryz.prog.wantsStandIn 30=false by kernel_rfl)
 rcases List.mem_cons.1 ht with rfl|ht
 ·exact(show Tryz.prog.wantsStandIn 31=false by kernel_rfl)
 exact absurd ht (List.not_mem_nil)
theorem card:Rows.FormValueCardSaid:=
 Claim7.holds_tied_plain_at .later [] _ _ _ _ said (fun _ h=>by cases h) (by kernel_rfl) (fun _ h=>by cases h) formValue_row_tie rfl ⟨rfl,rfl⟩ (by kernel_rfl) rfl e7s (by kernel_rfl)
end Go.Proofs.YthaegflpecbfgaaGreatDoor.FormValue
