/- Several texts in one, for FormTells.card: what the theorem leans on. -/
import Derived.Test.YthaegflpecbfgaaGreatDoorPu6
set_option maxHeartbeats 1000000
set_option maxRecDepth 1000000
set_option linter.unusedVariables false
set_option linter.unusedSimpArgs false
namespace Go.Proofs.YthaegflpecbfgaaGreatDoor
namespace D
open Go Rt M
section
variable{β:Type}{r:β}{c d:Bool}{y:Nat->Option Bool}{f:Nat->Bool->Option β}
theorem guard{V:Bool}{rest:Nat->Option Bool}(h:V=false->Ev rest true):Ev (fun n=>bif V then some true else rest n) true:=by
 cases V with
 |true=>exact Ev.then rfl (Ev.pure _)
 |false=>exact Ev.else rfl (h rfl)
end
theorem toB_one:toB 1=⟨1,[1]⟩:=by unfold toB;rw [show(1:Int).natAbs=1 from rfl,dig_one];rfl
theorem Of1_ev:Ev (fun n=>b7e n 1) (toB 1):=⟨200,fun n hn=>by
 obtain⟨m,rfl⟩:=Nat.le.dest hn;rw [Nat.add_comm,toB_one];exact(show b7e (m+200) 1=some ⟨1,[1]⟩ by kernel_rfl)⟩
theorem b2p(x:Int):(sg x==0)=decide (x=0):=by rcases a0p x with h|h|h<;>rw [h.2]<;>simp<;>omega
theorem d9f(n:Nat)(a b:Big)(kont:Option Bool)(hl:a.Digits.length=b.Digits.length)(hla:a.Digits.length<1099511627776):∀(us:List Int)(i m:Nat),a.Digits.drop i=us->us.length<m->ref05_SameBig_L1 n a b kont m (i:Int)=bif decide (us=b.Digits.drop i)then kont else some false
 | [],i,m+1,hd,_=>by
  rw [ref05_SameBig_L1_s];have:=drop_nil hd;have hb:b.Digits.drop i= []:=List.drop_eq_nil_of_le (by omega);rw [show decide ((i:Int)<(a.Digits.length:Int))=false by simp;omega,hb];rfl
 |x::xs,i,m+1,hd,hm=>by
  rw [ref05_SameBig_L1_s];obtain⟨f1,f2,f3⟩:=drop_cons hd;have hdb:b.Digits.drop i=b.Digits[i]::b.Digits.drop (i+1):=List.drop_eq_getElem_cons (by omega);rw [show decide ((i:Int)<(a.Digits.length:Int))=true by simp;omega,cond_true,f1,b_s,(drop_cons hdb).1,b_s,hdb]
  by_cases h:x=b.Digits[i]
  ·rw [show(x !=b.Digits[i])=false by simp [h],cond_false,inc64 (by omega),d9f n a b kont hl hla xs (i+1) m f2 (by simpa using hm),e6x,show decide (x=b.Digits[i])=true by simpa using h,Bool.true_and]
  rw [show(x !=b.Digits[i])=true by simpa using h,cond_true,e6x,show decide (x=b.Digits[i])=false by simpa using h];rfl
 |_,_,0,_,h=>by omega
theorem d5j{a b:Big}(hl:a.Digits.length<1099511627776):Ev (fun n=>a7v n a b) (decide (a=b)):=by
 unfold a7v;obtain⟨s,l⟩:=a;obtain⟨t,k⟩:=b
 by_cases h:s=t
 ·subst h
  by_cases hlen:l.length=k.length
  ·refine Ev.step (a:=false) (by simp [hlen]) ?_;refine Ev.else rfl ⟨l.length+1,fun n hn=> ?_⟩
   have h1:=d9f n ⟨s,l⟩ ⟨s,k⟩ (some true) hlen hl l 0 n rfl (by omega);rw [show((0:Nat):Int)=0 from rfl,List.drop_zero]at h1;dsimp only at h1⊢;rw [h1]
   by_cases h2:l=k
   ·simp [h2]
   simp [h2]
  refine Ev.step (a:=true) (by simp;omega) ?_;have:l≠k:=fun e=>hlen (by rw [e]);exact Ev.then rfl ((Ev.pure _).eq (by simp [this]))
 refine Ev.step (a:=true) (by rw [show(s !=t)=true by simpa using h,cond_true]) ?_;exact Ev.then rfl ((Ev.pure _).eq (by simp [h]))
def toF(r:Rat):Frac:=⟨toB r.num,toB (r.den:Int)⟩
def SmF(k:Nat)(r:Rat):Prop:=Sm k r.num/\Sm k (r.den:Int)
def zeroF:Frac:=⟨⟨0,[]⟩,⟨0,[]⟩⟩
theorem c8y(r:Rat):0<(r.den:Int):=by have:=r.den_nz;omega
theorem SmF.mono{j k:Nat}{r:Rat}(h:SmF j r)(hk:j<=k):SmF k r:=⟨h.1.mono hk,h.2.mono hk⟩
theorem b4f{p q:Int}(hq:0<q):(Rat.divInt p q).num=p/((Nat.gcd p.natAbs q.natAbs:Nat):Int)/\((Rat.divInt p q).den:Int)=q/((Nat.gcd p.natAbs q.natAbs:Nat):Int):=by
 obtain⟨d,rfl⟩:=Int.eq_ofNat_of_zero_le (Int.le_of_lt hq);have hd:d≠0:=by omega
 rw [Rat.divInt_ofNat,Rat.mkRat_def,dif_neg hd,Rat.normalize_eq,Int.natAbs_natCast];exact⟨rfl,Int.natCast_ediv _ _⟩
theorem d0o(a b:Rat):a+b=Rat.divInt (a.num*b.den+b.num*a.den) (a.den*b.den):=by
 conv=>lhs;rw [<-Rat.num_divInt_den a,<-Rat.num_divInt_den b]
 rw [Rat.divInt_add_divInt _ _ (by have:=c8y a;omega) (by have:=c8y b;omega)]
theorem d3t(a b:Rat):a*b=Rat.divInt (a.num*b.num) (a.den*b.den):=by
 conv=>lhs;rw [<-Rat.num_divInt_den a,<-Rat.num_divInt_den b]
 rw [Rat.divInt_mul_divInt]
theorem d4r(a b:Rat):a/b=Rat.divInt (a.num*b.den) (a.den*b.num):=by
 rw [Rat.div_def]
 conv=>lhs;rw [<-Rat.num_divInt_den a,<-Rat.num_divInt_den b]
 rw [Rat.inv_divInt,Rat.divInt_mul_divInt]
theorem d5n{x y:Int}(hy:0<y):dq x y=x/y:=by
 obtain⟨h1,h2,h3⟩:=f5e (x:=x) (y:=y) (by omega);have h4:0<=dr x y/\dr x y<y:=by
  rcases h2 with h|h
  ·omega
  rw [a3i hy]at h;have:=a0p (dr x y);omega
 generalize dq x y=q at*;generalize dr x y=r at*;rw [<-h1,Int.add_comm,Int.add_mul_ediv_right _ _ (by omega),Int.ediv_eq_zero_of_lt h4.1 h4.2];omega
theorem d0m{x y:Int}{k:Nat}(h:Sm k x):Sm k (x/y):=h.le (Int.natAbs_ediv_le_natAbs x y)
theorem b9o(p q:Int):Rat.divInt p q=Rat.divInt (-p) (-q):=(Rat.neg_divInt_neg p q).symm
theorem c1u{p q:Int}{k:Nat}(hp:Sm k p)(hq:Sm k q)(h0:q≠0):SmF k (Rat.divInt p q):=by
 by_cases hn:q<0
 ·rw [b9o];obtain⟨e1,e2⟩:=b4f (p:=-p) (q:=-q) (by omega);exact⟨by rw [e1];exact d0m hp.neg,by rw [e2];exact d0m hq.neg⟩
 obtain⟨e1,e2⟩:=b4f (p:=p) (q:=q) (by omega);exact⟨by rw [e1];exact d0m hp,by rw [e2];exact d0m hq⟩
theorem b8r{x y:Int}(hx:x≠0)(hy:y≠0):x*y≠0:=Int.mul_ne_zero hx hy
theorem b0w(r:Rat):(r.den:Int)≠0:=by have:=c8y r;omega
theorem SmF.add{j k:Nat}{a b:Rat}(ha:SmF j a)(hb:SmF k b):SmF (j+k+1) (a+b):=by
 rw [d0o];exact c1u ((ha.1.mul hb.2).add ((hb.1.mul ha.2).mono (by omega))) ((ha.2.mul hb.2).mono (by omega)) (b8r (b0w a) (b0w b))
theorem SmF.mul{j k:Nat}{a b:Rat}(ha:SmF j a)(hb:SmF k b):SmF (j+k) (a*b):=by
 rw [d3t];exact c1u (ha.1.mul hb.1) (ha.2.mul hb.2) (b8r (b0w a) (b0w b))
theorem SmF.neg{k:Nat}{a:Rat}(ha:SmF k a):SmF k (-a):=⟨by rw [Rat.neg_num];exact ha.1.neg,by rw [Rat.neg_den];exact ha.2⟩
theorem SmF.sub{j k:Nat}{a b:Rat}(ha:SmF j a)(hb:SmF k b):SmF (j+k+1) (a-b):=by rw [Rat.sub_eq_add_neg];exact ha.add hb.neg
def ofB(a:Big):Int:=a.Sign*val a.Digits
theorem b3q(x:Int):ofB (toB x)=x:=by unfold ofB toB;rw [a1i,c4l]
def a4x(f:Frac):Bool:=a9w f.P&&a9w f.Q&&(f.Q.Sign==1)&&(Nat.gcd (ofB f.P).natAbs (ofB f.Q).natAbs==1)
theorem c2g(r:Rat):a4x (toF r)=true:=by
 unfold a4x toF;simp only;rw [b8e,b8e,b3q,b3q];have h1:(toB (r.den:Int)).Sign=1:=a3i (c8y r);rw [h1,Int.natAbs_natCast];have h2:Nat.gcd r.num.natAbs r.den=1:=r.reduced;rw [h2];rfl
theorem c0r{f:Frac}(h:a4x f=true):∃r,f=toF r:=by
 obtain⟨P,Q⟩:=f;unfold a4x at h;simp only [Bool.and_eq_true,beq_iff_eq]at h;obtain⟨⟨⟨h1,h2⟩,h3⟩,h4⟩:=h;obtain⟨p,rfl⟩:=a9i h1;obtain⟨q,rfl⟩:=a9i h2;rw [b3q,b3q]at h4;have h5:0<q:=by have h6:sg q=1:=h3;have:=a0p q;omega
 obtain⟨d,rfl⟩:=Int.eq_ofNat_of_zero_le (Int.le_of_lt h5);refine⟨⟨p,d,by omega,?_⟩,rfl⟩
 rwa [Int.natAbs_natCast]at h4
theorem f4j{x:Int}{k:Nat}(h:Sm k x)(hk:k<1099511627776):Ev (fun n=>c0h n (toB x)) (decide (x=1)):=by
 unfold c0h;refine Ev.bind (f4z h hk) ?_
 by_cases hr:-9223372036854775808<=x/\x<=9223372036854775807
 ·rw [if_pos hr];exact Ev.bind (a:=decide (x=1)) (Ev.then rfl ((Ev.pure _).eq (by by_cases hx:x=1<;>simp [hx]))) (Ev.pure _)
 rw [if_neg hr];refine Ev.bind (a:=decide (x=1)) (Ev.else rfl ((Ev.pure _).eq ?_)) (Ev.pure _);rw [decide_eq_false (by omega)]
theorem d0y{p q:Int}{k:Nat}(hp:Sm k p)(hq:Sm k q):Sm k ((Nat.gcd p.natAbs q.natAbs:Nat):Int):=by
 by_cases h0:p.natAbs=0
 ·rw [h0,Nat.gcd_zero_left];exact hq.le (by omega)
 exact hp.le (by have:=Nat.gcd_le_left q.natAbs (Nat.pos_of_ne_zero h0);omega)
theorem c0y{f:Frac}{k:Nat}(hp:f.P.Digits.length<=k)(hq:f.Q.Digits.length<=k)(hk:k<8388608):Ev (fun n=>a2b n f) (a4x f):=by
 unfold a2b;refine Ev.bind (c9w (a:=f.P) (by omega)) ?_;cases hP:a9w f.P with
 |false=>exact Ev.bind (a:=true) (Ev.then rfl (Ev.pure _)) (Ev.bind (a:=true) (Ev.then rfl (Ev.pure _)) (Ev.then rfl ((Ev.pure _).eq (by unfold a4x;rw [hP];rfl))))
 |true=>
  refine Ev.bind (a:= !a9w f.Q) (Ev.else rfl (Ev.bind (c9w (a:=f.Q) (by omega)) (Ev.pure _))) ?_;cases hQ:a9w f.Q with
  |false=>exact Ev.bind (a:=true) (Ev.then rfl (Ev.pure _)) (Ev.then rfl ((Ev.pure _).eq (by unfold a4x;rw [hP,hQ];rfl)))
  |true=>
   refine Ev.bind (a:=f.Q.Sign !=1) (Ev.else rfl (Ev.pure _)) ?_
   by_cases hs:f.Q.Sign=1
   ·refine Ev.else (by simp [hs]) ?_
    obtain⟨P,Q⟩:=f;obtain⟨p,rfl⟩:=a9i hP;obtain⟨q,rfl⟩:=a9i hQ;have hp':Sm k p:=a6w hp;have hq':Sm k q:=a6w hq;refine Ev.bind (e7r hp' hq' hk) ?_;refine Ev.bind (a:=decide (Nat.gcd p.natAbs q.natAbs=1)) (Ev.then rfl (Ev.bind ((f4j (d0y hp' hq') (by omega)).eq (s:=decide (Nat.gcd p.natAbs q.natAbs=1)) ?_) (Ev.pure _))) ((Ev.pure _).eq ?_)
    ·by_cases hg:Nat.gcd p.natAbs q.natAbs=1
     ·rw [decide_eq_true hg,decide_eq_true (by omega)]
     rw [decide_eq_false hg,decide_eq_false (by omega)]
    unfold a4x;rw [hP,hQ,b3q,b3q,hs]
    by_cases hg:Nat.gcd p.natAbs q.natAbs=1<;>simp [hg]
   refine Ev.then (by simpa using hs) ((Ev.pure _).eq ?_)
   unfold a4x;rw [hP,hQ];simp [hs]
theorem b3n{r:Rat}{k:Nat}(h:SmF k r):(toF r).P.Digits.length<=k/\(toF r).Q.Digits.length<=k:=⟨a1d h.1,a1d h.2⟩
theorem a4f{r:Rat}{k:Nat}(h:SmF k r)(hk:k<8388608):Ev (fun n=>a2b n (toF r)) true:=(c0y (b3n h).1 (b3n h).2 hk).eq (c2g r)
section
variable{p q:Int}{k:Nat}(hp:Sm k p)(hq:Sm k q)(hk:k<8388608)
include hp hq hk
theorem d5x(h0:0<q):Ev (fun n=>
 (b6q n (toB p) (toB q)).bind fun v8=>
 (b3r n (toB p) (⟨v8.1.Sign,v8.1.Digits⟩:Big)).bind fun v9=>
 (b3r n (toB q) (⟨v8.1.Sign,v8.1.Digits⟩:Big)).bind fun v10=>
 some ((⟨(⟨v9.1.Sign,v9.1.Digits⟩:Big),(⟨v10.1.Sign,v10.1.Digits⟩:Big)⟩:Frac),(0:Int))) (toF (Rat.divInt p q),0):=by
 have hg:0<Nat.gcd p.natAbs q.natAbs:=Nat.gcd_pos_of_pos_right _ (by omega);have hgs:=d0y hp hq;obtain⟨e1,e2⟩:=b4f (p:=p) h0;refine Ev.bind (e7r hp hq hk) ?_;refine Ev.bind (e7s hp hgs hk (by omega)) ?_;refine Ev.bind (e7s hq hgs hk (by omega)) ((Ev.pure _).eq ?_);unfold toF;rw [e1,e2,<-d5n (by omega),<-d5n (by omega)]
theorem d0i(h0:q≠0):Ev (fun n=>b3b n (toB p) (toB q)) (toF (Rat.divInt p q),0):=by
 unfold b3b;refine Ev.bind (a5m hp (by omega)) ?_;refine Ev.bind (a:=false) (Ev.else rfl (Ev.bind (a5m hq (by omega)) (Ev.pure _))) ?_;refine Ev.else rfl ?_
 refine Ev.else (by show(sg q==0)=false;rw [b2p];simpa using h0) ?_
 by_cases hn:q<0
 ·refine Ev.then (by show decide (sg q<0)=true;rw [a3u hn];rfl) ?_
  refine Ev.bind (c8q hp (by omega)) (Ev.bind (c8q hq (by omega)) ?_);rw [b9o];exact d5x hp.neg hq.neg hk (by omega)
 refine Ev.else (by show decide (sg q<0)=false;rw [a3i (by omega)];rfl) ?_
 exact d5x hp hq hk (by omega)
omit hk in
theorem b4s(hk:k<268435456):Ev (fun n=>a3a n (toB p) (toB q)) (toB (p*q)):=by
 unfold a3a;exact Ev.bind (f2t hp hq hk) (Ev.pure _)
end
theorem c6d{x:Int}{k:Nat}(h:Sm k x)(hk:k<1073741824):Ev (fun n=>b2e n (toB x)) (toB x):=by
 unfold b2e;exact Ev.bind (c8q h hk) (Ev.bind (c8q h.neg hk) ((Ev.pure _).eq (by rw [Int.neg_neg])))
section
variable{a b:Rat}{j k:Nat}(ha:SmF j a)(hb:SmF k b)(hk:j+k<4000000)
include ha hb hk
theorem times_PQ:Ev (fun n=>a3a n (⟨(toF a).P.Sign,(toF a).P.Digits⟩:Big) (⟨(toF b).Q.Sign,(toF b).Q.Digits⟩:Big)) (toB (a.num*b.den)):=
 b4s (ha.1.mono (by omega:j<=j+k)) (hb.2.mono (by omega:k<=j+k)) (by omega)
theorem times_QP:Ev (fun n=>a3a n (⟨(toF a).Q.Sign,(toF a).Q.Digits⟩:Big) (⟨(toF b).P.Sign,(toF b).P.Digits⟩:Big)) (toB (a.den*b.num)):=
 b4s (ha.2.mono (by omega:j<=j+k)) (hb.1.mono (by omega:k<=j+k)) (by omega)
theorem times_PP:Ev (fun n=>a3a n (⟨(toF a).P.Sign,(toF a).P.Digits⟩:Big) (⟨(toF b).P.Sign,(toF b).P.Digits⟩:Big)) (toB (a.num*b.num)):=
 b4s (ha.1.mono (by omega:j<=j+k)) (hb.1.mono (by omega:k<=j+k)) (by omega)
theorem times_QQ:Ev (fun n=>a3a n (⟨(toF a).Q.Sign,(toF a).Q.Digits⟩:Big) (⟨(toF b).Q.Sign,(toF b).Q.Digits⟩:Big)) (toB ((a.den:Int)*b.den)):=
 b4s (ha.2.mono (by omega:j<=j+k)) (hb.2.mono (by omega:k<=j+k)) (by omega)
end
theorem f1s(b:Rat):toF (-b)=⟨toB (-b.num),toB (b.den:Int)⟩:=rfl
section
variable{a b:Rat}{j k:Nat}(ha:SmF j a)(hb:SmF k b)(hk:j+k<4000000)
include ha hb hk
theorem FAdd_ev:Ev (fun n=>b0v n (toF a) (toF b)) (toF (a+b),0):=by
 have m1:Sm (j+k+1) (a.num*b.den):=(ha.1.mul hb.2).mono (by omega);have m2:Sm (j+k+1) (b.num*a.den):=(hb.1.mul ha.2).mono (by omega);have m3:Sm (j+k+1) ((a.den:Int)*b.den):=(ha.2.mul hb.2).mono (by omega);have m4:Sm (j+k+1) (a.num*b.den+b.num*a.den):=(ha.1.mul hb.2).add ((hb.1.mul ha.2).mono (by omega));unfold b0v;refine Ev.bind (a4f ha (by omega)) ?_;refine Ev.bind (a:=false) (Ev.else rfl (Ev.bind (a4f hb (by omega)) (Ev.pure _))) ?_;refine Ev.else rfl ?_
 refine Ev.bind (a:=(sg (a.num*b.den+b.num*a.den),dig (a.num*b.den+b.num*a.den).natAbs)) ?_ ?_
 ·refine Ev.bind (times_PQ ha hb hk) ?_;refine Ev.bind (times_PQ hb ha (by omega)) ?_;exact Ev.bind (f4w m1 m2 (by omega)) (Ev.pure _)
 refine Ev.bind (times_QQ ha hb hk) ?_;refine Ev.bind (d0i m4 m3 (by omega) (b8r (b0w a) (b0w b))) ((Ev.pure _).eq ?_);rw [d0o]
theorem FMul_ev:Ev (fun n=>b3c n (toF a) (toF b)) (toF (a*b),0):=by
 unfold b3c;refine Ev.bind (a4f ha (by omega)) ?_;refine Ev.bind (a:=false) (Ev.else rfl (Ev.bind (a4f hb (by omega)) (Ev.pure _))) ?_;refine Ev.else rfl ?_
 refine Ev.bind (times_PP ha hb hk) ?_;refine Ev.bind (times_QQ ha hb hk) ?_;refine Ev.bind (d0i (ha.1.mul hb.1) (ha.2.mul hb.2) (by omega) (b8r (b0w a) (b0w b))) ((Ev.pure _).eq ?_);rw [d3t]
theorem FSub_ev:Ev (fun n=>c1f n (toF a) (toF b)) (toF (a-b),0):=by
 unfold c1f;refine Ev.bind (a4f ha (by omega)) ?_;refine Ev.bind (a:=false) (Ev.else rfl (Ev.bind (a4f hb (by omega)) (Ev.pure _))) ?_;refine Ev.else rfl ?_
 refine Ev.bind (c8q hb.1 (by omega)) ?_;have h:=FAdd_ev ha hb.neg hk;rw [f1s,<-Rat.sub_eq_add_neg]at h;exact Ev.bind h (Ev.pure _)
theorem f1t(h0:b.num≠0):Ev (fun n=>c1d n (toF a) (toF b)) (toF (a/b),0):=by
 unfold c1d;refine Ev.bind (a4f ha (by omega)) ?_;refine Ev.bind (a:=false) (Ev.else rfl (Ev.bind (a4f hb (by omega)) (Ev.pure _))) ?_;refine Ev.else rfl ?_
 refine Ev.else (by show(sg b.num==0)=false;rw [b2p];simpa using h0) ?_
 refine Ev.bind (times_PQ ha hb hk) ?_;refine Ev.bind (times_QP ha hb hk) ?_;refine Ev.bind (d0i (ha.1.mul hb.2) (ha.2.mul hb.1) (by omega) (b8r (b0w a) h0)) ((Ev.pure _).eq ?_);rw [d4r]
end
def cmpQ(a b:Rat):Int:=sg (a.num*b.den-b.num*a.den)
theorem e9d{a b:Rat}(h:a<b):cmpQ a b=-1:=by
 have:=Rat.lt_iff a b;exact a3u (by have:=this.1 h;omega)
theorem f2d{a b:Rat}(h:b<a):cmpQ a b=1:=by
 have:=Rat.lt_iff b a;exact a3i (by have:=this.1 h;omega)
theorem e4g(a:Rat):cmpQ a a=0:=by unfold cmpQ;rw [Int.sub_self];rfl
theorem a5i(a b:Rat):(a<b/\cmpQ a b=-1)∨(a=b/\cmpQ a b=0)∨(b<a/\cmpQ a b=1):=by
 by_cases h:a<b
 ·exact .inl ⟨h,e9d h⟩
 by_cases h2:b<a
 ·exact .inr (.inr ⟨h2,f2d h2⟩)
 have e:a=b:=Rat.le_antisymm (Rat.not_lt.1 h2) (Rat.not_lt.1 h);exact .inr (.inl ⟨e,by rw [e];exact e4g b⟩)
section
variable{a b:Rat}{j k:Nat}(ha:SmF j a)(hb:SmF k b)(hk:j+k<4000000)
include ha hb hk
theorem FCompare_ev:Ev (fun n=>a3y n (toF a) (toF b)) (cmpQ a b):=by
 unfold a3y;refine Ev.bind (a4f ha (by omega)) ?_;refine Ev.bind (a:=false) (Ev.else rfl (Ev.bind (a4f hb (by omega)) (Ev.pure _))) ?_;refine Ev.else rfl ?_
 refine Ev.bind (times_PQ ha hb hk) ?_;refine Ev.bind (times_PQ hb ha (by omega)) ?_;exact Ev.bind (d8o (ha.1.mul hb.2) ((hb.1.mul ha.2).mono (by omega)) (by omega)) (Ev.pure _)
theorem c8i(s:Int)(hs:s=1∨s=-1):Ev (fun n=>b0o n (toF a) (toF b) s) (toF (if cmpQ a b*s<0 then b else a),0):=by
 unfold b0o;refine Ev.bind (a4f ha (by omega)) ?_;refine Ev.bind (a:=false) (Ev.else rfl (Ev.bind (a4f hb (by omega)) (Ev.pure _))) ?_;refine Ev.else rfl ?_
 refine Ev.bind (FCompare_ev ha hb hk) ?_;have hr:=c3w (a.num*b.den-b.num*a.den);have e:imul .i64 (cmpQ a b) s=cmpQ a b*s:=by
  have h1:-1<=cmpQ a b:=hr.1;have h2:cmpQ a b<=1:=hr.2;exact a7i (by rcases hs with rfl|rfl<;>omega) (by rcases hs with rfl|rfl<;>omega)
 rw [e]
 by_cases h:cmpQ a b*s<0
 ·rw [if_pos h];refine Ev.bind (Ev.then (decide_eq_true h) (Ev.pure _)) ?_;exact Ev.bind (c6d hb.1 (by omega)) (Ev.bind (c6d hb.2 (by omega)) (Ev.pure _))
 rw [if_neg h];refine Ev.bind (Ev.else (decide_eq_false h) (Ev.pure _)) ?_;exact Ev.bind (c6d ha.1 (by omega)) (Ev.bind (c6d ha.2 (by omega)) (Ev.pure _))
theorem FMin_ev:Ev (fun n=>c1i n (toF a) (toF b)) (toF (if b<a then b else a),0):=by
 unfold c1i;refine Ev.bind (c8i ha hb hk (-1) (.inr rfl)) ((Ev.pure _).eq ?_);rcases a5i a b with⟨h,e⟩|⟨h,e⟩|⟨h,e⟩
 ·rw [e,if_neg (by decide),if_neg (by grind)]
 ·rw [e,if_neg (by decide),if_neg (by grind)]
 rw [e,if_pos (by decide),if_pos h]
theorem FMax_ev:Ev (fun n=>b5h n (toF a) (toF b)) (toF (if a<b then b else a),0):=by
 unfold b5h;refine Ev.bind (c8i ha hb hk 1 (.inl rfl)) ((Ev.pure _).eq ?_);rcases a5i a b with⟨h,e⟩|⟨h,e⟩|⟨h,e⟩
 ·rw [e,if_pos (by decide),if_pos h]
 ·rw [e,if_neg (by decide),if_neg (by grind)]
 rw [e,if_neg (by decide),if_neg (by grind)]
end
section
variable{a:Rat}{k:Nat}(ha:SmF k a)(hk:k<4000000)
include ha hk
theorem FNeg_ev:Ev (fun n=>c0u n (toF a)) (toF (-a)):=by
 unfold c0u;refine Ev.bind (a4f ha (by omega)) (Ev.else rfl ?_);exact Ev.bind (c8q ha.1 (by omega)) (Ev.bind (c6d ha.2 (by omega)) (Ev.pure _))
theorem FSign_ev:Ev (fun n=>b2t n (toF a)) (sg a.num):=by
 unfold b2t;exact Ev.bind (a4f ha (by omega)) (Ev.else rfl (Ev.pure _))
end
theorem b6f{x:Int}(h1:-9223372036854775808<=x)(h2:x<=9223372036854775807):Ev (fun n=>a3g n x) (toF (x:Rat)):=by
 unfold a3g;refine Ev.bind (f0l h1 h2) (Ev.bind Of1_ev ((Ev.pure _).eq ?_));unfold toF;rw [Rat.num_intCast,Rat.den_intCast];rfl
theorem d1y{f g:Frac}(hp:f.P.Digits.length<1099511627776)(hq:f.Q.Digits.length<1099511627776):Ev (fun n=>a4c n f g) (decide (f=g)):=by
 unfold a4c;refine Ev.bind (d5j (a:=f.P) (b:=g.P) hp) ?_;obtain⟨P,Q⟩:=f;obtain⟨P',Q'⟩:=g;refine Ev.bind (a:=decide ((⟨P,Q⟩:Frac)=⟨P',Q'⟩)) ?_ (Ev.pure _)
 by_cases h:P=P'
 ·subst h;refine Ev.then (by simp) (Ev.bind (d5j (a:=Q) (b:=Q') hq) ((Ev.pure _).eq (by simp)))
 exact Ev.else (by simpa using h) ((Ev.pure _).eq (by simp [h]))
theorem f1e{a b:Rat}(h:toF a=toF b):a=b:=by
 unfold toF at h;injection h with h1 h2
 exact Rat.ext (d4m h1) (by have:=d4m h2;omega)
theorem d8j{a b:Rat}{k:Nat}(h:SmF k a)(hk:k<4000000):Ev (fun n=>a4c n (toF a) (toF b)) (decide (a=b)):=by
 have:=b3n h;refine(d1y (f:=toF a) (g:=toF b) (by omega) (by omega)).eq ?_
 by_cases e:a=b
 ·simp [e]
 have:toF a≠toF b:=fun h=>e (f1e h);simp [e,this]
theorem c8b{a b:Rat}{k:Nat}(h:SmF k a)(hk:k<4000000)(e:a=b):Ev (fun n=>a4c n (toF a) (toF b)) true:=(d8j h hk).eq (by simp [e])
theorem e8z(f:Frac)(k:Int):Ev (fun n=>a8p n f k) (decide ((f.P.Digits.length:Int)<=k)&&decide ((f.Q.Digits.length:Int)<=k)):=by
 refine Ev.all fun n=> ?_;unfold a8p;cases decide ((f.P.Digits.length:Int)<=k)<;>rfl
theorem c5g{f:Frac}{k:Nat}(h:(decide ((f.P.Digits.length:Int)<=k)&&decide ((f.Q.Digits.length:Int)<=k))=true):f.P.Digits.length<=k/\f.Q.Digits.length<=k:=by
 simpa using h
theorem d7g{f:Frac}{k:Nat}(h:f.P.Digits.length<=k/\f.Q.Digits.length<=k)(hr:a4x f=true):∃r,f=toF r/\SmF k r:=by
 obtain⟨r,rfl⟩:=c0r hr;exact⟨r,rfl,a6w h.1,a6w h.2⟩
theorem sm01{k:Nat}{x:Int}(h:-1048576<x)(h2:x<1048576)(hk:1<=k):Sm k x:=Sm.mono (k:=1) (by unfold Sm;rw [show pw 1=1048576 by decide];omega) hk
theorem c4z{k:Nat}{x:Int}(h:Sm k x)(hk:1<=k):SmF k (x:Rat):=⟨by rw [Rat.num_intCast];exact h,by rw [Rat.den_intCast];exact sm01 (by decide) (by decide) hk⟩
theorem e0z(a b:Rat):(cmpQ a b==0)=decide (a=b):=by
 rcases a5i a b with⟨h,e⟩|⟨h,e⟩|⟨h,e⟩<;>rw [e]
 ·rw [decide_eq_false (by grind)];rfl
 ·rw [decide_eq_true h];rfl
 rw [decide_eq_false (by grind)];rfl
theorem e7y(r:Rat):sg r.num=cmpQ r 0:=by
 unfold cmpQ
 congr 1
 show r.num=r.num*1-0*r.den;omega
theorem d7o(z:Int):Rat.divInt z 1=(z:Rat):=by
 obtain⟨e1,e2⟩:=b4f (p:=z) (q:=1) (by decide);rw [show(1:Int).natAbs=1 from rfl,Nat.gcd_one_right]at e1 e2;refine Rat.ext ?_ ?_
 ·rw [e1,Rat.num_intCast];exact Int.ediv_one z
 rw [Rat.den_intCast];have:((Rat.divInt z 1).den:Int)=1:=by rw [e2];rfl
 omega
end D
namespace Fe
open Go Rt M Ta Tp D
structure Env where
 lf:Rt.Bs->Int
 wf:Rt.Bs->Rat
 pers:Int
 flats:Int
def two(o:Int)(a b:Rat):Rat:= if o=5 then a+b else if o=6 then a-b else if o=7 then a*b else if o=8 then a/b else if o=9 then(if b<a then b else a)else if o=10 then(if a<b then b else a)else 0
def rel(o:Int)(a b:Rat×Bool):Bool:= if o=12 then decide (a.1<b.1)else if o=13 then decide (a.1=b.1)else if o=15 then a.2&&b.2 else a.2||b.2
def d4a(E:Env)(o n:Int)(s:Rt.Bs):List (Rat×Bool)->Rat×Bool | []=>(if o=0 then(n:Rat)else if o=1 then(E.lf s:Rat)else if o=2 then(E.pers:Rat)else if o=3 then(E.flats:Rat)else E.wf s,false) | [c]=>(0, !c.2) | [a,b]=>(two o a.1 b.1,rel o a b) |c::a::b::_=>(if c.2=true then a.1 else b.1,false)
mutual
def vl(E:Env):M.Expr->Rat×Bool |⟨o,n,s,l⟩=>d4a E o n s (vls E l)
def vls(E:Env):List M.Expr->List (Rat×Bool) | []=> [] |x::l=>vl E x::vls E l end
def num(E:Env)(x:M.Expr):Rat:=(vl E x).1
def tru(E:Env)(x:M.Expr):Bool:=(vl E x).2
section
variable(E:Env)(n:Int)(s:Rt.Bs)(o:Int)(a b c:M.Expr)
theorem num_num:num E ⟨0,n,s,[]⟩=(n:Rat):=rfl
theorem num_lifts:num E ⟨1,n,s,[]⟩=(E.lf s:Rat):=rfl
theorem num_pers:num E ⟨2,n,s,[]⟩=(E.pers:Rat):=rfl
theorem num_flats:num E ⟨3,n,s,[]⟩=(E.flats:Rat):=rfl
theorem num_wgt:num E ⟨4,n,s,[]⟩=E.wf s:=rfl
theorem num_two:num E ⟨o,n,s,[a,b]⟩=two o (num E a) (num E b):=rfl
theorem tru_not:tru E ⟨o,n,s,[a]⟩= !tru E a:=rfl
theorem tru_two:tru E ⟨o,n,s,[a,b]⟩=rel o (vl E a) (vl E b):=rfl
theorem num_ite:num E ⟨o,n,s,[c,a,b]⟩=if tru E c=true then num E a else num E b:=rfl
end
theorem f0n(a b:Rat):two 6 a b=a-b:=rfl
theorem d9c(a b:Rat):two 7 a b=a*b:=rfl
theorem e9t(a b:Rat):two 8 a b=a/b:=rfl
theorem d9m(a b:Rat):two 9 a b=if b<a then b else a:=rfl
theorem e3i(a b:Rat):two 10 a b=if a<b then b else a:=rfl
theorem c4d(a b:Rat×Bool):rel 12 a b=decide (a.1<b.1):=rfl
theorem d6v(a b:Rat×Bool):rel 13 a b=decide (a.1=b.1):=rfl
def look{α:Type}(nz:List Rt.Bs)(l:List α)(d:α)(s:Rt.Bs):α:=(l[nz.idxOf s]?).getD d
theorem c4u{α:Type}{nz:List Rt.Bs}{l:List α}(d:α){s:Rt.Bs}(hs:s∈nz)(hl:nz.length=l.length):ix l ((nz.idxOf s:Nat):Int)=some (look nz l d s):=by
 have h:nz.idxOf s<l.length:=by rw [<-hl];exact List.idxOf_lt_length_of_mem hs
 unfold look;rw [a9n,List.getElem?_eq_getElem h];rfl
theorem d0a{α:Type}{nz:List Rt.Bs}{l:List α}(d:α){s:Rt.Bs}(hs:s∈nz)(hl:nz.length=l.length):look nz l d s∈l:=by
 have h:nz.idxOf s<l.length:=by rw [<-hl];exact List.idxOf_lt_length_of_mem hs
 unfold look;rw [List.getElem?_eq_getElem h];exact List.getElem_mem h
theorem d5m{α β:Type}{nz:List Rt.Bs}{l:List α}(f:α->β)(d:α)(e:β){s:Rt.Bs}(hs:s∈nz)(hl:nz.length=l.length):look nz (l.map f) e s=f (look nz l d s):=by
 have h:nz.idxOf s<l.length:=by rw [<-hl];exact List.idxOf_lt_length_of_mem hs
 unfold look;rw [List.getElem?_map,List.getElem?_eq_getElem h];rfl
def mkE(nz:List Rt.Bs)(f:Facts)(ws:List Rat):Env:=⟨look nz f.Lifts 0,look nz ws 0,f.Persons,f.Flats⟩
theorem d7i{l:List Rt.Bs}(s:Rt.Bs)(hl:l.length<4611686018427387904):Ev (fun n=>a0k n l s) (if s∈l then((l.idxOf s:Nat):Int)else-1):=by
 refine⟨l.length+1,fun n hn=> ?_⟩;unfold a0k;dsimp only;have h:slices_Index_string_string_L1 n l s (some (-1)) n 0=_:=d3w n l s hl l 0 n rfl (by omega);rw [h];simp only [Nat.zero_add]
theorem e5k{j k:Nat}{a b:Rat}(ha:SmF j a)(hb:SmF k b)(h0:b.num≠0):SmF (j+k) (a/b):=by
 rw [d4r];refine c1u ?_ ?_ (b8r (b0w a) h0)
 ·exact ha.1.mul hb.2
 exact ha.2.mul hb.1
theorem f5p{j k:Nat}{a b:Rat}(ha:SmF j a)(hb:SmF k b){o:Int}(ho:o=8->b.num≠0)(h0:o=5∨o=6∨o=7∨o=8∨o=9∨o=10):SmF (j+k+1) (two o a b):=by
 rcases h0 with rfl|rfl|rfl|rfl|rfl|rfl
 ·exact ha.add hb
 ·exact ha.sub hb
 ·exact(ha.mul hb).mono (by omega)
 ·exact(e5k ha hb (ho rfl)).mono (by omega)
 ·rw [d9m];split
  ·exact hb.mono (by omega)
  exact ha.mono (by omega)
 rw [e3i];split
 ·exact hb.mono (by omega)
 exact ha.mono (by omega)
theorem e9r{j k:Nat}{a b:Rat}(ha:SmF j a)(hb:SmF k b)(hk:j+k<4000000){o:Int}(ho:o=8->b.num≠0)(h0:o=5∨o=6∨o=7∨o=8∨o=9∨o=10):Ev (fun n=>a9u n o (toF a) (toF b)) (toF (two o a b)):=by
 unfold a9u;rcases h0 with rfl|rfl|rfl|rfl|rfl|rfl
 ·exact Ev.then rfl (Ev.bind (FAdd_ev ha hb hk) (Ev.pure _))
 ·exact Ev.else rfl (Ev.then rfl (Ev.bind (FSub_ev ha hb hk) (Ev.pure _)))
 ·exact Ev.else rfl (Ev.else rfl (Ev.then rfl (Ev.bind (FMul_ev ha hb hk) (Ev.pure _))))
 ·exact Ev.else rfl (Ev.else rfl (Ev.else rfl (Ev.then rfl (Ev.bind (f1t ha hb hk (ho rfl)) (Ev.pure _)))))
 ·exact Ev.else rfl (Ev.else rfl (Ev.else rfl (Ev.else rfl (Ev.then rfl (Ev.bind (FMin_ev ha hb hk) (Ev.pure _))))))
 exact Ev.else rfl (Ev.else rfl (Ev.else rfl (Ev.else rfl (Ev.else rfl (Ev.then rfl (Ev.bind (FMax_ev ha hb hk) (Ev.pure _)))))))
theorem smI{x:Int}(h1:-9223372036854775808<=x)(h2:x<=9223372036854775807){k:Nat}(hk:4<=k):SmF k (x:Rat):=by
 refine c4z (Sm.mono (k:=4) ?_ hk) (by omega);exact a6w (d1m (by omega))
structure RF(nz:List Rt.Bs)(f:Facts)(ws:List Rat):Prop where
 hl:f.Lifts.length=nz.length
 hw:ws.length=nz.length
 p1:0<=f.Persons
 p2:f.Persons<=1000
 f1:0<=f.Flats
 f2:f.Flats<=1000
 l1:∀n,n∈f.Lifts->0<=n/\n<=200
 w1:∀w,w∈ws->0<=w
def K(nz:List Rt.Bs)(f:Facts)(ws:List Rat):known:=⟨nz,f,ws.map toF⟩
theorem wadd(W a b:Nat):W*(a+b+1)=W*a+W*b+W:=by rw [Nat.mul_add,Nat.mul_add,Nat.mul_one]
theorem wle{W a:Nat}(hW:W<=30)(ha:a<=1000):W*a<=30000:=by
 have:=Nat.mul_le_mul hW ha;omega
section
variable{nz:List Rt.Bs}{f:Facts}{ws:List Rat}{W:Nat}
variable(hf:RF nz f ws)(hW:4<=W)(hW2:W<=30)(hw:∀w,w∈ws->SmF W w)(hn:nz.length<4611686018427387904)
include hf hW hW2 hw hn
theorem e3o{x:M.Expr}{k:Int}(ht:Typ nz x k):cnt x<=1000->
 (k≠0->SmF (W*cnt x) (num (mkE nz f ws) x)/\Ev (fun n=>fee_known_number n (K nz f ws) x) (toF (num (mkE nz f ws) x)))/\
 (k=0->Ev (fun n=>fee_known_truth n (K nz f ws) x) (tru (mkE nz f ws) x)):=by
 have hix:∀s,Ev (fun n=>a0k n (K nz f ws).nz s) (if s∈nz then((nz.idxOf s:Nat):Int)else-1):=fun s=>d7i s hn;have leafW:∀(o n:Int)(s:Rt.Bs),W*cnt ⟨o,n,s,[]⟩=W:=fun o n s=>by show W*1=W;omega
 have c2:∀(o n:Int)(s:Rt.Bs)(a b:M.Expr),cnt ⟨o,n,s,[a,b]⟩=cnt a+cnt b+1:=fun o n s a b=>by show cnt a+(cnt b+0)+1=_;omega
 have ari:∀{o p q r:Int}{a b:M.Expr},(o=5∨o=6∨o=7∨o=8∨o=9∨o=10)->p≠0->q≠0->r≠0->(o=8->(num (mkE nz f ws) b).num≠0)->
  (cnt a<=1000->(p≠0->SmF (W*cnt a) (num (mkE nz f ws) a)/\Ev (fun n=>fee_known_number n (K nz f ws) a) (toF (num (mkE nz f ws) a)))/\(p=0->Ev (fun n=>fee_known_truth n (K nz f ws) a) (tru (mkE nz f ws) a)))->
  (cnt b<=1000->(q≠0->SmF (W*cnt b) (num (mkE nz f ws) b)/\Ev (fun n=>fee_known_number n (K nz f ws) b) (toF (num (mkE nz f ws) b)))/\(q=0->Ev (fun n=>fee_known_truth n (K nz f ws) b) (tru (mkE nz f ws) b)))->
  cnt ⟨o,0,[],[a,b]⟩<=1000->
  (r≠0->SmF (W*cnt ⟨o,0,[],[a,b]⟩) (num (mkE nz f ws) ⟨o,0,[],[a,b]⟩)/\Ev (fun n=>fee_known_number n (K nz f ws) ⟨o,0,[],[a,b]⟩) (toF (num (mkE nz f ws) ⟨o,0,[],[a,b]⟩)))/\
  (r=0->Ev (fun n=>fee_known_truth n (K nz f ws) ⟨o,0,[],[a,b]⟩) (tru (mkE nz f ws) ⟨o,0,[],[a,b]⟩)):=by
  intro o p q r a b ho hp hq hr h8 iha ihb hc;rw [c2]at hc;obtain⟨sa,ea⟩:=(iha (by omega)).1 hp;obtain⟨sb,eb⟩:=(ihb (by omega)).1 hq;have wa:=wle hW2 (show cnt a<=1000 by omega);have wb:=wle hW2 (show cnt b<=1000 by omega);refine⟨fun _=>⟨?_,?_⟩,fun h=>absurd h hr⟩
  ·rw [c2,wadd,num_two];exact(f5p sa sb h8 ho).mono (by omega)
  rw [num_two];refine Ev.suc (fun n=>fee_known_number_s _ _ n) ?_;refine Ev.bind (hix _) ?_;have e:∀k:Int,(k=0∨k=1∨k=2∨k=3∨k=4∨k=11)->(o==k)=false:=fun k hk=>by rw [beq_eq_false_iff_ne];omega
  refine Ev.else (e 0 (by decide)) (Ev.else (e 1 (by decide)) (Ev.else (e 2 (by decide)) (Ev.else (e 3 (by decide)) (Ev.else (e 4 (by decide)) (Ev.else (e 11 (by decide)) ?_)))))
  refine Ev.step (a:=a) rfl (Ev.step (a:=b) rfl ?_);exact Ev.bind ea (Ev.bind eb (Ev.bind (e9r sa sb (by omega) h8 ho) (Ev.pure _)))
 induction ht with
 | @num m h0 h1=>
   intro _;refine⟨fun _=>⟨?_,?_⟩,fun h=>by cases h⟩
   ·rw [leafW,num_num];exact smI (by omega) (by omega) hW
   refine Ev.suc (fun n=>fee_known_number_s _ _ n) (Ev.bind (hix _) (Ev.then rfl ?_));exact Ev.bind (b6f (x:=m) (by omega) (by omega)) (Ev.pure _)
 | @lifts s _ hs=>
   intro _;have h5:=hf.l1 _ (d0a (0:Int) hs hf.hl.symm);refine⟨fun _=>⟨?_,?_⟩,fun h=>by cases h⟩
   ·rw [leafW,num_lifts];exact smI (show _<=look nz f.Lifts 0 s by omega) (show look nz f.Lifts 0 s<=_ by omega) hW
   refine Ev.suc (fun n=>fee_known_number_s _ _ n) (Ev.bind (hix _) (Ev.else rfl (Ev.then rfl ?_)));refine Ev.step (a:=look nz f.Lifts 0 s) (by rw [if_pos hs];exact c4u 0 hs hf.hl.symm) ?_;exact Ev.bind (b6f (x:=look nz f.Lifts 0 s) (by omega) (by omega)) (Ev.pure _)
 |pers=>
  intro _;have h1:=hf.p1;have h2:=hf.p2;refine⟨fun _=>⟨?_,?_⟩,fun h=>by cases h⟩
  ·rw [leafW,num_pers];exact smI (show _<=f.Persons by omega) (show f.Persons<=_ by omega) hW
  refine Ev.suc (fun n=>fee_known_number_s _ _ n) (Ev.bind (hix _) (Ev.else rfl (Ev.else rfl (Ev.then rfl ?_))));exact Ev.bind (b6f (x:=f.Persons) (by omega) (by omega)) (Ev.pure _)
 |flats=>
  intro _;have h1:=hf.f1;have h2:=hf.f2;refine⟨fun _=>⟨?_,?_⟩,fun h=>by cases h⟩
  ·rw [leafW,num_flats];exact smI (show _<=f.Flats by omega) (show f.Flats<=_ by omega) hW
  refine Ev.suc (fun n=>fee_known_number_s _ _ n) (Ev.bind (hix _) (Ev.else rfl (Ev.else rfl (Ev.else rfl (Ev.then rfl ?_)))));exact Ev.bind (b6f (x:=f.Flats) (by omega) (by omega)) (Ev.pure _)
 | @wgt s _ hs=>
   intro _;refine⟨fun _=>⟨?_,?_⟩,fun h=>by cases h⟩
   ·rw [leafW,num_wgt];exact hw _ (d0a 0 hs hf.hw.symm)
   refine Ev.suc (fun n=>fee_known_number_s _ _ n) (Ev.bind (hix _) (Ev.else rfl (Ev.else rfl (Ev.else rfl (Ev.else rfl (Ev.then rfl ?_))))));refine Ev.step (a:=toF (look nz ws 0 s)) ?_ (Ev.pure _);rw [if_pos hs,<-d5m toF 0 (toF 0) hs hf.hw.symm];exact c4u (toF 0) hs (by show _=(ws.map toF).length;rw [List.length_map];exact hf.hw.symm)
 | @ari o a b p q ho _ _ hp hq iha ihb=>
   exact ari (by omega) hp hq (d8c p q) (fun h=>by omega) iha ihb
 | @mul a b p q _ _ hp hq _ iha ihb=>
   exact ari (by omega) hp hq (d8c p q) (fun h=>by omega) iha ihb
 | @div a m p _ hp h1 h2 iha=>
   refine ari (q:=1) (by omega) hp (by decide) hp (fun _=> ?_) iha ?_
   ·rw [num_num,Rat.num_intCast];omega
   intro _;refine⟨fun _=>⟨?_,?_⟩,fun h=>by cases h⟩
   ·rw [leafW,num_num];exact smI (by omega) (by omega) hW
   refine Ev.suc (fun n=>fee_known_number_s _ _ n) (Ev.bind (hix _) (Ev.then rfl ?_));exact Ev.bind (b6f (x:=m) (by omega) (by omega)) (Ev.pure _)
 | @ite c a b p q _ _ _ hp hq ihc iha ihb=>
   intro hc;have hc3:cnt ⟨11,0,[],[c,a,b]⟩=cnt c+cnt a+cnt b+1:=by show cnt c+(cnt a+(cnt b+0))+1=_;omega
   rw [hc3]at hc;have ec:=(ihc (by omega)).2 rfl;obtain⟨sa,ea⟩:=(iha (by omega)).1 hp;obtain⟨sb,eb⟩:=(ihb (by omega)).1 hq;refine⟨fun _=>⟨?_,?_⟩,fun h=>absurd h (d8c p q)⟩
   ·rw [num_ite,hc3];have h5:W*cnt a<=W*(cnt c+cnt a+cnt b+1):=Nat.mul_le_mul_left _ (by omega);have h6:W*cnt b<=W*(cnt c+cnt a+cnt b+1):=Nat.mul_le_mul_left _ (by omega);split
    ·exact sa.mono h5
    exact sb.mono h6
   rw [num_ite];refine Ev.suc (fun n=>fee_known_number_s _ _ n) (Ev.bind (hix _) (Ev.else rfl (Ev.else rfl (Ev.else rfl (Ev.else rfl (Ev.else rfl (Ev.then rfl ?_)))))));refine Ev.step (a:=c) rfl (Ev.bind ec ?_);cases tru (mkE nz f ws) c with
   |true=>exact Ev.then rfl (Ev.step (a:=a) rfl (Ev.bind ea (Ev.pure _)))
   |false=>exact Ev.else rfl (Ev.step (a:=b) rfl (Ev.bind eb (Ev.pure _)))
 | @rel o a b ho _ _ iha ihb=>
   intro hc;rw [c2]at hc;obtain⟨sa,ea⟩:=(iha (by omega)).1 (by decide);obtain⟨sb,eb⟩:=(ihb (by omega)).1 (by decide);have wa:=wle hW2 (show cnt a<=1000 by omega);have wb:=wle hW2 (show cnt b<=1000 by omega);refine⟨fun h=>absurd rfl h,fun _=> ?_⟩;rw [tru_two];have e:∀k:Int,(k=14∨k=15∨k=16)->(o==k)=false:=fun k hk=>by rw [beq_eq_false_iff_ne];omega
   refine Ev.suc (fun n=>fee_known_truth_s _ _ n) (Ev.else (e 14 (by decide)) (Ev.else (e 15 (by decide)) (Ev.else (e 16 (by decide)) ?_)));refine Ev.step (a:=a) rfl (Ev.step (a:=b) rfl (Ev.bind ea (Ev.bind eb (Ev.bind (FCompare_ev sa sb (by omega)) ?_))));rcases a5i (num (mkE nz f ws) a) (num (mkE nz f ws) b)with⟨h1,h2⟩|⟨h1,h2⟩|⟨h1,h2⟩
   ·rw [h2];rcases ho with rfl|rfl
    ·exact Ev.then rfl ((Ev.pure _).eq (by rw [c4d];exact(decide_eq_true h1).symm))
    exact Ev.else rfl ((Ev.pure _).eq (by rw [d6v];exact(decide_eq_false (Rat.ne_of_lt h1)).symm))
   ·rw [h2];rcases ho with rfl|rfl
    ·exact Ev.then rfl ((Ev.pure _).eq (by rw [c4d];exact(decide_eq_false (by show¬(num (mkE nz f ws) a<_);rw [h1];exact Rat.lt_irrefl)).symm))
    exact Ev.else rfl ((Ev.pure _).eq (by rw [d6v];exact(decide_eq_true h1).symm))
   rw [h2];rcases ho with rfl|rfl
   ·exact Ev.then rfl ((Ev.pure _).eq (by rw [c4d];exact(decide_eq_false (Rat.not_lt.2 (Rat.le_of_lt h1))).symm))
   exact Ev.else rfl ((Ev.pure _).eq (by rw [d6v];exact(decide_eq_false (fun h=>Rat.ne_of_lt h1 h.symm)).symm))
 | @not a _ iha=>
   intro hc;have h1:cnt ⟨14,0,[],[a]⟩=cnt a+0+1:=rfl;refine⟨fun h=>absurd rfl h,fun _=> ?_⟩;rw [tru_not];refine Ev.suc (fun n=>fee_known_truth_s _ _ n) (Ev.then rfl ?_);exact Ev.step (a:=a) rfl (Ev.bind ((iha (by omega)).2 rfl) (Ev.pure _))
 | @bin o a b ho _ _ iha ihb=>
   intro hc;rw [c2]at hc;have ea:=(iha (by omega)).2 rfl;have eb:=(ihb (by omega)).2 rfl;refine⟨fun h=>absurd rfl h,fun _=> ?_⟩;rw [tru_two];rcases ho with rfl|rfl
   ·refine Ev.suc (fun n=>fee_known_truth_s _ _ n) (Ev.else rfl (Ev.then rfl ?_));refine Ev.step (a:=a) rfl (Ev.bind ea ?_);show Ev _ (tru (mkE nz f ws) a&&tru (mkE nz f ws) b);cases tru (mkE nz f ws) a with
    |true=>exact Ev.bind (Ev.then rfl (Ev.step (a:=b) rfl (Ev.bind eb (Ev.pure _)))) (Ev.pure _)
    |false=>exact Ev.bind (Ev.else rfl (Ev.pure _)) (Ev.pure _)
   refine Ev.suc (fun n=>fee_known_truth_s _ _ n) (Ev.else rfl (Ev.else rfl (Ev.then rfl ?_)));refine Ev.step (a:=a) rfl (Ev.bind ea ?_);show Ev _ (tru (mkE nz f ws) a||tru (mkE nz f ws) b);cases tru (mkE nz f ws) a with
   |true=>exact Ev.bind (Ev.then rfl (Ev.pure _)) (Ev.pure _)
   |false=>exact Ev.bind (Ev.else rfl (Ev.step (a:=b) rfl (Ev.bind eb (Ev.pure _)))) (Ev.pure _)
theorem d9q{x:M.Expr}{k:Int}(ht:Typ nz x k)(hk:k≠0)(hc:cnt x<=1000):Ev (fun n=>fee_known_number n (K nz f ws) x) (toF (num (mkE nz f ws) x)):=((e3o hf hW hW2 hw hn ht hc).1 hk).2
theorem b3u{x:M.Expr}{k:Int}(ht:Typ nz x k)(hk:k≠0)(hc:cnt x<=1000):SmF (W*cnt x) (num (mkE nz f ws) x):=((e3o hf hW hW2 hw hn ht hc).1 hk).1
end
end Fe
namespace Lx
open Rt M Go
theorem c8a(n:Nat)(c:UInt8):a9k n (c.toNat:Int)=some (isLetter c):=
 of_decide_eq_true (c0a (p:=fun c=>decide (a9k 0 (c.toNat:Int)=some (isLetter c))) (by decide+kernel) c)
theorem e0h(n:Nat)(c:UInt8):b2o n (c.toNat:Int)=some (b9g c):=
 of_decide_eq_true (c0a (p:=fun c=>decide (b2o 0 (c.toNat:Int)=some (b9g c))) (by decide+kernel) c)
theorem c7w{s:Rt.Bs}(hs:s.length<=1000000){n:Nat}:
 ∀{r:Rt.Bs}{i m:Nat},s.drop i=r->i<=s.length->r.length<m->ref06_Name_L1 n s (some true) m (i:Int)=some (decide (c0k b1x r=r.length))
 | [],i,m+1,h,hi,_=>by
  have:=drop_nil h hi;rw [ref06_Name_L1_s];simp [this,c0k]
 |c::r,i,m+1,h,hi,hm=>by
  have h1:=d6b h;simp only [List.length_cons]at hm;have e:(bif(bif !isLetter c then !b9g c else false)then(c.toNat:Int) !=95 else false)= !b1x c:=
   of_decide_eq_true (c0a (p:=fun c=>decide ((bif(bif !isLetter c then !b9g c else false)then(c.toNat:Int) !=95 else false)= !b1x c)) (by decide+kernel) c)
  have e2:((bif !isLetter c then some (!b9g c)else some false).bind fun v4=>(bif v4 then some ((c.toNat:Int) !=95)else some false))=some (!b1x c):=by
   rw [<-e];cases isLetter c<;>cases b9g c<;>rfl
  rw [ref06_Name_L1_s,c1e h,decide_eq_true (by omega)];simp only [cond_true,b_s,c8a,e0h];rw [<-Option.bind_assoc,e2,b_s];cases hp:b1x c
  ·simp [c0k,hp]
  rw [Bool.not_true,cond_false,d2a _ (by omega),c7w hs (c5j h) (by omega) (by omega)];simp [c0k,hp]
theorem rname_eq{s:Rt.Bs}(hs:s.length<=1000000){n:Nat}(hn:s.length<n):a7e n s=some (name s):=by
 cases hs0:s with
 |nil=>rfl
 |cons c r=>
  have h2:1<=s.length:=by rw [hs0];simp
  have h3:s.drop 0=c::r:=hs0;have h4:s.drop 1=r:=c5j h3;have h5:s.length=r.length+1:=by rw [hs0];simp
  have h6:=c1e h3;simp only [Int.natCast_zero]at h6;have h7:=c7w hs (n:=n) (r:=r) (i:=1) (m:=n) h4 h2 (by omega);rw [<-hs0,a7e,decide_eq_false (show¬(s.length:Int)<1 by omega),h6];simp only [cond_false,b_s,c8a];have h8:name s=(isLetter c&&(decide (s.length<=20)&&decide (c0k b1x r=r.length))):=by
   rw [name,hs0];cases hl:isLetter c
   ·simp [hl]
   simp only [List.isEmpty_cons,Bool.not_false,List.headD_cons,hl,Bool.true_and,c0k,d2c hl,cond_true,List.length_cons]
   congr 1
   rw [Bool.eq_iff_iff];simp
  rw [h8]
  by_cases h9:s.length<=20
  ·rw [decide_eq_false (show¬(20:Int)<s.length by omega),decide_eq_true h9];simp only [cond_false,b_s];cases isLetter c
   ·rfl
   simp only [Bool.not_true,cond_false,Bool.true_and];exact h7
  rw [decide_eq_true (show(20:Int)<s.length by omega),decide_eq_false h9];simp
end Lx
namespace Ta
open Go Rt M
def T2{α β:Type}(Q:α->β->Prop)(f:Nat->Option α)(g:Nat->Option β):Prop:=∃a b,Ev f a/\Ev g b/\Q a b
section
variable{α β γ δ:Type}{P:α->β->Prop}{Q:γ->δ->Prop}
theorem T2.pure{a:γ}{b:δ}(h:Q a b):T2 Q (fun _=>some a) (fun _=>some b):=⟨a,b,Ev.pure a,Ev.pure b,h⟩
theorem T2.bind{x:Nat->Option α}{y:Nat->Option β}{f:Nat->α->Option γ}{g:Nat->β->Option δ}(h:T2 P x y)(k:∀a b,P a b->T2 Q (fun n=>f n a) (fun n=>g n b)):T2 Q (fun n=>(x n).bind (f n)) (fun n=>(y n).bind (g n)):=by
 obtain⟨a,b,h1,h2,h3⟩:=h;obtain⟨c,d,h4,h5,h6⟩:=k a b h3;exact⟨c,d,Ev.bind h1 h4,Ev.bind h2 h5,h6⟩
theorem T2.l{x:Nat->Option α}{a:α}{f:Nat->α->Option γ}{g:Nat->Option δ}(h:Ev x a)(k:T2 Q (fun n=>f n a) g):T2 Q (fun n=>(x n).bind (f n)) g:=by
 obtain⟨c,d,h4,h5,h6⟩:=k;exact⟨c,d,Ev.bind h h4,h5,h6⟩
theorem T2.r{y:Nat->Option β}{b:β}{f:Nat->Option γ}{g:Nat->β->Option δ}(h:Ev y b)(k:T2 Q f (fun n=>g n b)):T2 Q f (fun n=>(y n).bind (g n)):=by
 obtain⟨c,d,h4,h5,h6⟩:=k;exact⟨c,d,h4,Ev.bind h h5,h6⟩
theorem T2.bif{c:Bool}{x x':Nat->Option γ}{y y':Nat->Option δ}(h1:c=true->T2 Q x y)(h2:c=false->T2 Q x' y'):T2 Q (fun n=>bif c then x n else x' n) (fun n=>bif c then y n else y' n):=by
 cases c
 ·exact h2 rfl
 exact h1 rfl
theorem T2.lt{c:Bool}{x x':Nat->Option γ}{g:Nat->Option δ}(hc:c=true)(h:T2 Q x g):T2 Q (fun n=>bif c then x n else x' n) g:=by subst hc;exact h
theorem T2.lf{c:Bool}{x x':Nat->Option γ}{g:Nat->Option δ}(hc:c=false)(h:T2 Q x' g):T2 Q (fun n=>bif c then x n else x' n) g:=by subst hc;exact h
theorem T2.suc{f f':Nat->Option γ}{g g':Nat->Option δ}(e:∀n,f (n+1)=f' n)(e':∀n,g (n+1)=g' n)(h:T2 Q f' g'):T2 Q f g:=by
 obtain⟨c,d,h4,h5,h6⟩:=h;exact⟨c,d,Ev.suc e h4,Ev.suc e' h5,h6⟩
theorem T2.weak{Q':γ->δ->Prop}{f:Nat->Option γ}{g:Nat->Option δ}(h:T2 Q f g)(k:∀a b,Q a b->Q' a b):T2 Q' f g:=by
 obtain⟨c,d,h4,h5,h6⟩:=h;exact⟨c,d,h4,h5,k c d h6⟩
end
theorem c8z(s:Rt.Bs):Ev (fun n=>a7e n s) (Lx.name s):=by
 refine⟨21,fun n hn=> ?_⟩
 by_cases h:s.length<=20
 ·exact Lx.rname_eq (by omega) (by omega)
 have h2:Lx.name s=false:=by unfold Lx.name;rw [decide_eq_false h];simp
 rw [h2];unfold a7e;dsimp only;rw [decide_eq_false (show¬(s.length:Int)<1 by omega),decide_eq_true (show(20:Int)<(s.length:Int) by omega)];rfl
theorem d6t(n:Nat)(l:List Rt.Bs)(i:Nat)(x:Rt.Bs)(hx:ix l (i:Int)=some x)(kont:Option Bool)(hi:i<=1000000):∀(us:List Rt.Bs)(k m:Nat),(l.take i).drop k=us->us.length<m->
 ref35_Names_L2 n l (i:Int) kont m (k:Int)=bif decide (x∈us)then some false else kont
 | [],k,m+1,hd,_=>by
  have h1:(l.take i).length<=k:=Rt.drop_nil hd;have h2:i<l.length:=by
   rcases Nat.lt_or_ge i l.length with h2|h2
   ·exact h2
   rw [a9n,List.getElem?_eq_none h2]at hx;cases hx
  rw [List.length_take]at h1;rw [ref35_Names_L2_s,decide_eq_false (by omega)];rfl
 |y::us,k,m+1,hd,hm=>by
  obtain⟨h1,h2,h3⟩:=drop_cons hd;rw [List.length_take]at h3;have h4:ix l (k:Int)=some y:=by
   rw [a9n]at h1⊢;rw [List.getElem?_take,if_pos (by omega)]at h1;exact h1
  rw [ref35_Names_L2_s,decide_eq_true (by omega),cond_true,h4,b_s,hx,b_s]
  by_cases h:y=x
  ·subst h;rw [beq_self_eq_true,cond_true,decide_eq_true (by simp)];rfl
  rw [show(y==x)=false by simpa using h,cond_false,inc64 (by omega),d6t n l i x hx kont hi us (k+1) m h2 (by simpa using hm)];have e:decide (x∈y::us)=decide (x∈us):=by
   by_cases h5:x∈us
   ·rw [decide_eq_true h5,decide_eq_true (by simp [h5])]
   rw [decide_eq_false h5,decide_eq_false (by simp only [List.mem_cons,not_or];exact⟨fun h6=>h h6.symm,h5⟩)]
  rw [e]
theorem c4v{l:List Rt.Bs}(h:¬(l.length:Int)<=6):∀(us:List Rt.Bs)(i:Nat),c0i l i us=false
 | [],i=>decide_eq_false h
 |s::us,i=>by unfold c0i;rw [c4v h us];simp
theorem e3d(l:List Rt.Bs)(hl:l.length<=6):∀(us:List Rt.Bs)(i:Nat),l.drop i=us->∃N,∀n m,N<=n->us.length<m->
 ref35_Names_L1 n l (some true) m (i:Int)=some (c0i l i us)
 | [],i,hd=>by
  refine⟨0,fun n m _ hm=> ?_⟩;obtain⟨m,rfl⟩:=left hm;rw [ref35_Names_L1_s,a5b hd];unfold c0i;rw [decide_eq_true (by omega)];rfl
 |s::us,i,hd=>by
  obtain⟨h1,h2,h3⟩:=drop_cons hd;obtain⟨N,ih⟩:=e3d l hl us (i+1) h2;obtain⟨N1,e1⟩:=c8z s;refine⟨max N (max N1 10),fun n m hn hm=> ?_⟩;obtain⟨m,rfl,hm2⟩:=pred (by simpa using hm);have e1:a7e n s=some (Lx.name s):=e1 n (by omega);rw [ref35_Names_L1_s,a1s hd,cond_true,h1,b_s,e1,b_s];unfold c0i;cases Lx.name s with
  |false=>rfl
  |true=>
   have h5:ref35_Names_L2 n l (i:Int) (ref35_Names_L1 n l (some true) m (iadd .i64 (i:Int) 1)) n 0=_:=d6t n l i s h1 _ (by omega) (l.take i) 0 n rfl (by rw [List.length_take];omega);rw [Bool.not_true,cond_false,h5,inc64 (by omega),ih n m (by omega) hm2,Bool.true_and];cases decide (s∈l.take i)<;>rfl
theorem c4b(l:List Rt.Bs):Ev (fun n=>b0m n l) (named l):=by
 unfold b0m
 by_cases h:l.length<=6
 ·refine Ev.else (decide_eq_false (by omega)) ?_
  obtain⟨N,hN⟩:=e3d l h l 0 rfl;exact⟨N+l.length+1,fun n hn=>hN n n (by omega) (by omega)⟩
 exact Ev.then (decide_eq_true (by omega)) ((Ev.pure _).eq (c4v (by omega) l 0).symm)
theorem e4m{P:M.Expr->Prop}(h:∀(o k:Int)(s:Rt.Bs)(l:List M.Expr),(∀y,y∈l->P y)->P ⟨o,k,s,l⟩):∀x,P x:=by
 intro x;refine M.Expr.rec (motive_1:=P) (motive_2:=fun l=>∀y,y∈l->P y) ?_ ?_ ?_ x
 ·exact fun o k s l hl=>h o k s l hl
 ·exact fun y hy=>by cases hy
 intro y ys h1 h2 z hz;rcases List.mem_cons.1 hz with rfl|hz
 ·exact h1
 exact h2 z hz
theorem e8d(x:M.Expr)(lv lf:Int)(hlf:lf<=1000000)(hlv:1<=lv)(hlv2:lv<=1000):∀(us:List M.Expr)(i:Nat)(nx:Int),x.Args.drop i=us->i<=x.Args.length->-1<=nx->nx<=lf-1-i->
 (∀y,y∈us->∀lv lf:Int,0<=lf->lf<=1000000->-1<=lv->lv<=1000->Tt (fun s=>-1<=s/\s<=lf-1/\(0<=s->Fit y)) (fun n=>ref35_size n y lf lv))->
 ∃N r,(-1<=r/\r<=lf-1/\(0<=r->x.Args.length<=1000000/\∀y,y∈us->Fit y))/\∀n m,N<=n->us.length<m->ref35_size_L1 n (ref35_size n) x lv (fun nx3=>some nx3) m nx (i:Int)=some r
 | [],i,nx,hd,hi,h1,h2,_=>by
  have hlen:x.Args.length<=i:=Rt.drop_nil hd;refine⟨0,nx,⟨h1,by omega,fun h=>⟨by omega,by simp⟩⟩,fun n m _ hm=> ?_⟩;obtain⟨m,rfl⟩:=left hm;rw [ref35_size_L1_s,a5b hd];rfl
 |y::us,i,nx,hd,hi,h1,h2,H=>by
  obtain⟨g1,g2,g3⟩:=drop_cons hd
  by_cases h0:0<=nx
  ·obtain⟨s,⟨N1,e1⟩,s1,s2,s3⟩:=H y (by simp) (lv-1) nx h0 (by omega) (by omega) (by omega);obtain⟨N,r,⟨r1,r2,r3⟩,ih⟩:=e8d x lv lf hlf hlv hlv2 us (i+1) s g2 (by omega) s1 (by omega) (fun z hz=>H z (by simp [hz]));refine⟨max N N1,r,⟨r1,r2,fun hr=>⟨(r3 hr).1,fun z hz=> ?_⟩⟩,fun n m hn hm=> ?_⟩
   ·rcases List.mem_cons.1 hz with rfl|hz
    ·refine s3 ?_;rcases Int.lt_or_le s 0 with hs|hs
     ·exfalso;have e:s=-1:=by omega
      have:=ih (max N N1+us.length+2) (us.length+1) (by omega) (by omega);rw [e]at this;have hstop:ref35_size_L1 (max N N1+us.length+2) (ref35_size (max N N1+us.length+2)) x lv (fun nx3=>some nx3) (us.length+1) (-1) ((i+1:Nat):Int)=some (-1):=by
       rw [ref35_size_L1_s];cases decide (((i+1:Nat):Int)<(x.Args.length:Int))<;>rfl
      rw [hstop]at this;cases this;omega
     exact hs
    exact(r3 hr).2 z hz
   obtain⟨m,rfl,hm2⟩:=pred (by simpa using hm);have e1:ref35_size n y nx (lv-1)=some s:=e1 n (by omega);rw [ref35_size_L1_s,a1s hd,cond_true,b_s,decide_eq_true h0,cond_true,g1,b_s,a0t (by omega) (by omega),e1,b_s,inc64 (by omega)];exact ih n m (by omega) hm2
  refine⟨0,nx,⟨h1,by omega,fun h=>absurd h h0⟩,fun n m _ hm=> ?_⟩;obtain⟨m,rfl⟩:=left hm;rw [ref35_size_L1_s,a1s hd,cond_true,b_s,decide_eq_false h0];rfl
theorem size_t:∀(x:M.Expr)(lv lf:Int),0<=lf->lf<=1000000->-1<=lv->lv<=1000->Tt (fun s=>-1<=s/\s<=lf-1/\(0<=s->Fit x)) (fun n=>ref35_size n x lf lv):=by
 refine e4m ?_;intro o k s l ih lv lf h1 h2 h3 h4;refine Tt.suc (fun n=>ref35_size_s _ _ _ n) ?_;refine Tt.bif (fun _=>Tt.pure ⟨by omega,by omega,fun h=>by omega⟩) (fun h=> ?_);have h5:=of_decide_eq_false h;rw [a0t (by omega) (by omega)];obtain⟨N,r,⟨r1,r2,r3⟩,hN⟩:=e8d ⟨o,k,s,l⟩ lv lf h2 (by omega) h4 l 0 (lf-1) rfl (by simp) (by omega) (by omega) ih;exact⟨r,⟨N+l.length+1,fun n hn=>hN n n (by omega) (by omega)⟩,r1,r2,fun h=>Fit.mk (r3 h).1 (r3 h).2⟩
theorem e7g(x:M.Expr)(a b:Int)(ha:0<=a)(ha2:a<=1000000)(hb:0<=b)(hb2:b<=1000):Tt (fun c=>c=true->Fit x) (fun n=>a7q n x a b):=by
 unfold a7q;refine Tt.bind (size_t x b a ha ha2 (by omega) hb2) fun s hs=> ?_;exact Tt.pure fun h=>hs.2.2 (of_decide_eq_true h)
def f1h(s:Int)(r:Int×Bool):Prop:=(0<=s->r=(s,true))/\(s<0->r.2=false)
theorem e7q(x:M.Expr)(lv lf:Int)(hx:x.Args.length<=1000000)(hlf:lf<=1000000)(hlv:1<=lv)(hlv2:lv<=1000):∀(us:List M.Expr)(i:Nat)(nx:Int),x.Args.drop i=us->0<=nx->nx<=lf->
 (∀y,y∈us->∀lv lf:Int,0<=lf->lf<=1000000->-1<=lv->lv<=1000->∃s r,Ev (fun n=>ref35_size n y lf lv) s/\Ev (fun n=>tariff_sized n y lv lf) r/\f1h s r/\s<=lf-1)->
 ∃N s r,f1h s r/\s<=nx/\∀n m,N<=n->us.length<m->ref35_size_L1 n (ref35_size n) x lv (fun nx3=>some nx3) m nx (i:Int)=some s/\tariff_sized_L1 n (tariff_sized n) x lv (fun f2=>some (f2,true)) m (i:Int) nx=some r
 | [],i,nx,hd,h1,h2,_=>by
  refine⟨0,nx,(nx,true),⟨fun _=>rfl,fun h=>by omega⟩,by omega,fun n m _ hm=> ?_⟩;obtain⟨m,rfl⟩:=left hm;rw [ref35_size_L1_s,a5b hd,tariff_sized_L1_s,a5b hd];exact⟨rfl,rfl⟩
 |y::us,i,nx,hd,h1,h2,H=>by
  obtain⟨g1,g2,g3⟩:=drop_cons hd;obtain⟨s,⟨lf',b⟩,⟨N1,e1⟩,⟨N2,e2⟩,⟨A1,A2⟩,hs⟩:=H y (by simp) (lv-1) nx h1 (by omega) (by omega) (by omega);rcases Int.lt_or_le s 0 with h0|h0
  ·have hb:b=false:=A2 h0;subst hb;refine⟨max N1 N2,s,(lf',false),⟨fun h=>by omega,fun _=>rfl⟩,by omega,fun n m hn hm=> ?_⟩;obtain⟨m,rfl,hm2⟩:=pred (by simpa using hm);have e1:ref35_size n y nx (lv-1)=some s:=e1 n (by omega);have e2:tariff_sized n y (lv-1) nx=some (lf',false):=e2 n (by omega);obtain⟨m',rfl⟩:=left hm2;constructor
   ·rw [ref35_size_L1_s,a1s hd,cond_true,b_s,decide_eq_true h1,cond_true,g1,b_s,a0t (by omega) (by omega),e1,b_s,inc64 (by omega),ref35_size_L1_s,decide_eq_false (show¬0<=s by omega)];cases decide (((i+1:Nat):Int)<(x.Args.length:Int))<;>rfl
   rw [tariff_sized_L1_s,a1s hd,cond_true,g1,b_s,a0t (by omega) (by omega),e2];rfl
  have hb:=A1 h0;simp only [Prod.mk.injEq]at hb;obtain⟨rfl,rfl⟩:=hb;obtain⟨N,s2,r2,A,hs2,ih⟩:=e7q x lv lf hx hlf hlv hlv2 us (i+1) lf' g2 h0 (by omega) (fun z hz=>H z (by simp [hz]));refine⟨max N (max N1 N2),s2,r2,A,by omega,fun n m hn hm=> ?_⟩;obtain⟨m,rfl,hm2⟩:=pred (by simpa using hm);have e1:ref35_size n y nx (lv-1)=some lf':=e1 n (by omega);have e2:tariff_sized n y (lv-1) nx=some (lf',true):=e2 n (by omega);have ih:=ih n m (by omega) hm2;constructor
  ·rw [ref35_size_L1_s,a1s hd,cond_true,b_s,decide_eq_true h1,cond_true,g1,b_s,a0t (by omega) (by omega),e1,b_s,inc64 (by omega)];exact ih.1
  rw [tariff_sized_L1_s,a1s hd,cond_true,g1,b_s,a0t (by omega) (by omega),e2,b_s];dsimp only;rw [Bool.not_true,cond_false,inc64 (by omega)];exact ih.2
theorem f3z{x:M.Expr}(hx:Fit x):∀lv lf:Int,0<=lf->lf<=1000000->-1<=lv->lv<=1000->∃s r,Ev (fun n=>ref35_size n x lf lv) s/\Ev (fun n=>tariff_sized n x lv lf) r/\f1h s r/\s<=lf-1:=by
 induction hx with
 | @mk o k s l hl _ ih=>
  intro lv lf h1 h2 h3 h4
  by_cases hlv:lv<1
  ·refine⟨-1,(lf-1,false),Ev.suc (fun n=>ref35_size_s _ _ _ n) (Ev.then (decide_eq_true hlv) (Ev.pure _)),?_,⟨fun h=>by omega,fun _=>rfl⟩,by omega⟩;refine Ev.suc (fun n=>tariff_sized_s _ _ _ n) ?_;rw [a0t (by omega) (by omega)];exact Ev.bind (Ev.then (decide_eq_true hlv) (Ev.pure _)) (Ev.then rfl (Ev.pure _))
  by_cases hlf:lf-1<0
  ·refine⟨-1,(lf-1,false),?_,?_,⟨fun h=>by omega,fun _=>rfl⟩,by omega⟩
   ·refine Ev.suc (fun n=>ref35_size_s _ _ _ n) (Ev.else (decide_eq_false hlv) ?_);rw [a0t (by omega) (by omega)];refine⟨1,fun n hn=> ?_⟩;obtain⟨m,rfl⟩:=left hn;show ref35_size_L1 (m+1) _ _ _ _ (m+1) _ _=_;rw [ref35_size_L1_s,decide_eq_false (show¬0<=lf-1 by omega),show lf-1=-1 by omega];cases decide ((0:Int)<((⟨o,k,s,l⟩:M.Expr).Args.length:Int))<;>rfl
   refine Ev.suc (fun n=>tariff_sized_s _ _ _ n) ?_;rw [a0t (by omega) (by omega)];exact Ev.bind (a:=true) (Ev.else (decide_eq_false hlv) ((Ev.pure _).eq (decide_eq_true hlf))) (Ev.then rfl (Ev.pure _))
  obtain⟨N,s2,r2,A,hs,h⟩:=e7q ⟨o,k,s,l⟩ lv lf hl h2 (by omega) h4 l 0 (lf-1) rfl (by omega) (by omega) ih;refine⟨s2,r2,?_,?_,A,by omega⟩
  ·refine Ev.suc (fun n=>ref35_size_s _ _ _ n) (Ev.else (decide_eq_false hlv) ?_);rw [a0t (by omega) (by omega)];exact⟨N+l.length+1,fun n hn=>(h n n (by omega) (by omega)).1⟩
  refine Ev.suc (fun n=>tariff_sized_s _ _ _ n) ?_;rw [a0t (x:=lf) (by omega) (by omega)];refine Ev.bind (a:=false) (Ev.else (decide_eq_false hlv) ((Ev.pure _).eq (decide_eq_false hlf))) (Ev.else rfl ?_);exact⟨N+l.length+1,fun n hn=>(h n n (by omega) (by omega)).2⟩
theorem f5k{x:M.Expr}(hx:Fit x):∃(b:Bool)(z:Int),Ev (fun n=>tariff_sized n x 10 100) (z,b)/\Ev (fun n=>a7q n x 100 10) b:=by
 obtain⟨s,⟨z,b⟩,h1,h2,⟨A1,A2⟩,_⟩:=f3z hx 10 100 (by decide) (by decide) (by decide) (by decide);refine⟨b,z,h2,?_⟩;unfold a7q;refine Ev.bind h1 ((Ev.pure _).eq ?_);rcases Int.lt_or_le s 0 with h0|h0
 ·rw [decide_eq_false (by omega)];exact(A2 h0).symm
 have:=A1 h0;simp only [Prod.mk.injEq]at this;rw [decide_eq_true h0];exact this.2.symm
end Ta
namespace Fe
open Go Rt M Ta Tp D
theorem c2z(n:Nat)(l:List Int)(hl:l.length<=1000000)(f:Int->Option Bool)(p:Int->Bool)(hf:∀x,f x=some (p x)):∀(us:List Int)(i m:Nat),l.drop i=us->us.length<m->
 ∃r,slices_IndexFunc_int_int_L1 n l f (some (-1)) m (i:Int)=some r/\decide (0<=r)=us.any p
 | [],i,m,hd,hm=>by
  obtain⟨m,rfl⟩:=left hm;exact⟨-1,by rw [slices_IndexFunc_int_int_L1_s,a5b hd];rfl,rfl⟩
 |y::us,i,m,hd,hm=>by
  obtain⟨h1,h2,h3⟩:=Rt.drop_cons hd;obtain⟨m,rfl,hm2⟩:=pred (by simpa using hm);obtain⟨r,ih,hr⟩:=c2z n l hl f p hf us (i+1) m h2 hm2;rw [slices_IndexFunc_int_int_L1_s,a1s hd,cond_true,h1,b_s,hf,b_s,List.any_cons];cases p y with
  |true=>exact⟨(i:Int),rfl,decide_eq_true (by omega)⟩
  |false=>rw [cond_false,Rt.inc64 (by omega)];exact⟨r,ih,by rw [hr];rfl⟩
theorem d1l{l:List Int}(hl:l.length<=1000000)(f:Nat->Int->Option Bool)(p:Int->Bool)(hf:∀n x,f n x=some (p x)):Ev (fun n=>a1x n l (f n)) (l.any p):=by
 refine⟨l.length+1,fun n hn=> ?_⟩;unfold a1x a4e;dsimp only;obtain⟨r,h,hr⟩:=c2z n l hl (f n) p (hf n) l 0 n rfl (by omega);have e:slices_IndexFunc_int_int_L1 n l (f n) (some (-1)) n 0=some r:=h;rw [e,b_s,hr]
theorem c2w(l:List Frac)(hl:l.length<=1000000)(f:Nat->Frac->Option Bool)(p:Frac->Bool):∀(us:List Frac)(i:Nat),l.drop i=us->(∀y,y∈us->Ev (fun n=>f n y) (p y))->
 ∃N r,decide (0<=r)=us.any p/\∀n m,N<=n->us.length<m->slices_IndexFunc_api_Frac_api_Frac_L1 n l (f n) (some (-1)) m (i:Int)=some r
 | [],i,hd,_=>by
  refine⟨0,-1,rfl,fun n m _ hm=> ?_⟩;obtain⟨m,rfl⟩:=left hm;rw [slices_IndexFunc_api_Frac_api_Frac_L1_s,a5b hd];rfl
 |y::us,i,hd,H=>by
  obtain⟨h1,h2,h3⟩:=Rt.drop_cons hd;obtain⟨N1,e1⟩:=H y (by simp);obtain⟨N,r,hr,ih⟩:=c2w l hl f p us (i+1) h2 (fun z hz=>H z (by simp [hz]));rw [List.any_cons];cases hp:p y with
  |true=>
   refine⟨N1,(i:Int),decide_eq_true (by omega),fun n m hn hm=> ?_⟩;obtain⟨m,rfl⟩:=left hm;have e1:f n y=some (p y):=e1 n (by omega);rw [slices_IndexFunc_api_Frac_api_Frac_L1_s,a1s hd,cond_true,h1,b_s,e1,hp];rfl
  |false=>
   refine⟨max N N1,r,by rw [hr];rfl,fun n m hn hm=> ?_⟩;obtain⟨m,rfl,hm2⟩:=pred (by simpa using hm);have e1:f n y=some (p y):=e1 n (by omega);rw [slices_IndexFunc_api_Frac_api_Frac_L1_s,a1s hd,cond_true,h1,b_s,e1,hp,b_s,cond_false,Rt.inc64 (by omega)];exact ih n m (by omega) hm2
theorem b7r{l:List Frac}(hl:l.length<=1000000)(f:Nat->Frac->Option Bool)(p:Frac->Bool)(hf:∀y,y∈l->Ev (fun n=>f n y) (p y)):Ev (fun n=>a0n n l (f n)) (l.any p):=by
 obtain⟨N,r,hr,h⟩:=c2w l hl f p l 0 rfl hf;refine⟨N+l.length+1,fun n hn=> ?_⟩;unfold a0n a2c;dsimp only;have e:slices_IndexFunc_api_Frac_api_Frac_L1 n l (f n) (some (-1)) n 0=some r:=h n n (by omega) (by omega);rw [e,b_s,hr]
def badF(w:Frac):Bool:= !a4x w||decide (w.P.Sign<0)
def Lim(k:Nat)(l:List Frac):Prop:=∀w,w∈l->w.P.Digits.length<=k/\w.Q.Digits.length<=k
theorem f3t{w:Frac}{k:Nat}(h:w.P.Digits.length<=k/\w.Q.Digits.length<=k)(hk:k<=30):Ev (fun n=>a9f n w) (badF w):=by
 unfold a9f badF;refine Ev.bind (c0y h.1 h.2 (by omega)) ?_;cases hr:a4x w with
 |false=>exact Ev.bind (Ev.then rfl (Ev.pure _)) (Ev.pure _)
 |true=>
  obtain⟨r,rfl,hs⟩:=d7g h hr;exact Ev.bind (Ev.else rfl (Ev.bind (FSign_ev hs (by omega)) (Ev.pure _))) (Ev.pure _)
theorem d7p(r:Rat):decide (sg r.num<0)=decide (r<0):=by
 rw [e7y];rcases a5i r 0 with⟨h1,h2⟩|⟨h1,h2⟩|⟨h1,h2⟩
 ·rw [h2,decide_eq_true h1];rfl
 ·rw [h2,h1];rfl
 rw [h2,decide_eq_false (Rat.not_lt.2 (Rat.le_of_lt h1))];rfl
theorem d6s(r:Rat):badF (toF r)=decide (r<0):=by
 unfold badF;rw [c2g];show decide (sg r.num<0)=_;exact d7p r
theorem c8p{k:Nat}:∀{l:List Frac},Lim k l->l.any badF=false->∃ws:List Rat,l=ws.map toF/\(∀w,w∈ws->0<=w)/\∀w,w∈ws->SmF k w
 | [],_,_=>⟨[],rfl,by simp,by simp⟩
 |x::l,hl,h=>by
  rw [List.any_cons,Bool.or_eq_false_iff]at h;obtain⟨ws,rfl,h1,h2⟩:=c8p (fun w hw=>hl w (by simp [hw])) h.2;have hr:a4x x=true:=by
   cases hx:a4x x
   ·have:=h.1;unfold badF at this;rw [hx]at this;cases this
   rfl
  obtain⟨r,rfl,hs⟩:=d7g (hl x (by simp)) hr;have h0:=h.1;rw [d6s]at h0;refine⟨r::ws,rfl,?_,?_⟩
  ·intro w hw;rcases List.mem_cons.1 hw with rfl|hw
   ·exact Rat.not_lt.1 (of_decide_eq_false h0)
   exact h1 w hw
  intro w hw;rcases List.mem_cons.1 hw with rfl|hw
  ·exact hs
  exact h2 w hw
theorem e6d{ws:List Rat}(h:∀w,w∈ws->0<=w):(ws.map toF).any badF=false:=by
 rw [List.any_eq_false];intro x hx;obtain⟨w,hw,rfl⟩:=List.mem_map.1 hx;rw [d6s,decide_eq_false (Rat.not_lt.2 (h w hw))];simp
theorem f4i(a b:Int):Ev (fun n=>c3a n a b) (decide (0<=a)&&decide (a<=b)):=by
 unfold c3a;refine Ev.all fun n=> ?_;cases decide (0<=a)<;>rfl
theorem f4t(n:Nat)(x:Int):a9e n x=some (!(decide (0<=x)&&decide (x<=200))):=by
 unfold a9e c3a;cases decide (0<=x)<;>rfl
def b5q(nz:List Rt.Bs)(f:Facts)(wgs:List Frac):Bool:= (((((f.Lifts.length:Int)==(nz.length:Int))&&((wgs.length:Int)==(nz.length:Int)))&&(decide (0<=f.Persons)&&decide (f.Persons<=1000)))&&(decide (0<=f.Flats)&&decide (f.Flats<=1000)))&& !(f.Lifts.any fun x=> !(decide (0<=x)&&decide (x<=200)))&& !(wgs.any badF)
theorem andE{c d:Bool}{x:Nat->Option Bool}(h:c=true->Ev x d):Ev (fun n=>bif c then x n else some false) (c&&d):=by
 cases c
 ·exact Ev.else rfl (Ev.pure _)
 exact Ev.then rfl (h rfl)
theorem d6h{nz:List Rt.Bs}{f:Facts}{wgs:List Frac}{k:Nat}(hw:Lim k wgs)(hk:k<=30)(hl:f.Lifts.length<=1000000)(hwl:wgs.length<=1000000):Ev (fun n=>b6l n f wgs (nz.length:Int)) (b5q nz f wgs):=by
 unfold b6l b5q;refine Ev.bind (andE fun _=>Ev.pure _) ?_;refine Ev.bind (andE fun _=>Ev.bind (f4i _ _) (Ev.pure _)) ?_;refine Ev.bind (andE fun _=>Ev.bind (f4i _ _) (Ev.pure _)) ?_;refine Ev.bind (andE fun _=>Ev.bind (d1l hl a9e _ f4t) (Ev.pure _)) ?_;exact Ev.bind (andE fun _=>Ev.bind (b7r hwl a9f badF (fun y hy=>f3t (hw y hy) hk)) (Ev.pure _)) (Ev.pure _)
theorem d7m{nz:List Rt.Bs}{f:Facts}{wgs:List Frac}{k:Nat}(hw:Lim k wgs)(h:b5q nz f wgs=true):∃ws:List Rat,wgs=ws.map toF/\RF nz f ws/\∀w,w∈ws->SmF k w:=by
 unfold b5q at h;simp only [Bool.and_eq_true,Bool.not_eq_true',decide_eq_true_eq,beq_iff_eq]at h;obtain⟨⟨⟨⟨⟨h1,h2⟩,h3⟩,h4⟩,h5⟩,h6⟩:=h;obtain⟨ws,rfl,g1,g2⟩:=c8p hw h6;rw [List.length_map]at h2;refine⟨ws,rfl,⟨by omega,by omega,h3.1,h3.2,h4.1,h4.2,fun n hn=> ?_,g1⟩,g2⟩;rw [List.any_eq_false]at h5;have:=h5 n hn;simpa using this
theorem d1a{nz:List Rt.Bs}{f:Facts}{ws:List Rat}(h:RF nz f ws):b5q nz f (ws.map toF)=true:=by
 unfold b5q;have h1:=h.hl;have h2:=h.hw;rw [e6d h.w1,List.length_map];have h5:(f.Lifts.any fun x=> !(decide (0<=x)&&decide (x<=200)))=false:=by
  rw [List.any_eq_false];intro n hn;have:=h.l1 n hn;simp [this]
 rw [h5];simp [h.p1,h.p2,h.f1,h.f2,h1,h2]
theorem e6p{r:Rat}{k:Nat}(h:SmF k r)(hk:k<1000000):Ev (fun n=>b6h n (toF r)) (toF r):=by
 unfold b6h;have h1:=(b3n h).1;have h2:=(b3n h).2;exact Ev.bind (Ev.bind (b4w (by omega)) (Ev.bind (b4w (by omega)) (Ev.pure _))) (Ev.pure _)
def fv(nz:List Rt.Bs)(f:Facts)(ws:List Rat)(t:Tariff):Rat:=num (mkE nz f ws) t.Fee
theorem f2b{ws:List Rat}{k:Nat}(h:∀w,w∈ws->SmF k w):Lim k (ws.map toF):=by
 intro x hx;obtain⟨w,hw,rfl⟩:=List.mem_map.1 hx;exact b3n (h w hw)
section
variable{nz:List Rt.Bs}{f:Facts}{t:Tariff}(hx:Fit t.Fee)(hn:nz.length<4611686018427387904)
include hx hn
theorem d6e{ws:List Rat}{k:Nat}(hsm:∀w,w∈ws->SmF k w)(hk:k<=30)(hk4:4<=k)(hl:nz.length<=1000000)(hc:Chk nz t)(hrf:RF nz f ws):
 Ev (fun n=>a6e n t nz f (ws.map toF)) (toF (fv nz f ws t),0)/\SmF 3000 (fv nz f ws t):=by
 have h1:=hrf.hl;have h2:=hrf.hw;obtain⟨j,hj,ht⟩:=hc.2.2;have hcn:cnt t.Fee<=100:=hc.2.1.2.1.1.2;have h5:=d9q hrf hk4 hk hsm hn ht hj (by omega);have h6:=b3u hrf hk4 hk hsm hn ht hj (by omega);have h7:k*cnt t.Fee<=3000:=by have:=Nat.mul_le_mul hk hcn;omega
 have h8:=h6.mono h7;refine⟨?_,h8⟩;unfold a6e;obtain⟨e,he,hq⟩:=d4b hx nz hn;obtain rfl:=hq.2 hc;refine Ev.bind he (Ev.else rfl ?_);refine Ev.bind (d6h (f2b hsm) hk (by omega) (by rw [List.length_map];omega)) ?_;rw [d1a hrf];exact Ev.else rfl (Ev.bind h5 (Ev.bind (e6p h8 (by decide)) (Ev.pure _)))
end
structure FewS(t:Tariff)(nz:List Rt.Bs)(f:Facts)(wgs:List Frac):Prop where
 fit:Fit t.Fee
 nl:nz.length<=8
 ll:f.Lifts.length<=8
 wl:wgs.length<=8
 lim:Lim 4 wgs
theorem e7i(wgs:List Frac)(kont:Nat->Option Bool)(P:Prop)(hk:Tt (fun b=>b=true->P/\wgs.length<=8) kont):∀(us:List Frac)(i:Nat),wgs.drop i=us->i<=10->
 ∃N r,(r=true->(P/\wgs.length<=8)/\Lim 4 us)/\∀n m,N<=n->12-i<m->ref36_Few_L2 n wgs (kont n) m (i:Int)=some r
 | [],i,hd,hi=>by
  obtain⟨r,⟨N,h⟩,hr⟩:=hk;refine⟨N,r,fun h=>⟨hr h,fun w hw=>by cases hw⟩,fun n m hn hm=> ?_⟩;obtain⟨m,rfl⟩:=left hm;rw [ref36_Few_L2_s,a5b hd];exact h n hn
 |x::us,i,hd,hi=>by
  obtain⟨h1,h2,h3⟩:=Rt.drop_cons hd
  by_cases h10:i<10
  ·obtain⟨b,⟨N1,e1⟩⟩:∃b,Ev (fun n=>a8p n x 4) b/\(b=true->x.P.Digits.length<=4/\x.Q.Digits.length<=4):=⟨_,e8z x 4,c5g⟩
   obtain⟨⟨N1,e1⟩,hb⟩:=And.intro N1 e1;obtain⟨N,r,hr,ih⟩:=e7i wgs kont P hk us (i+1) h2 (by omega);refine⟨max N N1,bif b then r else false,?_,fun n m hn hm=> ?_⟩
   ·cases b with
    |false=>intro h;cases h
    |true=>
     intro h;obtain⟨g1,g2⟩:=hr h;refine⟨g1,fun w hw=> ?_⟩;rcases List.mem_cons.1 hw with rfl|hw
     ·exact hb rfl
     exact g2 w hw
   obtain⟨m,rfl⟩:∃j,m=j+1:=⟨m-1,by omega⟩
   have e1:a8p n x 4=some b:=e1 n (by omega);rw [ref36_Few_L2_s,a1s hd,cond_true,b_s,decide_eq_true (show(i:Int)<10 by omega),cond_true,h1,b_s,e1,b_s];cases b with
   |false=>rfl
   |true=>rw [Bool.not_true,cond_false,Rt.inc64 (by omega),ih n m (by omega) (by omega)];rfl
  obtain⟨r,⟨N,h⟩,hr⟩:=hk;refine⟨N,r,fun h=>⟨hr h,?_⟩,fun n m hn hm=> ?_⟩
  ·have:=(hr h).2;omega
  obtain⟨m,rfl⟩:=left hm;rw [ref36_Few_L2_s,a1s hd,cond_true,b_s,decide_eq_false (show¬(i:Int)<10 by omega)];exact h n hn
theorem e7x(nz:List Rt.Bs)(kont:Nat->Option Bool)(P:Prop)(hk:Tt (fun b=>b=true->P) kont):∀(us:List Rt.Bs)(i:Nat),nz.drop i=us->i<=10->
 ∃N r,(r=true->P)/\∀n m,N<=n->12-i<m->ref36_Few_L1 n nz (kont n) m (i:Int)=some r
 | [],i,hd,hi=>by
  obtain⟨r,⟨N,h⟩,hr⟩:=hk;refine⟨N,r,hr,fun n m hn hm=> ?_⟩;obtain⟨m,rfl⟩:=left hm;rw [ref36_Few_L1_s,a5b hd];exact h n hn
 |x::us,i,hd,hi=>by
  obtain⟨h1,h2,h3⟩:=Rt.drop_cons hd
  by_cases h10:i<10
  ·obtain⟨N,r,hr,ih⟩:=e7x nz kont P hk us (i+1) h2 (by omega);refine⟨N,bif decide (30<(x.length:Int))then false else r,?_,fun n m hn hm=> ?_⟩
   ·cases decide (30<(x.length:Int))with
    |true=>intro h;cases h
    |false=>exact hr
   obtain⟨m,rfl⟩:∃j,m=j+1:=⟨m-1,by omega⟩
   rw [ref36_Few_L1_s,a1s hd,cond_true,b_s,decide_eq_true (show(i:Int)<10 by omega),cond_true,h1,b_s];cases decide (30<(x.length:Int))with
   |true=>rfl
   |false=>rw [cond_false,Rt.inc64 (by omega),ih n m (by omega) (by omega)];rfl
  obtain⟨r,⟨N,h⟩,hr⟩:=hk;refine⟨N,r,hr,fun n m hn hm=> ?_⟩;obtain⟨m,rfl⟩:=left hm;rw [ref36_Few_L1_s,a1s hd,cond_true,b_s,decide_eq_false (show¬(i:Int)<10 by omega)];exact h n hn
theorem e5g{P:Prop}{c d:Bool}(h:c=true->d=true->P):Tt (fun b=>b=true->P) (fun _:Nat=>bif c then some d else some false):=by
 cases c
 ·exact Tt.pure fun h=>(by cases h)
 exact Tt.pure fun h2=>h rfl h2
theorem f5f(t:Tariff)(nz:List Rt.Bs)(f:Facts)(wgs:List Frac):Tt (fun b=>b=true->FewS t nz f wgs) (fun n=>b6m n t nz f wgs):=by
 unfold b6m;have hk:Tt (fun b=>b=true->(Fit t.Fee/\nz.length<=8/\f.Lifts.length<=8)/\wgs.length<=8) (fun n=>
  (a7q n t.Fee 60 12).bind fun v1=>
  (bif v1 then some (decide ((t.Name.length:Int)<=30))else some false).bind fun v2=>
  (bif v2 then some (decide ((nz.length:Int)<=8))else some false).bind fun v3=>
  (bif v3 then some (decide ((f.Lifts.length:Int)<=8))else some false).bind fun v4=>
  (bif v4 then some (decide ((wgs.length:Int)<=8))else some false).bind fun v5=>some v5):=by
  refine Tt.bind (e7g t.Fee 60 12 (by decide) (by decide) (by decide) (by decide)) fun v1 h1=> ?_;refine Tt.bind (P:=fun b=>b=true->Fit t.Fee) (e5g fun h _=>h1 h) fun v2 h2=> ?_;refine Tt.bind (P:=fun b=>b=true->Fit t.Fee/\nz.length<=8) (e5g fun h h5=>⟨h2 h,by have:=of_decide_eq_true h5;omega⟩) fun v3 h3=> ?_;refine Tt.bind (P:=fun b=>b=true->Fit t.Fee/\nz.length<=8/\f.Lifts.length<=8) (e5g fun h h5=>⟨(h3 h).1,(h3 h).2,by have:=of_decide_eq_true h5;omega⟩) fun v4 h4=> ?_;refine Tt.bind (P:=fun b=>b=true->(Fit t.Fee/\nz.length<=8/\f.Lifts.length<=8)/\wgs.length<=8) (e5g fun h h5=>⟨h4 h,by have:=of_decide_eq_true h5;omega⟩) fun v5 h5=> ?_;exact Tt.pure h5
 obtain⟨N2,r2,hr2,e2⟩:=e7i wgs _ _ hk wgs 0 rfl (by omega);obtain⟨N,r,hr,e⟩:=e7x nz (fun n=>ref36_Few_L2 n wgs ((fun n=>
  (a7q n t.Fee 60 12).bind fun v1=>
  (bif v1 then some (decide ((t.Name.length:Int)<=30))else some false).bind fun v2=>
  (bif v2 then some (decide ((nz.length:Int)<=8))else some false).bind fun v3=>
  (bif v3 then some (decide ((f.Lifts.length:Int)<=8))else some false).bind fun v4=>
  (bif v4 then some (decide ((wgs.length:Int)<=8))else some false).bind fun v5=>some v5) n) n 0) _ ⟨r2,⟨max N2 13,fun n hn=>e2 n n (by omega) (by omega)⟩,hr2⟩ nz 0 rfl (by omega)
 exact⟨r,⟨max N 13,fun n hn=>e n n (by omega) (by omega)⟩,fun h=>⟨(hr h).1.1.1,(hr h).1.1.2.1,(hr h).1.1.2.2,(hr h).1.2,(hr h).2⟩⟩
end Fe
namespace D
open Go Rt M
theorem f0t(n:Nat)(l:List Int)(kont:Int->Option (List Int))(hl:l.length<1099511627776):∀(r:Nat)(c:List Int)(m:Nat),c.getLast?≠some 0->l=c++List.replicate r 0->∀k,k<=r->k<m->
 a8e n l kont m ((c.length+k:Nat):Int)=kont (c.length:Int):=by
 intro r c m hc hlc k;induction k generalizing m with
 |zero=>
  intro _ hm;obtain⟨m,rfl⟩:∃m',m=m'+1:=⟨m-1,by omega⟩
  unfold a8e;rcases List.eq_nil_or_concat c with rfl|⟨p,d,rfl⟩
  ·rfl
  rw [List.concat_eq_append]at*;have hd:(d==0)=false:=by simpa using hc
  have e0:isub .i64 (((p++ [d]).length+0:Nat):Int) 1=(p.length:Int):=by rw [a0t (by simp<;>omega) (by rw [hlc]at hl;simp at hl⊢;try omega)];simp
  have e1:decide ((0:Int)<(((p++ [d]).length+0:Nat):Int))=true:=by simp<;>omega
  have e2:ix l (p.length:Int)=some d:=by rw [hlc,List.append_assoc];exact a5e p d _ rfl
  rw [e1,e0,e2,cond_true,b_s,b_s,hd,cond_false];rfl
 |succ k ih=>
  intro hk hm;obtain⟨m,rfl⟩:∃m',m=m'+1:=⟨m-1,by omega⟩
  have hlen:l.length=c.length+r:=by rw [hlc];simp
  unfold a8e;have e0:isub .i64 ((c.length+(k+1):Nat):Int) 1=((c.length+k:Nat):Int):=by rw [a0t (by omega) (by omega)];omega
  have e1:decide ((0:Int)<((c.length+(k+1):Nat):Int))=true:=by simp;omega
  have e2:ix l ((c.length+k:Nat):Int)=some 0:=by
   rw [a9n,hlc,List.getElem?_append_right (by omega),show c.length+k-c.length=k by omega,List.getElem?_replicate,if_pos (by omega)]
  rw [e1,e0,e2,cond_true,b_s,b_s,show((0:Int)==0)=true from rfl,cond_true];exact ih m (by omega) (by omega)
theorem b7q{l:List Int}(hl:InR l)(hlen:l.length<1099511627776){n:Nat}(hn:l.length<n):a1w n l=some (dig (val l).toNat):=by
 obtain⟨r,hr⟩:=split_dig hl
 have h1:l.length=(dig (val l).toNat).length+r:=by conv=>lhs;rw [hr]
                                                   simp
 unfold a1w;have h2:=f0t n l (fun(nx2:Int)=>(lsl l 0 nx2).bind fun l2=>(app 8 [] l2).bind fun l3=>some l3) hlen r (dig (val l).toNat) n (c1h _) hr r (Nat.le_refl _) (by omega);rw [<-h1]at h2;rw [h2];have h3:=d1r (l:=l) (p:=0) (q:=(dig (val l).toNat).length) (by omega) (by omega);rw [show((0:Nat):Int)=0 from rfl]at h3;rw [h3,b_s,List.drop_zero];have h4:∀c:List Int,l=c++List.replicate r 0->l.take c.length=c:=fun c hc=>by rw [hc];exact List.take_left
 rw [h4 _ hr,c1k (by simp;omega)];rfl
theorem f5c{l:List Int}(s:Int)(hl:InR l)(hlen:l.length<1099511627776){n:Nat}(hn:l.length<n):a1r n s l=some (if(val l).toNat=0 then⟨0,[]⟩else⟨s,dig (val l).toNat⟩):=by
 unfold a1r;rw [b7q hl hlen hn,b_s]
 by_cases h:(val l).toNat=0
 ·rw [h,dig_zero,if_pos rfl];rfl
 have:=List.length_pos_iff.2 (b8x h);rw [if_neg h,show(((dig (val l).toNat).length:Int)==0)=false from beq_false_of_ne (by omega),cond_false]
theorem c2m(n:Nat)(l:List Int)(i:Nat):a4i n l (i:Int)=some ((l.drop i).headD 0):=by
 unfold a4i
 by_cases h:i<l.length
 ·rw [show decide ((i:Int)<(l.length:Int))=true by simpa using h,cond_true,a9n,List.getElem?_eq_getElem h,b_s,List.drop_eq_getElem_cons h];rfl
 rw [show decide ((i:Int)<(l.length:Int))=false by simpa using h,cond_false,List.drop_of_length_le (by omega)];rfl
theorem d5i(n:Nat)(a:Big)(kont:Option Bool)(hl:a.Digits.length<1099511627776):∀(us:List Int)(i m:Nat),a.Digits.drop i=us->us.length<m->a7b n a kont m (i:Int)=bif us.all okd then kont else some false
 | [],i,m+1,hd,_=>by
  unfold a7b;have:=drop_nil hd;rw [show decide ((i:Int)<(a.Digits.length:Int))=false by simp;omega];rfl
 |x::xs,i,m+1,hd,hm=>by
  unfold a7b;obtain⟨f1,f2,f3⟩:=drop_cons hd;rw [show decide ((i:Int)<(a.Digits.length:Int))=true by simp;omega,cond_true,f1,b_s];have e1:((bif decide (x<0)then some true else(some x).bind fun ex3=>some (decide (1048576<=ex3))):Option Bool)=some (!okd x):=by
   unfold okd
   by_cases h:x<0
   ·rw [show decide (x<0)=true by simpa using h,show decide (0<=x)=false by simp;omega];rfl
   rw [show decide (x<0)=false by simpa using h,show decide (0<=x)=true by simp;omega,cond_false,b_s]
   by_cases h2:x<1048576
   ·rw [show decide (1048576<=x)=false by simp;omega,show decide (x<1048576)=true by simpa using h2];rfl
   rw [show decide (1048576<=x)=true by simp;omega,show decide (x<1048576)=false by simpa using h2];rfl
  rw [e1,b_s,List.all_cons];cases h:okd x with
  |false=>rfl
  |true=>
   rw [inc64 (by omega)];have:=d5i n a kont hl xs (i+1) m f2 (by simpa using hm);simpa using this
 |_,_,0,_,h=>by omega
theorem e4n{a:Big}(hl:a.Digits.length<1099511627776){n:Nat}(hn:a.Digits.length<n):a1l n a=some (a9w a):=by
 unfold a1l;have h:=fun kont=>d5i n a kont hl a.Digits 0 n rfl hn;rw [show((0:Nat):Int)=0 from rfl]at h;rw [h];unfold a9w;cases ha:a.Digits.all okd with
 |false=>rfl
 |true=>
  rw [cond_true,Bool.true_and];rcases List.eq_nil_or_concat a.Digits with h0|⟨p,d,h0⟩
  ·rw [h0]
   by_cases hs:a.Sign=0
   ·rw [hs];rfl
   have:(a.Sign==0)=false:=by simpa using hs
   rw [if_pos rfl,this];cases decide (a.Sign< -1)<;>cases decide (1<a.Sign)<;>rfl
  rw [List.concat_eq_append]at h0;have hne:a.Digits≠ []:=by rw [h0];simp
  have e1:((a.Digits.length:Int)==0)=false:=by rw [h0];simp;omega
  have e2:isub .i64 (a.Digits.length:Int) 1=(p.length:Int):=by rw [a0t (by omega) (by omega),h0];simp
  have e3:ix a.Digits (p.length:Int)=some d:=by rw [h0];exact a5e p d [] rfl
  rw [e1,cond_false,if_neg hne,e2,e3];have e4:a.Digits.getLast?.getD 0=d:=by rw [h0];simp
  rw [e4]
  by_cases h1:a.Sign< -1
  ·rw [show decide (a.Sign< -1)=true by simpa using h1,show(a.Sign==1)=false by simp;omega,show(a.Sign==-1)=false by simp;omega];rfl
  rw [show decide (a.Sign< -1)=false by simpa using h1]
  by_cases h2:1<a.Sign
  ·rw [show decide (1<a.Sign)=true by simpa using h2,show(a.Sign==1)=false by simp;omega,show(a.Sign==-1)=false by simp;omega];rfl
  rw [show decide (1<a.Sign)=false by simpa using h2];have:a.Sign=-1∨a.Sign=0∨a.Sign=1:=by omega
  rcases this with h|h|h<;>rw [h]<;>rfl
theorem b1p(l:List Int)(i:Nat):val (l.drop i)=(l.drop i).headD 0+1048576*val (l.drop (i+1)):=by
 rw [<-List.drop_drop];cases l.drop i with
 |nil=>rfl
 |cons d l=>rfl
theorem b3d{l:List Int}{i:Nat}(h:l.length<=i):val (l.drop i)=0:=by rw [List.drop_of_length_le h];rfl
theorem d8v{a b:List Int}(ha:InR a)(hb:InR b)(i:Nat)(h:val (a.drop i)<val (b.drop i)):val a<val b:=by
 induction i with
 |zero=>simpa using h
 |succ i ih=>
  apply ih;rw [b1p a i,b1p b i];have h1:=(InR.drop ha i).headD;have h2:=(InR.drop hb i).headD;omega
theorem e8i(n:Nat)(a b:List Int)(ha:InR a)(hb:InR b)(hla:a.length<1099511627776)(hlb:b.length<1099511627776):∀(i m:Nat),i<1099511627776->i<m->val (a.drop i)=val (b.drop i)->
 a7x n a b (some false) m ((i:Int)-1)=some (decide (val a<val b))
 |0,m+1,_,_,h=>by
  unfold a7x;rw [show decide ((0:Int)<=((0:Nat):Int)-1)=false by decide,cond_false];simp only [List.drop_zero]at h;rw [h];simp
 |i+1,m+1,hi,hm,h=>by
  unfold a7x;rw [show((i+1:Nat):Int)-1=(i:Int) by omega,show decide (0<=(i:Int))=true by simp,cond_true,c2m,c2m,b_s,b_s];have e1:=b1p a i;have e2:=b1p b i
  by_cases hd:(a.drop i).headD 0=(b.drop i).headD 0
  ·rw [show((a.drop i).headD 0 !=(b.drop i).headD 0)=false by simpa using hd,cond_false,a0t (by omega) (by omega)];exact e8i n a b ha hb hla hlb i m (by omega) (by omega) (by rw [e1,e2,hd,h])
  rw [show((a.drop i).headD 0 !=(b.drop i).headD 0)=true by simpa using hd,cond_true,b_s,b_s]
  congr 1
  by_cases hlt:(a.drop i).headD 0<(b.drop i).headD 0
  ·have:=d8v ha hb i (by omega);rw [decide_eq_true hlt,decide_eq_true this]
  have:=d8v hb ha i (by omega);have h3:¬val a<val b:=by omega
  rw [decide_eq_false hlt,decide_eq_false h3]
 |_,0,_,hm,_=>by omega
theorem e7o{a b:List Int}(ha:InR a)(hb:InR b)(hla:a.length<1099511627776)(hlb:b.length<1099511627776){n:Nat}(hn:max a.length b.length<n):a6f n a b=some (decide (val a<val b)):=by
 unfold a6f;have e:isub .i64 (imax (a.length:Int) (b.length:Int)) 1=((max a.length b.length:Nat):Int)-1:=by
  have:imax (a.length:Int) (b.length:Int)=((max a.length b.length:Nat):Int):=by unfold imax;split<;>omega
  rw [this,a0t (by omega) (by omega)]
 rw [e];exact e8i n a b ha hb hla hlb _ n (by omega) hn (by rw [b3d (by omega),b3d (by omega)])
theorem e7w(n:Nat)(a b:List Int)(kont:List Int->Option (List Int))(ha:InR a)(hb:InR b)(hla:a.length<1073741824)(hlb:b.length<1073741824)(V:Int):∀(m i:Nat)(c:Int)(pre:List Int),
 pre.length=i->InR pre->0<=c->c<=1->val pre+pw i*(c+val (a.drop i)+val (b.drop i))=V->(i<=max a.length b.length∨(i=max a.length b.length+1/\c=0))->max a.length b.length+2<=i+m->
 ∃out,a9o n a b kont m c (i:Int) pre=kont out/\InR out/\val out=V/\out.length<=max a.length b.length+1
 |0,i,_,_,_,_,_,_,_,h,h2=>by omega
 |m+1,i,c,pre,hp,hpr,h0,h1,hv,hi,hm=>by
  unfold a9o;have xr:=(InR.drop ha i).headD;have yr:=(InR.drop hb i).headD;have ea:=b1p a i;have eb:=b1p b i
  by_cases hgo:i<a.length∨i<b.length∨0<c
  ·have e1:(((bif decide ((i:Int)<(a.length:Int))then some true else some (decide ((i:Int)<(b.length:Int)))):Option Bool).bind fun v2=>(bif v2 then some true else some (decide (0<c)):Option Bool))=some true:=by
    by_cases g1:i<a.length
    ·rw [show decide ((i:Int)<(a.length:Int))=true by simpa using g1];rfl
    rw [show decide ((i:Int)<(a.length:Int))=false by simpa using g1]
    by_cases g2:i<b.length
    ·rw [show decide ((i:Int)<(b.length:Int))=true by simpa using g2];rfl
    rw [show decide ((i:Int)<(b.length:Int))=false by simpa using g2,show decide (0<c)=true by simp;omega];rfl
   have es:iadd .i64 (iadd .i64 ((a.drop i).headD 0) ((b.drop i).headD 0)) c=(a.drop i).headD 0+(b.drop i).headD 0+c:=by rw [a1k (x:=(a.drop i).headD 0) (y:=(b.drop i).headD 0) (by omega) (by omega),a1k (by omega) (by omega)]
   generalize hx:(a.drop i).headD 0=x at*;generalize hy:(b.drop i).headD 0=y at*;have hnext:=e7w n a b kont ha hb hla hlb V m (i+1) ((x+y+c)/1048576) (pre++ [(x+y+c) %1048576]) (by simp [hp]) (hpr.append (InR.cons (by omega) (by omega) InR.nil)) (by omega) (by omega)
    (by
     rw [val_append,hp];have e3:val [(x+y+c) %1048576]=(x+y+c) %1048576:=by simp [val]
     rw [e3,show pw (i+1)=1048576*pw i from rfl,<-hv,ea,eb];have hdm:x+y+c=(x+y+c) %1048576+1048576*((x+y+c)/1048576):=by omega
     generalize (x+y+c) %1048576=r at*;generalize (x+y+c)/1048576=q at*;generalize val (a.drop (i+1))=A at*;generalize val (b.drop (i+1))=B at*;generalize pw i=p at*;have hc:c=r+1048576*q-x-y:=by omega
     subst hc
     grind) (by
     by_cases g:i<max a.length b.length
     ·left;omega
     right;rw [List.drop_of_length_le (by omega)]at hx hy;simp at hx hy;omega) (by omega)
   obtain⟨out,h3,h4,h5,h6⟩:=hnext;refine⟨out,?_,h4,h5,h6⟩;rw [<-h3];rw [<-Option.bind_assoc,e1,b_s,cond_true,c2m,c2m,b_s,b_s,hx,hy,es,c2h (by omega) (by decide),b_s,c1k (by simp;omega),b_s,c2c (by omega) (by omega) (by decide),b_s,inc64 (by omega)]
  refine⟨pre,?_,hpr,?_,by omega⟩
  ·rw [show decide ((i:Int)<(a.length:Int))=false by simp;omega,show decide ((i:Int)<(b.length:Int))=false by simp;omega,show decide (0<c)=false by simp;omega];rfl
  rw [b3d (by omega),b3d (by omega)]at hv;rw [<-hv,show c=0 by omega];simp
theorem f2k{a b:List Int}(ha:InR a)(hb:InR b)(hla:a.length<1073741824)(hlb:b.length<1073741824):Ev (fun n=>a8f n a b) (dig (val a+val b).toNat):=by
 refine⟨max a.length b.length+3,fun n hn=> ?_⟩;show a8f n a b=_;unfold a8f;obtain⟨out,h1,h2,h3,h4⟩:=e7w n a b (fun(l2:List Int)=>(a1w n l2).bind fun v1=>some v1) ha hb hla hlb (val a+val b) n 0 0 [] rfl InR.nil (by decide) (by decide) (by simp [val,pw]) (.inl (by omega)) (by omega);refine Eq.trans h1 ?_;show(a1w n out).bind _=_;rw [b7q h2 (by omega) (by omega),h3];rfl
theorem d3u(n:Nat)(a b:List Int)(kont:List Int->Option (List Int))(ha:InR a)(hb:InR b)(hla:a.length<1073741824)(hlb:b.length<=a.length)(V:Int)(hV:0<=V):∀(us:List Int)(m i:Nat)(c:Int)(pre:List Int),
 a.drop i=us->us.length<m->pre.length=i->InR pre->0<=c->c<=1->val pre+pw i*(val us-val (b.drop i)-c)=V->
 ∃out,a5w n a b kont m c (i:Int) pre=kont out/\InR out/\val out=V/\out.length<=max a.length i
 | [],m+1,i,c,pre,hd,_,hp,hpr,h0,h1,hv=>by
  have hi:=drop_nil hd;refine⟨pre,?_,hpr,?_,by omega⟩
  ·unfold a5w;rw [show decide ((i:Int)<(a.length:Int))=false by simp;omega];rfl
  rw [b3d (by omega)]at hv;have h2:=val_lt hpr;rw [hp]at h2;have hc:c=0:=by
   rcases(show c=0∨c=1 by omega)with h|h
   ·exact h
   subst h;simp only [val]at hv;exfalso;have:pw i*(0-0-1)=-pw i:=by grind
   omega
  rw [<-hv,hc];simp [val]
 |x::us,m+1,i,c,pre,hd,hm,hp,hpr,h0,h1,hv=>by
  obtain⟨f1,f2,f3⟩:=drop_cons hd;have xr:=(show InR (x::us) by rw [<-hd];exact InR.drop ha i).head;have yr:=(InR.drop hb i).headD;have eb:=b1p b i;unfold a5w;rw [show decide ((i:Int)<(a.length:Int))=true by simpa using f3,cond_true,f1,b_s,c2m,b_s];generalize hy:(b.drop i).headD 0=y at*;have es:isub .i64 (isub .i64 x y) c=x-y-c:=by rw [a0t (x:=x) (y:=y) (by omega) (by omega),a0t (by omega) (by omega)]
  rw [es];have key:∀(q r:Int),x-y-c=r-1048576*q->0<=q->q<=1->0<=r->r<1048576->∃out,((app 8 pre [r]).bind fun l3=>a5w n a b kont m q (iadd .i64 (i:Int) 1) l3)=kont out/\InR out/\val out=V/\out.length<=max a.length i:=by
   intro q r hqr hq0 hq1 hr0 hr1;obtain⟨out,h3,h4,h5,h6⟩:=d3u n a b kont ha hb hla hlb V hV us m (i+1) q (pre++ [r]) f2 (by simpa using hm) (by simp [hp]) (hpr.append (InR.cons hr0 hr1 InR.nil)) hq0 hq1 (by
    rw [val_append,hp];have e3:val [r]=r:=by simp [val]
    rw [e3,show pw (i+1)=1048576*pw i from rfl,<-hv,eb];simp only [val];generalize val us=A at*;generalize val (b.drop (i+1))=B at*;generalize pw i=p at*;have hc:c=x-y-r+1048576*q:=by omega
    subst hc
    grind)
   exact⟨out,by rw [c1k (by simp;omega),b_s,inc64 (by omega),h3],h4,h5,by omega⟩
  by_cases hn:x-y-c<0
  ·rw [show decide (x-y-c<0)=true by simpa using hn,cond_true,b_s,a1k (by omega) (by omega)];exact key 1 (x-y-c+1048576) (by omega) (by omega) (by omega) (by omega) (by omega)
  rw [show decide (x-y-c<0)=false by simpa using hn,cond_false,b_s];exact key 0 (x-y-c) (by omega) (by omega) (by omega) (by omega) (by omega)
 |_,0,_,_,_,_,h,_,_,_,_,_=>by omega
theorem e5j{a b:List Int}(ha:InR a)(hb:InR b)(hla:a.length<1073741824)(hlb:b.length<=a.length)(h:val b<=val a):Ev (fun n=>a2q n a b) (dig (val a-val b).toNat):=by
 refine⟨a.length+2,fun n hn=> ?_⟩;show a2q n a b=_;unfold a2q;obtain⟨out,h1,h2,h3,h4⟩:=d3u n a b (fun(l2:List Int)=>(a1w n l2).bind fun v1=>some v1) ha hb hla hlb (val a-val b) (by omega) a n 0 0 [] rfl (by omega) rfl InR.nil (by decide) (by decide) (by simp [val,pw]);refine Eq.trans h1 ?_;show(a1w n out).bind _=_;rw [b7q h2 (by omega) (by omega),h3];rfl
theorem d8t(P:List Int)(z:Int)(S:List Int):val (P++z::S)=val P+pw P.length*(z+1048576*val S):=by rw [val_append];rfl
theorem d5z(n:Nat)(a b:List Int)(i:Nat)(x:Int)(kont:List Int->Option (List Int))(hx:ix a (i:Int)=some x)(hxr:0<=x/\x<1048576)(hb:InR b)(hla:a.length<1073741824)(hlb:b.length<1073741824)(W:Int)(hi:i<a.length)
 (hW:W<pw (i+b.length+1)):∀(m k:Nat)(c:Int)(l:List Int),InR l->l.length=a.length+b.length->0<=c->c<1048576->val l+pw (i+k)*(c+x*val (b.drop k))=W->(k<=b.length∨(k=b.length+1/\c=0))->b.length+2<=k+m->
 ∃l',a8q n a b (i:Int) kont m c (k:Int) l=kont l'/\InR l'/\l'.length=a.length+b.length/\val l'=W
 |0,k,_,_,_,_,_,_,_,h,h2=>by omega
 |m+1,k,c,l,hl,hlen,h0,h1,hv,hk,hm=>by
  unfold a8q;have yr:=(InR.drop hb k).headD;have eb:=b1p b k
  by_cases hgo:k<b.length∨0<c
  ·have e1:((bif decide ((k:Int)<(b.length:Int))then some true else some (decide (0<c))):Option Bool)=some true:=by
    by_cases g1:k<b.length
    ·rw [show decide ((k:Int)<(b.length:Int))=true by simpa using g1];rfl
    rw [show decide ((k:Int)<(b.length:Int))=false by simpa using g1,show decide (0<c)=true by simp;omega];rfl
   have hj:i+k<l.length:=by omega
   have ej:iadd .i64 (i:Int) (k:Int)=((i+k:Nat):Int):=by rw [a1k (by omega) (by omega)];omega
   have hsp:l=l.take (i+k)++l[i+k]::l.drop (i+k+1):=by rw [<-List.drop_eq_getElem_cons hj,List.take_append_drop]
   have hPl:(l.take (i+k)).length=i+k:=by simp;omega
   have hzr:=hl l[i+k] (List.getElem_mem hj);have hPr:=InR.take hl (i+k);have hSr:=InR.drop hl (i+k+1);have hlen2:=congrArg List.length hsp;simp only [List.length_append,List.length_cons]at hlen2;generalize l[i+k]=z at*;generalize l.take (i+k)=P at*;generalize l.drop (i+k+1)=S at*;generalize hy:(b.drop k).headD 0=y at*;have hmul:=b9v (g:=x) hxr.1 yr.1 yr.2;have em:imul .i64 x y=x*y:=a7i (by omega) (by omega);have es:iadd .i64 (iadd .i64 z (imul .i64 x y)) c=z+x*y+c:=by rw [em,a1k (x:=z) (y:=x*y) (by omega) (by omega),a1k (by omega) (by omega)]
   have hc':(z+x*y+c)/1048576<1048576:=by omega
   have hnv:val (P++(z+x*y+c) %1048576::S)+pw (i+(k+1))*((z+x*y+c)/1048576+x*val (b.drop (k+1)))=W:=by
    rw [hsp,d8t,hPl]at hv;rw [d8t,hPl,show i+(k+1)=(i+k)+1 by omega,show pw (i+k+1)=1048576*pw (i+k)from rfl,<-hv,eb];have hdm:z+x*y+c=(z+x*y+c) %1048576+1048576*((z+x*y+c)/1048576):=by omega
    generalize (z+x*y+c) %1048576=r at*;generalize (z+x*y+c)/1048576=q at*;generalize val (b.drop (k+1))=B at*;generalize pw (i+k)=p at*;generalize val P=vP at*;generalize val S=vS at*;have hc:c=r+1048576*q-z-x*y:=by omega
    subst hc
    grind
   have hir:InR (P++(z+x*y+c) %1048576::S):=hPr.append (InR.cons (by omega) (by omega) hSr);obtain⟨l',h3,h4,h5,h6⟩:=d5z n a b i x kont hx hxr hb hla hlb W hi hW m (k+1) ((z+x*y+c)/1048576) (P++(z+x*y+c) %1048576::S) hir (by simp only [List.length_append,List.length_cons];omega) (by omega) hc' hnv (by
    by_cases g:k<b.length
    ·left;omega
    right;refine⟨by omega,?_⟩;have hk2:k=b.length:=by omega
    rw [b3d (l:=b) (by omega),Int.mul_zero,Int.add_zero]at hnv;have hnn:=val_nonneg hir;have hp2:=pw_pos (i+(k+1));rw [show i+b.length+1=i+(k+1) by omega]at hW;generalize val (P++(z+x*y+c) %1048576::S)=vv at*;have hq0:0<=(z+x*y+c)/1048576:=by omega
    generalize (z+x*y+c)/1048576=q at*;rcases(show q=0∨1<=q by omega)with h|h
    ·exact h
    exfalso;have:=Int.mul_le_mul_of_nonneg_left h (Int.le_of_lt hp2);rw [Int.mul_one]at this;omega) (by omega)
   refine⟨l',?_,h4,h5,h6⟩;rw [e1,b_s,cond_true,ej];have g1:ix l ((i+k:Nat):Int)=some z:=by rw [hsp];exact a5e _ _ _ (by omega)
   have g2:lset l ((i+k:Nat):Int) ((z+x*y+c) %1048576)=some (P++(z+x*y+c) %1048576::S):=by rw [hsp];exact a9m _ _ _ _ (by omega)
   rw [g1,b_s,hx,b_s,c2m,b_s,hy,es,c2h (by omega) (by decide),b_s,b_s,g2,b_s,c2c (by omega) (by omega) (by decide),b_s,inc64 (by omega)];exact h3
  refine⟨l,?_,hl,hlen,?_⟩
  ·rw [show decide ((k:Int)<(b.length:Int))=false by simp;omega,show decide (0<c)=false by simp;omega];rfl
  rw [b3d (by omega)]at hv;rw [<-hv,show c=0 by omega];simp
theorem d5q(n:Nat)(a b:List Int)(kont:List Int->Option (List Int))(ha:InR a)(hb:InR b)(hla:a.length<1073741824)(hlb:b.length<1073741824)(hn:b.length+2<=n)(T:Int):∀(us:List Int)(i m:Nat)(l:List Int),
 a.drop i=us->us.length<m->InR l->l.length=a.length+b.length->val l<pw (i+b.length)->val l+pw i*(val us*val b)=T->
 ∃l',a4s n a b kont m (i:Int) l=kont l'/\InR l'/\l'.length=a.length+b.length/\val l'=T
 | [],i,m+1,l,hd,_,hl,hlen,_,hv=>by
  refine⟨l,?_,hl,hlen,?_⟩
  ·unfold a4s;have:=drop_nil hd;rw [show decide ((i:Int)<(a.length:Int))=false by simp;omega];rfl
  rw [<-hv];simp [val]
 |x::us,i,m+1,l,hd,hm,hl,hlen,hlt,hv=>by
  obtain⟨f1,f2,f3⟩:=drop_cons hd;have xr:=(show InR (x::us) by rw [<-hd];exact InR.drop ha i).head;unfold a4s;rw [show decide ((i:Int)<(a.length:Int))=true by simpa using f3,cond_true];have hbv:=val_lt hb;have hb0:=val_nonneg hb;have hpi:=pw_pos i;have hW:val l+pw i*(x*val b)<pw (i+b.length+1):=by
   have h1:x*val b<=1048575*pw b.length:=Int.le_trans (Int.mul_le_mul_of_nonneg_right (show x<=1048575 by omega) hb0) (Int.mul_le_mul_of_nonneg_left (Int.le_of_lt hbv) (by decide));have h2:=Int.mul_le_mul_of_nonneg_left h1 (Int.le_of_lt hpi);rw [d5l]at hlt;rw [show pw (i+b.length+1)=1048576*pw (i+b.length)from rfl,d5l];have h3:pw i*(1048575*pw b.length)=1048575*(pw i*pw b.length):=by grind
   omega
  obtain⟨l',h1,h2,h3,h4⟩:=d5z n a b i x (fun(l5:List Int)=>a4s n a b kont m (iadd .i64 (i:Int) 1) l5) f1 xr hb hla hlb (val l+pw i*(x*val b)) f3 hW n 0 0 l hl hlen (by decide) (by decide) (by simp) (.inl (by omega)) (by omega);obtain⟨l2,h5,h6,h7,h8⟩:=d5q n a b kont ha hb hla hlb hn T us (i+1) m l' f2 (by simpa using hm) h2 h3 (by rw [h4,show i+1+b.length=i+b.length+1 by omega];exact hW) (by
   rw [h4,<-hv,show pw (i+1)=1048576*pw i from rfl];simp only [val]
   grind)
  refine⟨l2,?_,h6,h7,h8⟩;refine Eq.trans h1 ?_;show a4s n a b kont m (iadd .i64 (i:Int) 1) l'=_;rw [inc64 (by omega)];exact h5
 |_,_,0,_,_,h,_,_,_,_=>by omega
theorem val_zeros:∀k,val (List.replicate k (0:Int))=0
 |0=>rfl
 |k+1=>by rw [List.replicate_succ];simp only [val,val_zeros k];rfl
theorem e3h(k:Nat):InR (List.replicate k (0:Int)):=fun e he=>by rw [(List.mem_replicate.1 he).2];decide
theorem e0u{a b:List Int}(ha:InR a)(hb:InR b)(hla:a.length<536870912)(hlb:b.length<536870912){n:Nat}(hn:a.length+b.length+2<n):a4j n a b=some (dig (val a*val b).toNat):=by
 unfold a4j;obtain⟨l',h1,h2,h3,h4⟩:=d5q n a b (fun(l3:List Int)=>(a1w n l3).bind fun v1=>some v1) ha hb (by omega) (by omega) (by omega) (val a*val b) a 0 n (List.replicate (a.length+b.length) 0) rfl (by omega) (e3h _) (by simp) (by rw [val_zeros];exact pw_pos _) (by rw [val_zeros];simp [pw]);rw [show iadd .i64 (a.length:Int) (b.length:Int)=((a.length+b.length:Nat):Int) by rw [a1k (by omega) (by omega)];omega,c7f (by omega),b_s];refine Eq.trans h1 ?_;show(a1w n l').bind _=_;rw [b7q h2 (by omega) (by omega),h4];rfl
theorem d2v{u v n:Nat}(hu:(dig u).length<536870912)(hv:(dig v).length<536870912)(hn:(dig u).length+(dig v).length+2<n):a4j n (dig u) (dig v)=some (dig (u*v)):=by
 rw [e0u (a1y u) (a1y v) hu hv hn,a1i,a1i,<-Int.natCast_mul,Int.toNat_natCast]
theorem d3n(n:Nat)(b r:Nat)(kont:Int->Option (List Int×List Int))(hb:0<b)(hlb:(dig b).length<536870900)(hlr:(dig r).length<536870900)(hn:(dig b).length+(dig r).length+8<n):∀(m:Nat)(lo hi:Nat),
 hi-lo<m->lo<hi->hi<=1048576->lo*b<=r->r<hi*b->a8c n (dig b) (dig r) kont m (lo:Int) (hi:Int)=kont ((r/b:Nat):Int)
 |0,_,_,h,_,_,_,_=>by omega
 |m+1,lo,hi,hm,hlt,hh,h1,h2=>by
  unfold a8c;rw [a0t (by omega) (by omega)]
  by_cases hg:1<hi-lo
  ·rw [show decide (1<(hi:Int)-(lo:Int))=true by simp;omega,cond_true,a1k (by omega) (by omega),c2c (by omega) (by omega) (by decide),b_s];have e1:((lo:Int)+(hi:Int))/2=(((lo+hi)/2:Nat):Int):=by omega
   rw [e1];generalize hmid:(lo+hi)/2=mid at*;have e2:a4j n (dig b) [(mid:Int)]=some (dig (b*mid)):=by
    rw [e0u (a1y b) (InR.cons (by omega) (by omega) InR.nil) (by omega) (by simp) (by simp;omega),a1i];have:val [(mid:Int)]=mid:=by simp [val]
    rw [this,<-Int.natCast_mul,Int.toNat_natCast]
   have hbm:(dig (b*mid)).length<=(dig b).length+1:=by
    have hs1:Sm (dig b).length (b:Int):=a6w (by rw [Int.natAbs_natCast];exact Nat.le_refl _);have hs2:Sm 1 (mid:Int):=by unfold Sm;rw [Int.natAbs_natCast,show pw 1=1048576 by decide];omega
    have:=a1d (hs1.mul hs2)
    rwa [<-Int.natCast_mul,Int.natAbs_natCast]at this
   rw [e2,b_s,e7o (a1y r) (a1y (b*mid)) (by omega) (by omega) (by omega),b_s,a1i,a1i]
   by_cases hl:r<b*mid
   ·rw [show decide ((r:Int)<((b*mid:Nat):Int))=true by rw [decide_eq_true_eq];omega,cond_true];exact d3n n b r kont hb hlb hlr hn m lo mid (by omega) (by omega) (by omega) h1 (by rw [Nat.mul_comm];exact hl)
   rw [show decide ((r:Int)<((b*mid:Nat):Int))=false by rw [decide_eq_false_iff_not];omega,cond_false];exact d3n n b r kont hb hlb hlr hn m mid hi (by omega) (by omega) hh (by rw [Nat.mul_comm];omega) h2
  rw [show decide (1<(hi:Int)-(lo:Int))=false by simp;omega,cond_false];have:hi=lo+1:=by omega
  subst this;have:r/b=lo:=by
   apply Nat.div_eq_of_lt_le
   ·exact h1
   exact h2
  rw [this]
theorem e9f{a b:List Int}(ha:InR a)(hb:InR b)(hla:a.length<1073741824)(hlb:b.length<=a.length)(h:val b<=val a){n:Nat}(hn:a.length+2<=n):a2q n a b=some (dig (val a-val b).toNat):=by
 unfold a2q;obtain⟨out,h1,h2,h3,h4⟩:=d3u n a b (fun(l2:List Int)=>(a1w n l2).bind fun v1=>some v1) ha hb hla hlb (val a-val b) (by omega) a n 0 0 [] rfl (by omega) rfl InR.nil (by decide) (by decide) (by simp [val,pw]);refine Eq.trans h1 ?_;show(a1w n out).bind _=_;rw [b7q h2 (by omega) (by omega),h3];rfl
theorem e0v{x H b:Nat}(hb:0<b):(x+1048576*H)/b=1048576*(H/b)+(x+1048576*(H %b))/b/\(x+1048576*H) %b=(x+1048576*(H %b)) %b:=by
 have h1:=Nat.div_add_mod H b;have e:x+1048576*H=(x+1048576*(H %b))+b*(1048576*(H/b)):=by
  generalize H/b=q at*;generalize H %b=r at*;rw [<-h1]
  grind
 rw [e,Nat.add_mul_div_left _ _ hb,Nat.add_mul_mod_self_left];omega
theorem d7x{v:Nat}(h:v<1048576):(dig v).length<=1:=by
 have h1:Sm 1 (v:Int):=by unfold Sm;rw [Int.natAbs_natCast,show pw 1=1048576 by decide];omega
 have:=a1d h1
 rwa [Int.natAbs_natCast]at this
theorem e1s(n:Nat)(a:List Int)(b:Nat)(kont:List Int->List Int->Option (List Int×List Int))(ha:InR a)(hb:0<b)(hla:a.length<536870800)(hlb:(dig b).length<536870800)(hn:a.length+2*(dig b).length+1048600<n):∀(i m:Nat)(H:Nat)(qs:List Int),
 i<=a.length->i<m->val (a.drop i)=H->InR qs->qs.length=a.length-i->val qs=((H/b:Nat):Int)->
 ∃out,a6t n a (dig b) kont m (dig (H %b)) ((i:Int)-1) (List.replicate i 0++qs)=kont (dig ((val a).toNat %b)) out/\InR out/\out.length=a.length/\val out=(((val a).toNat/b:Nat):Int)
 |0,m+1,H,qs,_,_,hH,hq,hql,hqv=>by
  refine⟨qs,?_,hq,by omega,?_⟩
  ·unfold a6t;rw [show decide ((0:Int)<=((0:Nat):Int)-1)=false by decide,cond_false];rw [List.drop_zero]at hH;rw [hH];rfl
  rw [List.drop_zero]at hH;rw [hqv,hH];rfl
 |i+1,m+1,H,qs,hi,hm,hH,hq,hql,hqv=>by
  unfold a6t;have hia:i<a.length:=by omega
  have hxr:=ha a[i] (List.getElem_mem hia);have hvd:=b1p a i;rw [List.drop_eq_getElem_cons hia]at hvd;simp only [List.headD_cons]at hvd;rw [<-List.drop_eq_getElem_cons hia]at hvd;rw [show((i+1:Nat):Int)-1=(i:Int) by omega,show decide (0<=(i:Int))=true by simp,cond_true,a9n,List.getElem?_eq_getElem hia,b_s];generalize a[i]=x at*;obtain⟨X,rfl⟩:=Int.eq_ofNat_of_zero_le hxr.1;have hmod:=Nat.mod_lt H hb;have hlr:=a4o (Nat.le_of_lt hmod);obtain⟨s1,s2⟩:=e0v (x:=X) (H:=H) hb;have hr':X+1048576*(H %b)<1048576*b:=by omega
  have hvl:val ((X:Int)::dig (H %b))=((X+1048576*(H %b):Nat):Int):=by simp only [val,a1i];omega
  rw [c1k (by simp;omega),b_s,List.singleton_append,b7q (InR.cons hxr.1 hxr.2 (a1y _)) (by simp;omega) (by simp;omega),b_s,hvl,Int.toNat_natCast];have hlr':(dig (X+1048576*(H %b))).length<=(dig b).length+1:=by
   have h1:=c2n (l:=(X:Int)::dig (H %b)) (InR.cons hxr.1 hxr.2 (a1y _));rw [hvl,Int.toNat_natCast]at h1;simp only [List.length_cons]at h1;omega
  generalize hR:X+1048576*(H %b)=R at*;have hlo:R/b<1048576:=by rw [Nat.div_lt_iff_lt_mul hb];omega
  have hlob:b*(R/b)<=R:=Nat.mul_div_le R b;have h2:=d3n n b R (fun(lo2:Int)=>
   (ix (List.replicate (i+1) 0++qs) (i:Int)).bind fun _=>
   (lset (List.replicate (i+1) 0++qs) (i:Int) lo2).bind fun l5=>
   (a1w n [lo2]).bind fun v3=>
   (a4j n (dig b) v3).bind fun v4=>
   (a2q n (dig R) v4).bind fun v5=>
   a6t n a (dig b) kont m v5 (isub .i64 (i:Int) 1) l5) hb (by omega) (by omega) (by omega) n 0 1048576 (by omega) (by omega) (by omega) (by omega) (by omega)
  generalize hL:R/b=L at*;have e1:List.replicate (i+1) (0:Int)++qs=List.replicate i 0++0::qs:=by rw [List.replicate_succ',List.append_assoc];rfl
  have e2:ix (List.replicate (i+1) (0:Int)++qs) (i:Int)=some 0:=by rw [e1];exact a5e _ _ _ (by simp)
  have e3:lset (List.replicate (i+1) (0:Int)++qs) (i:Int) ((L:Nat):Int)=some (List.replicate i 0++((L:Nat):Int)::qs):=by rw [e1];exact a9m _ _ _ _ (by simp)
  have e4:a1w n [((L:Nat):Int)]=some (dig (L)):=by
   rw [b7q (InR.cons (by omega) (by omega) InR.nil) (by simp) (by simp;omega)];simp [val]
  have hl1:=d7x hlo;have e5:a4j n (dig b) (dig (L))=some (dig (b*(L))):=d2v (by omega) (by omega) (by omega);have e6:a2q n (dig R) (dig (b*(L)))=some (dig (R %b)):=by
   have h3:=a4o hlob;rw [e9f (a1y _) (a1y _) (by omega) h3 (by rw [a1i,a1i];omega) (by omega),a1i,a1i]
   congr 2
   have:=Nat.div_add_mod R b;rw [hL]at this;omega
  have hnext:=e1s n a b kont ha hb hla hlb hn i m (X+1048576*H) (((L:Nat):Int)::qs) (by omega) (by omega) (by rw [hvd,hH];omega) (InR.cons (by omega) (by omega) hq) (by simp;omega) (by
   rw [s1];simp only [val];rw [hqv];omega)
  obtain⟨out,h4,h5,h6,h7⟩:=hnext;refine⟨out,?_,h5,h6,h7⟩;refine Eq.trans h2 ?_;show(ix (List.replicate (i+1) 0++qs) (i:Int)).bind _=_;rw [e2,b_s,e3,b_s,e4,b_s,e5,b_s,e6,b_s,a0t (by omega) (by omega),<-h4,s2]
 |_,0,_,_,_,h,_,_,_,_=>by omega
theorem f4q{A b:Nat}(hb:0<b)(hla:(dig A).length<536870800)(hlb:(dig b).length<536870800){n:Nat}(hn:(dig A).length+2*(dig b).length+1048600<n):a9j n (dig A) (dig b)=some (dig (A/b),dig (A %b)):=by
 unfold a9j;obtain⟨out,h1,h2,h3,h4⟩:=e1s n (dig A) b (fun(rx2:List Int)(l3:List Int)=>(a1w n l3).bind fun v1=>some (v1,rx2)) (a1y A) hb hla hlb hn (dig A).length n 0 [] (Nat.le_refl _) (by omega) (by rw [b3d (Nat.le_refl _)];rfl) InR.nil (by simp) (by rw [Nat.zero_div];rfl);rw [Nat.zero_mod,dig_zero,List.append_nil]at h1;rw [c7f (by omega),b_s,a0t (by omega) (by omega)];refine Eq.trans h1 ?_;show(a1w n out).bind _=_;rw [b7q h2 (by omega) (by omega),h4,a1i,Int.toNat_natCast,Int.toNat_natCast];rfl
theorem d2l{a:Big}(hl:a.Digits.length<1099511627776):Ev (fun n=>a1l n a) (a9w a):=⟨a.Digits.length+1,fun _ hn=>e4n hl hn⟩
theorem a4b{x:Int}{k:Nat}(h:Sm k x)(hk:k<1099511627776):Ev (fun n=>a1l n (toB x)) true:=by
 have:=a1d h;exact(d2l (a:=toB x) (by simp only [toB];omega)).eq (b8e x)
theorem e9g(s:Int){v:Nat}(h:(dig v).length<1099511627776):Ev (fun n=>a1r n s (dig v)) (if v=0 then⟨0,[]⟩else⟨s,dig v⟩):=by
 refine⟨(dig v).length+1,fun n hn=> ?_⟩;have h1:=f5c s (a1y v) h (n:=n) (by omega);rw [a1i,Int.toNat_natCast]at h1;exact h1
theorem a9y{s:Int}{v:Nat}(h:(dig v).length<1099511627776)(z:Int)(hz:z.natAbs=v)(hs:v≠0->s=sg z):Ev (fun n=>a1r n s (dig v)) (toB z):=(e9g s h).eq (a4v z hz hs)
theorem d5k(u v:Nat)(hu:(dig u).length<1073741824)(hv:(dig v).length<1073741824):Ev (fun n=>a8f n (dig u) (dig v)) (dig (u+v)):=
 (f2k (a1y u) (a1y v) hu hv).eq (by rw [a1i,a1i,<-Int.natCast_add,Int.toNat_natCast])
theorem c5b(u v:Nat)(hu:(dig u).length<1073741824)(h:v<=u):Ev (fun n=>a2q n (dig u) (dig v)) (dig (u-v)):=
 (e5j (a1y u) (a1y v) hu (a4o h) (by rw [a1i,a1i];omega)).eq (by rw [a1i,a1i];congr 1;omega)
theorem d6j(u v:Nat)(hu:(dig u).length<1099511627776)(hv:(dig v).length<1099511627776):Ev (fun n=>a6f n (dig u) (dig v)) (decide (u<v)):=
 ⟨max (dig u).length (dig v).length+1,fun n hn=>by
  show a6f n (dig u) (dig v)=_;rw [e7o (a1y u) (a1y v) hu hv (by omega),a1i,a1i]
  congr 1
  by_cases h:u<v<;>simp [h]⟩
theorem e4k(u v:Nat)(hu:(dig u).length<536870912)(hv:(dig v).length<536870912):Ev (fun n=>a4j n (dig u) (dig v)) (dig (u*v)):=
 ⟨(dig u).length+(dig v).length+3,fun n hn=>d2v hu hv (by omega)⟩
theorem d5e(u v:Nat)(h:v≠0)(hu:(dig u).length<536870800)(hv:(dig v).length<536870800):Ev (fun n=>a9j n (dig u) (dig v)) (dig (u/v),dig (u %v)):=
 ⟨(dig u).length+2*(dig v).length+1048601,fun n hn=>f4q (by omega) hu hv (by omega)⟩
theorem c9i{x:Int}{k:Nat}(h:Sm k x)(hk:k<1073741824):Ev (fun n=>b0x n (toB x)) (toB (-x)):=by
 have hl:=a1d h;unfold b0x;refine Ev.bind (a4b h (by omega)) ?_;refine Ev.else rfl ?_
 refine Ev.bind (a9y (v:=x.natAbs) (by omega) (-x) (by omega) (fun hne=> ?_)) (Ev.pure _);show IntKind.i64.wrap (0-sg x)=sg (-x);rcases a0p x with⟨a,b⟩|⟨a,b⟩|⟨a,b⟩<;>rw [b]
 ·rw [a3i (by omega)];decide
 ·omega
 rw [a3u (by omega)];decide
theorem d0v{x y:Int}{k:Nat}(hx:Sm k x)(hy:Sm k y)(hk:k<268435456):Ev (fun n=>a2z n (toB x) (toB y)) (toB (x*y),0):=by
 have lx:=a1d hx;have ly:=a1d hy;unfold a2z;refine Ev.bind (a4b hx (by omega)) ?_;refine Ev.bind (a:=false) (Ev.else rfl (Ev.bind (a4b hy (by omega)) (Ev.pure _))) ?_;refine Ev.else rfl ?_
 refine Ev.bind (e4k x.natAbs y.natAbs (by omega) (by omega)) ?_;have lm:(dig (x.natAbs*y.natAbs)).length<=k+k:=by
  have:=a1d (hx.mul hy)
  rwa [Int.natAbs_mul]at this
 refine Ev.bind (a9y (by omega) (x*y) (Int.natAbs_mul x y) (fun _=> ?_)) (Ev.pure _);exact b7d x y
theorem e1j{x y:Int}{k:Nat}(hx:Sm k x)(hy:Sm k y)(hk:k<536870912):Ev (fun n=>b4h n (toB x) (toB y)) (toB (x+y),0):=by
 have lx:=a1d hx;have ly:=a1d hy;unfold b4h;refine Ev.bind (a4b hx (by omega)) ?_;refine Ev.bind (a:=false) (Ev.else rfl (Ev.bind (a4b hy (by omega)) (Ev.pure _))) ?_;refine Ev.else rfl ?_
 have hplus:∀s,(x.natAbs+y.natAbs≠0->s=sg (x+y))->(x+y).natAbs=x.natAbs+y.natAbs->Ev (fun n=>(a8f n (dig x.natAbs) (dig y.natAbs)).bind fun v5=>(a1r n s v5).bind fun v6=>some ((⟨v6.Sign,v6.Digits⟩:Big),(0:Int))) (toB (x+y),0):=by
  intro s hs hz;have lp:(dig (x.natAbs+y.natAbs)).length<=k+1:=by
   have:=a1d (hx.add hy)
   rwa [hz]at this
  refine Ev.bind (d5k x.natAbs y.natAbs (by omega) (by omega)) ?_;exact Ev.bind (a9y (by omega) (x+y) hz hs) (Ev.pure _)
 have hless:(0<x/\y<0)∨(x<0/\0<y)->Ev (fun n=>(a6f n (dig x.natAbs) (dig y.natAbs)).bind fun v7=>
  bif v7 then
   (a2q n (dig y.natAbs) (dig x.natAbs)).bind fun v8=>
   (a1r n (sg y) v8).bind fun v9=>
   some ((⟨v9.Sign,v9.Digits⟩:Big),(0:Int))
  else
   (a2q n (dig x.natAbs) (dig y.natAbs)).bind fun v10=>
   (a1r n (sg x) v10).bind fun v11=>
   some ((⟨v11.Sign,v11.Digits⟩:Big),0)) (toB (x+y),0):=by
  intro hs;refine Ev.bind (d6j x.natAbs y.natAbs (by omega) (by omega)) ?_
  by_cases hl:x.natAbs<y.natAbs
  ·have l1:=a4o (Nat.sub_le y.natAbs x.natAbs);refine Ev.then (by simpa using hl) ?_
   refine Ev.bind (c5b y.natAbs x.natAbs (by omega) (by omega)) ?_;refine Ev.bind (a9y (by omega) (x+y) (by omega) (fun _=> ?_)) (Ev.pure _);rcases hs with⟨h1,h2⟩|⟨h1,h2⟩
   ·rw [a3u h2,a3u (by omega)]
   rw [a3i h2,a3i (by omega)]
  have l1:=a4o (Nat.sub_le x.natAbs y.natAbs);refine Ev.else (by simpa using hl) ?_
  refine Ev.bind (c5b x.natAbs y.natAbs (by omega) (by omega)) ?_;refine Ev.bind (a9y (by omega) (x+y) (by omega) (fun hne=> ?_)) (Ev.pure _);rcases hs with⟨h1,h2⟩|⟨h1,h2⟩
  ·rw [a3i h1,a3i (by omega)]
  rw [a3u h1,a3u (by omega)]
 rcases a0p x with⟨a,b⟩|⟨a,b⟩|⟨a,b⟩<;>rcases a0p y with⟨c,d⟩|⟨c,d⟩|⟨c,d⟩
 ·refine Ev.bind (a:=false) (Ev.else (by show(sg x==0)=false;rw [b];rfl) ((Ev.pure _).eq (by show(sg y==0)=false;rw [d];rfl))) ?_;refine Ev.bind (a:=true) (Ev.else rfl ((Ev.pure _).eq (by show(sg x==sg y)=true;rw [b,d];rfl))) ?_;exact Ev.then rfl (hplus _ (fun _=>by show ior .i64 (sg x) (sg y)=_;rw [b,d,a3u (by omega)];decide) (by omega))
 ·refine Ev.bind (a:=true) (Ev.else (by show(sg x==0)=false;rw [b];rfl) ((Ev.pure _).eq (by show(sg y==0)=true;rw [d];rfl))) ?_;refine Ev.bind (a:=true) (Ev.then rfl (Ev.pure _)) ?_;exact Ev.then rfl (hplus _ (fun _=>by show ior .i64 (sg x) (sg y)=_;rw [b,d,a3u (by omega)];decide) (by omega))
 ·refine Ev.bind (a:=false) (Ev.else (by show(sg x==0)=false;rw [b];rfl) ((Ev.pure _).eq (by show(sg y==0)=false;rw [d];rfl))) ?_;refine Ev.bind (a:=false) (Ev.else rfl ((Ev.pure _).eq (by show(sg x==sg y)=false;rw [b,d];rfl))) ?_;exact Ev.else rfl (hless (.inr ⟨a,c⟩))
 ·refine Ev.bind (a:=true) (Ev.then (by show(sg x==0)=true;rw [b];rfl) (Ev.pure _)) ?_;refine Ev.bind (a:=true) (Ev.then rfl (Ev.pure _)) ?_;exact Ev.then rfl (hplus _ (fun _=>by show ior .i64 (sg x) (sg y)=_;rw [b,d,a3u (by omega)];decide) (by omega))
 ·refine Ev.bind (a:=true) (Ev.then (by show(sg x==0)=true;rw [b];rfl) (Ev.pure _)) ?_;refine Ev.bind (a:=true) (Ev.then rfl (Ev.pure _)) ?_;exact Ev.then rfl (hplus _ (fun h=>by omega) (by omega))
 ·refine Ev.bind (a:=true) (Ev.then (by show(sg x==0)=true;rw [b];rfl) (Ev.pure _)) ?_;refine Ev.bind (a:=true) (Ev.then rfl (Ev.pure _)) ?_;exact Ev.then rfl (hplus _ (fun _=>by show ior .i64 (sg x) (sg y)=_;rw [b,d,a3i (by omega)];decide) (by omega))
 ·refine Ev.bind (a:=false) (Ev.else (by show(sg x==0)=false;rw [b];rfl) ((Ev.pure _).eq (by show(sg y==0)=false;rw [d];rfl))) ?_;refine Ev.bind (a:=false) (Ev.else rfl ((Ev.pure _).eq (by show(sg x==sg y)=false;rw [b,d];rfl))) ?_;exact Ev.else rfl (hless (.inl ⟨a,c⟩))
 ·refine Ev.bind (a:=true) (Ev.else (by show(sg x==0)=false;rw [b];rfl) ((Ev.pure _).eq (by show(sg y==0)=true;rw [d];rfl))) ?_;refine Ev.bind (a:=true) (Ev.then rfl (Ev.pure _)) ?_;exact Ev.then rfl (hplus _ (fun _=>by show ior .i64 (sg x) (sg y)=_;rw [b,d,a3i (by omega)];decide) (by omega))
 refine Ev.bind (a:=false) (Ev.else (by show(sg x==0)=false;rw [b];rfl) ((Ev.pure _).eq (by show(sg y==0)=false;rw [d];rfl))) ?_;refine Ev.bind (a:=true) (Ev.else rfl ((Ev.pure _).eq (by show(sg x==sg y)=true;rw [b,d];rfl))) ?_;exact Ev.then rfl (hplus _ (fun _=>by show ior .i64 (sg x) (sg y)=_;rw [b,d,a3i (by omega)];decide) (by omega))
theorem f2n{x y:Int}{k:Nat}(hx:Sm k x)(hy:Sm k y)(hk:k<536870912):Ev (fun n=>b7n n (toB x) (toB y)) (toB (x-y),0):=by
 unfold b7n;refine Ev.bind (a4b hy (by omega)) ?_;refine Ev.else rfl ?_
 refine Ev.bind (Ev.bind (c9i hy (by omega)) (Ev.bind (e1j hx hy.neg hk) (Ev.pure _))) ((Ev.pure _).eq ?_);rw [Int.sub_eq_add_neg]
theorem d9e{x y:Int}{k:Nat}(hx:Sm k x)(hy:Sm k y)(hk:k<8388608)(hy0:y≠0):Ev (fun n=>b1g n (toB x) (toB y)) (toB (dq x y),toB (dr x y),0):=by
 have lx:=a1d hx;have ly:=a1d hy;have hyn:y.natAbs≠0:=by omega
 have hmod:=Nat.mod_lt x.natAbs (show y.natAbs>0 by omega);have hdivle:x.natAbs/y.natAbs<=x.natAbs:=Nat.div_le_self _ _;have lq:=a4o hdivle;have lr:=a4o (Nat.le_of_lt hmod);have lq1:(dig (x.natAbs/y.natAbs+1)).length<=k+1:=by
  have h:Sm (k+1) ((x.natAbs/y.natAbs+1:Nat):Int):=by
   generalize x.natAbs/y.natAbs=q at*;unfold Sm at*;rw [Int.natAbs_natCast];simp only [pw];have:=pw_pos k;omega
  have:=a1d h
  rwa [Int.natAbs_natCast]at this
 have ls:=a4o (show y.natAbs-x.natAbs %y.natAbs<=y.natAbs by omega);unfold b1g;refine Ev.bind (a4b hx (by omega)) ?_;refine Ev.bind (a:=false) (Ev.else rfl (Ev.bind (a4b hy (by omega)) (Ev.pure _))) ?_;refine Ev.else rfl ?_
 refine Ev.else (by show(sg y==0)=false;rcases a0p y with h|h|h<;>first|(rw [h.2];rfl)|omega) ?_
 refine Ev.bind (d5e x.natAbs y.natAbs hyn (by omega) (by omega)) ?_;refine Ev.step (a:= !odd x y) (by
  show(bif decide (0<=imul .i64 (sg x) (sg y))then some true else some (((dig (x.natAbs %y.natAbs)).length:Int)==0))=_;rw [b7d];unfold odd;have e1:decide (0<=sg (x*y))= !decide (x*y<0):=by
   rcases a0p (x*y)with⟨h1,h2⟩|⟨h1,h2⟩|⟨h1,h2⟩<;>rw [h2]<;>simp<;>omega
  have e2:(((dig (x.natAbs %y.natAbs)).length:Int)==0)= !decide (x.natAbs %y.natAbs≠0):=by
   by_cases h:x.natAbs %y.natAbs=0
   ·rw [h,dig_zero];rfl
   have:=b8x h;have h3:0<(dig (x.natAbs %y.natAbs)).length:=List.length_pos_iff.2 this;rw [beq_false_of_ne (by omega),decide_eq_true h];rfl
  rw [e1,e2];cases decide (x*y<0)<;>rfl) ?_
 by_cases ho:odd x y=true
 ·refine Ev.else (by rw [ho];rfl) ?_
  refine Ev.bind (a:=dig (x.natAbs/y.natAbs+1)) (by
   have:=d5k (x.natAbs/y.natAbs) 1 (by omega) (by rw [dig_one];simp)
   rwa [dig_one]at this) ?_
  refine Ev.bind (a9y (by omega) (dq x y) (d6a ho).1 (fun _=>(d6a ho).2.symm)) ?_;refine Ev.bind (c5b y.natAbs (x.natAbs %y.natAbs) (by omega) (by omega)) ?_;exact Ev.bind (a9y (by omega) (dr x y) (d6k hy0 ho).1 (fun _=>(d6k hy0 ho).2.symm)) (Ev.pure _)
 refine Ev.then (by simpa using ho) ?_
 refine Ev.bind (a9y (by omega) (dq x y) (d0u hy0 ho).1 (fun h=>by show imul .i64 (sg x) (sg y)=_;rw [b7d];exact(d0u hy0 ho).2 h)) ?_;exact Ev.bind (a9y (by omega) (dr x y) (d0n ho).1 (d0n ho).2) (Ev.pure _)
theorem d8u(n:Nat)(a b:Big)(kont:Option Bool)(hl:a.Digits.length=b.Digits.length)(hla:a.Digits.length<1099511627776):∀(us:List Int)(i m:Nat),a.Digits.drop i=us->us.length<m->ref04_Same_L1 n a b kont m (i:Int)=bif decide (us=b.Digits.drop i)then kont else some false
 | [],i,m+1,hd,_=>by
  rw [ref04_Same_L1_s];have:=drop_nil hd;have hb:b.Digits.drop i= []:=List.drop_eq_nil_of_le (by omega);rw [show decide ((i:Int)<(a.Digits.length:Int))=false by simp;omega,hb];rfl
 |x::xs,i,m+1,hd,hm=>by
  rw [ref04_Same_L1_s];obtain⟨f1,f2,f3⟩:=drop_cons hd;have hdb:b.Digits.drop i=b.Digits[i]::b.Digits.drop (i+1):=List.drop_eq_getElem_cons (by omega);rw [show decide ((i:Int)<(a.Digits.length:Int))=true by simp;omega,cond_true,f1,b_s,(drop_cons hdb).1,b_s,hdb]
  by_cases h:x=b.Digits[i]
  ·rw [show(x !=b.Digits[i])=false by simp [h],cond_false,inc64 (by omega),d8u n a b kont hl hla xs (i+1) m f2 (by simpa using hm),e6x,show decide (x=b.Digits[i])=true by simpa using h,Bool.true_and]
  rw [show(x !=b.Digits[i])=true by simpa using h,cond_true,e6x,show decide (x=b.Digits[i])=false by simpa using h];rfl
 |_,_,0,_,h=>by omega
theorem e4o{a b:Big}(hl:a.Digits.length<1099511627776):Ev (fun n=>b1v n a b) (decide (a=b)):=by
 unfold b1v;obtain⟨s,l⟩:=a;obtain⟨t,k⟩:=b
 by_cases h:s=t
 ·subst h
  by_cases hlen:l.length=k.length
  ·refine Ev.step (a:=false) (by simp [hlen]) ?_;refine Ev.else rfl ⟨l.length+1,fun n hn=> ?_⟩
   have h1:=d8u n ⟨s,l⟩ ⟨s,k⟩ (some true) hlen hl l 0 n rfl (by omega);rw [show((0:Nat):Int)=0 from rfl,List.drop_zero]at h1;dsimp only at h1⊢;rw [h1]
   by_cases h2:l=k
   ·simp [h2]
   simp [h2]
  refine Ev.step (a:=true) (by simp;omega) ?_;have:l≠k:=fun e=>hlen (by rw [e]);exact Ev.then rfl ((Ev.pure _).eq (by simp [this]))
 refine Ev.step (a:=true) (by rw [show(s !=t)=true by simpa using h,cond_true]) ?_;exact Ev.then rfl ((Ev.pure _).eq (by simp [h]))
theorem d9k{x y:Int}{k:Nat}(h:Sm k x)(hk:k<1099511627776):Ev (fun n=>b1v n (toB x) (toB y)) (decide (x=y)):=by
 have h1:=e4o (a:=toB x) (b:=toB y) (by have:=a1d h;simp only [toB];omega);refine h1.eq ?_
 by_cases hxy:x=y
 ·simp [hxy]
 have:toB x≠toB y:=fun e=>hxy (d4m e);simp [hxy,this]
theorem f3x(v:Nat):∀(u:Nat),(dig u).length<16777216->(dig v).length<16777216->∃N,∀n,N<=n->∀(kont:List Int->Option (Big×Int))m,v<m->a9g n kont m (dig u) (dig v)=kont (dig (Nat.gcd u v)):=by
 induction v using Nat.strongRecOn with
 |ind v ih=>
  intro u hu hv
  by_cases h:v=0
  ·subst h;refine⟨0,fun n _ kont m hm=> ?_⟩;obtain⟨m,rfl⟩:∃m',m=m'+1:=⟨m-1,by omega⟩
   rw [dig_zero,Nat.gcd_zero_right];rfl
  have hlt:=Nat.mod_lt u (show v>0 by omega);obtain⟨N1,h1⟩:=d5e u v h (by omega) (by omega);obtain⟨N2,h2⟩:=ih (u %v) hlt v hv (by have:=a4o (Nat.le_of_lt hlt);omega);refine⟨max N1 N2,fun n hn kont m hm=> ?_⟩;obtain⟨m,rfl⟩:∃m',m=m'+1:=⟨m-1,by omega⟩
  have h3:0<(dig v).length:=List.length_pos_iff.2 (b8x h);unfold a9g;rw [show decide (0<((dig v).length:Int))=true by simp;omega,cond_true,(show a9j n (dig u) (dig v)=_ from h1 n (by omega)),b_s];show a9g n kont m (dig v) (dig (u %v))=_;rw [h2 n (by omega) kont m (by omega),Nat.gcd_comm v,<-Nat.gcd_rec,Nat.gcd_comm]
theorem e3z{x y:Int}{k:Nat}(hx:Sm k x)(hy:Sm k y)(hk:k<8388608):Ev (fun n=>b2s n (toB x) (toB y)) (toB (Nat.gcd x.natAbs y.natAbs:Nat),0):=by
 have lx:=a1d hx;have ly:=a1d hy;unfold b2s;refine Ev.bind (a4b hx (by omega)) ?_;refine Ev.bind (a:=false) (Ev.else rfl (Ev.bind (a4b hy (by omega)) (Ev.pure _))) ?_;refine Ev.else rfl ?_
 obtain⟨N,hN⟩:=f3x y.natAbs x.natAbs (by omega) (by omega);have lg:(dig (Nat.gcd x.natAbs y.natAbs)).length<=k:=by
  rcases Nat.eq_zero_or_pos x.natAbs with h|h
  ·rw [h,Nat.gcd_zero_left];exact ly
  exact Nat.le_trans (a4o (Nat.gcd_le_left _ h)) lx
 refine Ev.from (g:=fun n=>(a1r n 1 (dig (Nat.gcd x.natAbs y.natAbs))).bind fun v3=>some ((⟨v3.Sign,v3.Digits⟩:Big),(0:Int))) (max N (y.natAbs+1)) (fun n hn=>hN n (by omega) _ n (by omega)) ?_
 exact Ev.bind (a9y (by omega) ((Nat.gcd x.natAbs y.natAbs:Nat):Int) (Int.natAbs_natCast _) (fun h=>(a3i (by omega)).symm)) (Ev.pure _)
theorem c6n{x y:Int}{k:Nat}(hx:Sm k x)(hy:Sm k y)(hk:k<536870912):Ev (fun n=>a7y n (toB x) (toB y)) (sg (x-y)):=by
 have lx:=a1d hx;have ly:=a1d hy;unfold a7y;refine Ev.bind (a4b hx (by omega)) ?_;refine Ev.bind (a:=false) (Ev.else rfl (Ev.bind (a4b hy (by omega)) (Ev.pure _))) ?_;refine Ev.bind (Ev.else rfl (Ev.bind (d9k (y:=y) hx (by omega)) (Ev.pure _))) ?_
 by_cases hxy:x=y
 ·exact Ev.then (by simpa using hxy) ((Ev.pure _).eq (by rw [hxy,Int.sub_self];rfl))
 refine Ev.else (by simpa using hxy) ?_
 show Ev (fun n=>bif sg x !=sg y then(bif decide (sg x<sg y)then some (-1)else some 1)else(a6f n (dig x.natAbs) (dig y.natAbs)).bind fun v4=>bif v4==decide (0<sg x)then some (-1)else some 1) (sg (x-y));have hless:=d6j x.natAbs y.natAbs (by omega) (by omega);rcases a0p x with⟨a,b⟩|⟨a,b⟩|⟨a,b⟩<;>rcases a0p y with⟨c,d⟩|⟨c,d⟩|⟨c,d⟩<;>rw [b,d]
 ·refine Ev.else rfl (Ev.bind hless ?_)
  by_cases h:x.natAbs<y.natAbs
  ·rw [decide_eq_true h,a3i (by omega)];exact Ev.pure _
  rw [decide_eq_false h,a3u (by omega)];exact Ev.pure _
 ·rw [a3u (by omega)];exact Ev.pure _
 ·rw [a3u (by omega)];exact Ev.pure _
 ·rw [a3i (by omega)];exact Ev.pure _
 ·omega
 ·rw [a3u (by omega)];exact Ev.pure _
 ·rw [a3i (by omega)];exact Ev.pure _
 ·rw [a3i (by omega)];exact Ev.pure _
 refine Ev.else rfl (Ev.bind hless ?_)
 by_cases h:x.natAbs<y.natAbs
 ·rw [decide_eq_true h,a3u (by omega)];exact Ev.pure _
 rw [decide_eq_false h,a3i (by omega)];exact Ev.pure _
theorem f5v{s:Int}(hs:s=1∨s=-1)(u:Nat):rem (s*u) 1048576=some (s*((u %1048576:Nat):Int)):=by
 have h:=c2h (x:=(u:Int)) (y:=1048576) (by omega) (by decide);rcases hs with rfl|rfl
 ·rw [Int.one_mul,Int.one_mul,h];congr 1
 unfold rem at h⊢;rw [if_neg (by decide)]at h⊢;have h2:=Option.some.inj h;rw [show(-1:Int)*(u:Int)=-(u:Int) by omega,Int.neg_tmod,h2]
 congr 1;omega
theorem f5h{s:Int}(hs:s=1∨s=-1){u:Nat}(hu:u<=9223372036854775808):quo .i64 (s*u) 1048576=some (s*((u/1048576:Nat):Int)):=by
 have h:(u:Int).tdiv 1048576=((u/1048576:Nat):Int):=by rw [Int.tdiv_eq_ediv_of_nonneg (by omega)];omega
 unfold quo;rw [if_neg (by decide)];rcases hs with rfl|rfl
 ·rw [Int.one_mul,Int.one_mul,h,a5o (by omega) (by omega)]
 rw [show(-1:Int)*(u:Int)=-(u:Int) by omega,Int.neg_tdiv,h,a5o (by omega) (by omega)]
 congr 1;omega
theorem f4k(n:Nat)(kont:List Int->Option Big){s:Int}(hs:s=1∨s=-1):∀(u m:Nat)(acc:List Int),u<=9223372036854775808->(dig u).length<m->acc.length+(dig u).length<1099511627776->b0n n kont m (s*(u:Int)) acc=kont (acc++dig u):=by
 intro u;induction u using Nat.strongRecOn with
 |ind u ih=>
  intro m acc hu hm ha;obtain⟨m,rfl⟩:∃m',m=m'+1:=⟨m-1,by omega⟩
  unfold b0n
  by_cases h:u=0
  ·subst h;rw [dig_zero,List.append_nil,show(s*((0:Nat):Int) !=0)=false by simp];rfl
  have hd:=b5i h;rw [hd]at hm ha;simp only [List.length_cons]at hm ha;have hne:(s*(u:Int) !=0)=true:=by
   rw [bne_iff_ne];rcases hs with rfl|rfl<;>omega
  rw [hne,cond_true,f5v hs,b_s];have e1:(bif decide (s*((u %1048576:Nat):Int)<0)then some (IntKind.i64.wrap (0-s*((u %1048576:Nat):Int)))else some (s*((u %1048576:Nat):Int)))=some ((u %1048576:Nat):Int):=by
   have hlt:=Nat.mod_lt u (show 1048576>0 by decide);generalize u %1048576=r at*
   by_cases hn:s*(r:Int)<0
   ·rw [decide_eq_true hn,cond_true]
    congr 1
    rcases hs with rfl|rfl
    ·omega
    rw [a5o (by omega) (by omega)];omega
   rw [decide_eq_false hn,cond_false]
   congr 1
   rcases hs with rfl|rfl<;>omega
  rw [e1,b_s,c1k (by simp;omega),b_s,f5h hs hu,b_s,ih (u/1048576) (by omega) m _ (by omega) (by omega) (by simp;omega),hd];simp
theorem e2v{x:Int}(h1:-9223372036854775808<=x)(h2:x<=9223372036854775807):Ev (fun n=>b3f n x) (toB x):=by
 have hl:=d1m (u:=x.natAbs) (by omega)
 by_cases h0:x=0
 ·subst h0;exact(Ev.pure _).eq toB_zero.symm
 have hm:∀s:Int,s=sg x->Ev (fun n=>(a1r n s (dig x.natAbs)).bind fun v1=>some (⟨v1.Sign,v1.Digits⟩:Big)) (toB x):=fun s hs=>Ev.bind (a9y (by omega) x rfl (fun _=>hs)) (Ev.pure _);refine Ev.from (g:=fun n=>(a1r n (sg x) (dig x.natAbs)).bind fun v1=>some (⟨v1.Sign,v1.Digits⟩:Big)) 5 (fun n hn=> ?_) (hm _ rfl)
 show b3f n x=_;unfold b3f;rw [show(x==0)=false from beq_false_of_ne h0,cond_false]
 by_cases hx:x<0
 ·rw [decide_eq_true hx,cond_true,b_s,a3u hx];have h3:=f4k n (fun(l2:List Int)=>(a1r n (-1) l2).bind fun v1=>some (⟨v1.Sign,v1.Digits⟩:Big)) (s:=-1) (.inr rfl) x.natAbs n [] (by omega) (by omega) (by simp;omega);rw [show(-1:Int)*(x.natAbs:Int)=x by omega,List.nil_append]at h3;exact h3
 rw [decide_eq_false hx,cond_false,b_s,a3i (by omega)];have h3:=f4k n (fun(l2:List Int)=>(a1r n 1 l2).bind fun v1=>some (⟨v1.Sign,v1.Digits⟩:Big)) (s:=1) (.inl rfl) x.natAbs n [] (by omega) (by omega) (by simp;omega);rw [show(1:Int)*(x.natAbs:Int)=x by omega,List.nil_append]at h3;exact h3
theorem d5r{f:Big}{k:Nat}(h:f.Digits.length<=k)(hk:k<8388608):Ev (fun n=>a1l n f) (a9w f):=d2l (by omega)
theorem b7k{f:Frac}{k:Nat}(hp:f.P.Digits.length<=k)(hq:f.Q.Digits.length<=k)(hk:k<8388608):Ev (fun n=>a0y n f) (a4x f):=by
 unfold a0y;refine Ev.bind (d5r (f:=f.P) hp hk) ?_;cases hP:a9w f.P with
 |false=>exact Ev.bind (a:=true) (Ev.then rfl (Ev.pure _)) (Ev.bind (a:=true) (Ev.then rfl (Ev.pure _)) (Ev.then rfl ((Ev.pure _).eq (by unfold a4x;rw [hP];rfl))))
 |true=>
  refine Ev.bind (a:= !a9w f.Q) (Ev.else rfl (Ev.bind (d5r (f:=f.Q) hq hk) (Ev.pure _))) ?_;cases hQ:a9w f.Q with
  |false=>exact Ev.bind (a:=true) (Ev.then rfl (Ev.pure _)) (Ev.then rfl ((Ev.pure _).eq (by unfold a4x;rw [hP,hQ];rfl)))
  |true=>
   obtain⟨P,Q⟩:=f;obtain⟨p,rfl⟩:=a9i hP;obtain⟨q,rfl⟩:=a9i hQ;have hp':Sm k p:=a6w hp;have hq':Sm k q:=a6w hq;refine Ev.bind (a:=decide (sg q<1)) (Ev.else rfl (Ev.pure _)) ?_
   by_cases hs:0<q
   ·refine Ev.else (by rw [a3i hs];rfl) ?_
    have hg:=d0y hp' hq';refine Ev.bind (e3z hp' hq' hk) ?_;refine Ev.bind (e2v (x:=1) (by decide) (by decide)) ?_;refine Ev.bind (c6n (k:=k+1) (hg.mono (by omega)) (sm01 (by decide) (by decide) (by omega)) (by omega)) ((Ev.pure _).eq ?_);unfold a4x;have hs1:(toB q).Sign=1:=a3i hs;rw [hP,hQ,b3q,b3q,hs1];have e:(sg ((Nat.gcd p.natAbs q.natAbs:Nat)-1:Int)==0)=decide (((Nat.gcd p.natAbs q.natAbs:Nat):Int)-1=0):=b2p _;rw [e]
    by_cases hg:Nat.gcd p.natAbs q.natAbs=1
    ·rw [hg];rfl
    rw [decide_eq_false (by omega)];simp [hg]
   refine Ev.then (by
    have:=a0p q;exact decide_eq_true (by omega)) ((Ev.pure _).eq ?_)
   unfold a4x;have hs1:((toB q).Sign==1)=false:=by
    have h1:(toB q).Sign=sg q:=rfl;have:=a0p q;rw [h1,beq_eq_false_iff_ne];omega
   rw [hP,hQ,hs1];rfl
theorem a3k{r:Rat}{k:Nat}(h:SmF k r)(hk:k<8388608):Ev (fun n=>a0y n (toF r)) true:=(b7k (b3n h).1 (b3n h).2 hk).eq (c2g r)
section
variable{p q:Int}{k:Nat}(hp:Sm k p)(hq:Sm k q)(hk:k<8388608)
include hp hq hk
theorem d2x(h0:0<q):Ev (fun n=>
 (b2s n (⟨(toB p).Sign,(toB p).Digits⟩:Big) (⟨(toB q).Sign,(toB q).Digits⟩:Big)).bind fun v3=>
 (b1g n (⟨(toB p).Sign,(toB p).Digits⟩:Big) (⟨v3.1.Sign,v3.1.Digits⟩:Big)).bind fun v4=>
 (b1g n (⟨(toB q).Sign,(toB q).Digits⟩:Big) (⟨v3.1.Sign,v3.1.Digits⟩:Big)).bind fun v5=>
 some ((⟨(⟨v4.1.Sign,v4.1.Digits⟩:Big),(⟨v5.1.Sign,v5.1.Digits⟩:Big)⟩:Frac),(0:Int))) (toF (Rat.divInt p q),0):=by
 have hg:0<Nat.gcd p.natAbs q.natAbs:=Nat.gcd_pos_of_pos_right _ (by omega);have hgs:=d0y hp hq;obtain⟨e1,e2⟩:=b4f (p:=p) h0;refine Ev.bind (e3z hp hq hk) ?_;refine Ev.bind (d9e hp hgs hk (by omega)) ?_;refine Ev.bind (d9e hq hgs hk (by omega)) ((Ev.pure _).eq ?_);unfold toF;rw [e1,e2,<-d5n (by omega),<-d5n (by omega)]
theorem c5k(h0:q≠0):Ev (fun n=>a9z n (toB p) (toB q)) (toF (Rat.divInt p q),0):=by
 unfold a9z;refine Ev.bind (a4b hp (by omega)) ?_;refine Ev.bind (a:=false) (Ev.else rfl (Ev.bind (a4b hq (by omega)) (Ev.pure _))) ?_;refine Ev.else rfl ?_
 refine Ev.else (by show(sg q==0)=false;rw [b2p];simpa using h0) ?_
 by_cases hn:q<0
 ·refine Ev.bind (Ev.then (by show decide (sg q<0)=true;rw [a3u hn];rfl) (Ev.bind (c9i hp (by omega)) (Ev.bind (c9i hq (by omega)) (Ev.pure _)))) ?_;rw [b9o];exact d2x hp.neg hq.neg hk (by omega)
 refine Ev.bind (Ev.else (by show decide (sg q<0)=false;rw [a3i (by omega)];rfl) (Ev.pure _)) ?_;exact d2x hp hq hk (by omega)
end
section
variable{a b:Rat}{j k:Nat}(ha:SmF j a)(hb:SmF k b)(hk:j+k<4000000)
include ha hb hk
theorem rmul_PQ:Ev (fun n=>a2z n (⟨(toF a).P.Sign,(toF a).P.Digits⟩:Big) (⟨(toF b).Q.Sign,(toF b).Q.Digits⟩:Big)) (toB (a.num*b.den),0):=
 d0v (ha.1.mono (by omega:j<=j+k)) (hb.2.mono (by omega:k<=j+k)) (by omega)
theorem rmul_QP:Ev (fun n=>a2z n (⟨(toF a).Q.Sign,(toF a).Q.Digits⟩:Big) (⟨(toF b).P.Sign,(toF b).P.Digits⟩:Big)) (toB (a.den*b.num),0):=
 d0v (ha.2.mono (by omega:j<=j+k)) (hb.1.mono (by omega:k<=j+k)) (by omega)
theorem rmul_PP:Ev (fun n=>a2z n (⟨(toF a).P.Sign,(toF a).P.Digits⟩:Big) (⟨(toF b).P.Sign,(toF b).P.Digits⟩:Big)) (toB (a.num*b.num),0):=
 d0v (ha.1.mono (by omega:j<=j+k)) (hb.1.mono (by omega:k<=j+k)) (by omega)
theorem rmul_QQ:Ev (fun n=>a2z n (⟨(toF a).Q.Sign,(toF a).Q.Digits⟩:Big) (⟨(toF b).Q.Sign,(toF b).Q.Digits⟩:Big)) (toB ((a.den:Int)*b.den),0):=
 d0v (ha.2.mono (by omega:j<=j+k)) (hb.2.mono (by omega:k<=j+k)) (by omega)
theorem QAdd_ev:Ev (fun n=>a7m n (toF a) (toF b)) (toF (a+b),0):=by
 have m1:Sm (j+k+1) (a.num*b.den):=(ha.1.mul hb.2).mono (by omega);have m2:Sm (j+k+1) (b.num*a.den):=(hb.1.mul ha.2).mono (by omega);have m3:Sm (j+k+1) ((a.den:Int)*b.den):=(ha.2.mul hb.2).mono (by omega);have m4:Sm (j+k+1) (a.num*b.den+b.num*a.den):=(ha.1.mul hb.2).add ((hb.1.mul ha.2).mono (by omega));unfold a7m;refine Ev.bind (a3k ha (by omega)) ?_;refine Ev.bind (a:=false) (Ev.else rfl (Ev.bind (a3k hb (by omega)) (Ev.pure _))) ?_;refine Ev.else rfl ?_
 refine Ev.bind (rmul_PQ ha hb hk) (Ev.bind (rmul_PQ hb ha (by omega)) (Ev.bind (rmul_QQ ha hb hk) ?_));refine Ev.bind (e1j m1 m2 (by omega)) ?_;refine Ev.bind (c5k m4 m3 (by omega) (b8r (b0w a) (b0w b))) ((Ev.pure _).eq ?_);rw [d0o]
theorem QSub_ev:Ev (fun n=>b7b n (toF a) (toF b)) (toF (a-b),0):=by
 have m1:Sm (j+k+1) (a.num*b.den):=(ha.1.mul hb.2).mono (by omega);have m2:Sm (j+k+1) (b.num*a.den):=(hb.1.mul ha.2).mono (by omega);have m3:Sm (j+k+1) ((a.den:Int)*b.den):=(ha.2.mul hb.2).mono (by omega);have m4:Sm (j+k+1) (a.num*b.den-b.num*a.den):=(ha.1.mul hb.2).sub ((hb.1.mul ha.2).mono (by omega));unfold b7b;refine Ev.bind (a3k ha (by omega)) ?_;refine Ev.bind (a:=false) (Ev.else rfl (Ev.bind (a3k hb (by omega)) (Ev.pure _))) ?_;refine Ev.else rfl ?_
 refine Ev.bind (rmul_PQ ha hb hk) (Ev.bind (rmul_PQ hb ha (by omega)) (Ev.bind (rmul_QQ ha hb hk) ?_));refine Ev.bind (f2n m1 m2 (by omega)) ?_;refine Ev.bind (c5k m4 m3 (by omega) (b8r (b0w a) (b0w b))) ((Ev.pure _).eq ?_);have e:a-b=Rat.divInt (a.num*b.den-b.num*a.den) (a.den*b.den):=by
  rw [Rat.sub_eq_add_neg,d0o,Rat.neg_num,Rat.neg_den,Int.neg_mul,<-Int.sub_eq_add_neg]
 rw [e]
theorem QMul_ev:Ev (fun n=>a8s n (toF a) (toF b)) (toF (a*b),0):=by
 unfold a8s;refine Ev.bind (a3k ha (by omega)) ?_;refine Ev.bind (a:=false) (Ev.else rfl (Ev.bind (a3k hb (by omega)) (Ev.pure _))) ?_;refine Ev.else rfl ?_
 refine Ev.bind (rmul_PP ha hb hk) (Ev.bind (rmul_QQ ha hb hk) ?_);refine Ev.bind (c5k (ha.1.mul hb.1) (ha.2.mul hb.2) (by omega) (b8r (b0w a) (b0w b))) ((Ev.pure _).eq ?_);rw [d3t]
theorem e3b(h0:b.num≠0):Ev (fun n=>b4c n (toF a) (toF b)) (toF (a/b),0):=by
 unfold b4c;refine Ev.bind (a3k ha (by omega)) ?_;refine Ev.bind (a:=false) (Ev.else rfl (Ev.bind (a3k hb (by omega)) (Ev.pure _))) ?_;refine Ev.else rfl ?_
 refine Ev.else (by show(sg b.num==0)=false;rw [b2p];simpa using h0) ?_
 refine Ev.bind (rmul_PQ ha hb hk) (Ev.bind (rmul_QP ha hb hk) ?_);refine Ev.bind (c5k (ha.1.mul hb.2) (ha.2.mul hb.1) (by omega) (b8r (b0w a) h0)) ((Ev.pure _).eq ?_);rw [d4r]
theorem QCompare_ev:Ev (fun n=>a2f n (toF a) (toF b)) (cmpQ a b):=by
 unfold a2f;refine Ev.bind (a3k ha (by omega)) ?_;refine Ev.bind (a:=false) (Ev.else rfl (Ev.bind (a3k hb (by omega)) (Ev.pure _))) ?_;refine Ev.else rfl ?_
 refine Ev.bind (rmul_PQ ha hb hk) (Ev.bind (rmul_PQ hb ha (by omega)) ?_);exact Ev.bind (c6n (ha.1.mul hb.2) ((hb.1.mul ha.2).mono (by omega)) (by omega)) (Ev.pure _)
theorem QMin_ev:Ev (fun n=>b7o n (toF a) (toF b)) (toF (if b<a then b else a),0):=by
 unfold b7o;refine Ev.bind (a3k ha (by omega)) ?_;refine Ev.bind (a:=false) (Ev.else rfl (Ev.bind (a3k hb (by omega)) (Ev.pure _))) ?_;refine Ev.else rfl ?_
 refine Ev.bind (QCompare_ev ha hb hk) ?_;rcases a5i a b with⟨h,e⟩|⟨h,e⟩|⟨h,e⟩
 ·rw [e,if_neg (by grind)];exact Ev.then rfl (Ev.pure _)
 ·rw [e,if_neg (by grind)];exact Ev.then rfl (Ev.pure _)
 rw [e,if_pos h];exact Ev.else rfl (Ev.pure _)
theorem QMax_ev:Ev (fun n=>b7s n (toF a) (toF b)) (toF (if a<b then b else a),0):=by
 unfold b7s;refine Ev.bind (a3k ha (by omega)) ?_;refine Ev.bind (a:=false) (Ev.else rfl (Ev.bind (a3k hb (by omega)) (Ev.pure _))) ?_;refine Ev.else rfl ?_
 refine Ev.bind (QCompare_ev ha hb hk) ?_;rcases a5i a b with⟨h,e⟩|⟨h,e⟩|⟨h,e⟩
 ·rw [e,if_pos h];exact Ev.else rfl (Ev.pure _)
 ·rw [e,if_neg (by grind)];exact Ev.then rfl (Ev.pure _)
 rw [e,if_neg (by grind)];exact Ev.then rfl (Ev.pure _)
end
section
variable{a:Rat}{k:Nat}(ha:SmF k a)(hk:k<1000000)
include ha hk
theorem QSign_ev:Ev (fun n=>a7d n (toF a)) (sg a.num):=by
 unfold a7d;exact Ev.bind (a3k ha (by omega)) (Ev.else rfl (Ev.pure _))
end
theorem f3d{x y:Int}(h1:-9223372036854775808<=x)(h2:x<=9223372036854775807)(h3:-9223372036854775808<=y)(h4:y<=9223372036854775807)(h0:y≠0):Ev (fun n=>c0n n x y) (toF (Rat.divInt x y),0):=by
 have s1:Sm 4 x:=a6w (d1m (by omega));have s2:Sm 4 y:=a6w (d1m (by omega));unfold c0n;exact Ev.bind (e2v h1 h2) (Ev.bind (e2v h3 h4) (Ev.bind (c5k s1 s2 (by decide) h0) (Ev.pure _)))
theorem c9d{x:Int}(h1:-9223372036854775808<=x)(h2:x<=9223372036854775807):Ev (fun n=>a2v n x) (toF (x:Rat)):=by
 unfold a2v;refine Ev.bind (f3d h1 h2 (y:=1) (by decide) (by decide) (by decide)) ((Ev.pure _).eq ?_);rw [d7o]
end D
namespace Fe
open Go Rt M Ta Tp D
theorem f0f{x:M.Expr}:∀{y:M.Expr},y∈x.Args->cnt y<cnt x/\dep y<dep x:=by
 obtain⟨o,n,s,l⟩:=x;have h1:cnt ⟨o,n,s,l⟩=cnts l+1:=rfl;have h2:dep ⟨o,n,s,l⟩=deps l+1:=rfl;have h3:∀(l:List M.Expr)(y:M.Expr),y∈l->cnt y<=cnts l/\dep y<=deps l:=by
  intro l;induction l with
  |nil=>intro y hy;cases hy
  |cons z l ih=>
   intro y hy;have e1:cnts (z::l)=cnt z+cnts l:=rfl;have e2:deps (z::l)=max (dep z) (deps l):=rfl;rcases List.mem_cons.1 hy with rfl|hy
   ·omega
   have:=ih y hy;omega
 intro y hy;have:=h3 l y hy;omega
theorem b0b{x y:M.Expr}(h:Frm x)(hy:y∈x.Args):Frm y:=by
 have h1:=f0f hy;refine⟨⟨by have:=h.1.1;omega,by have:=h.1.2;omega⟩,?_⟩;obtain⟨o,n,s,l⟩:=x;exact h.2.inv.2.2.2.2 y hy
theorem a7s{x y:M.Expr}(h:Fit x)(hy:y∈x.Args):Fit y:=by
 cases h with
 |mk _ h2=>exact h2 y hy
theorem f0w{nz:List Rt.Bs}(hn:nz.length<4611686018427387904)(hnm:named nz=true){x:M.Expr}(hx:Fit x)(hf:Frm x){k:Int}(ht:Typ nz x k):Ev (fun n=>b1z n x nz) (k,0):=by
 unfold b1z;refine Ev.bind (c0c hn) (Ev.else (by rw [hnm];rfl) ?_);obtain⟨b,eb,hb⟩:=e2o hx;obtain rfl:=hb.2 hf;refine Ev.bind eb (Ev.else rfl ?_);obtain⟨r,er,hr⟩:=c8v hx nz hn hf.2;obtain rfl:=hr.2 k ht;exact Ev.bind er (Ev.pure _)
theorem b5t{p q:Int}(h:wd p q≠2):p≠2/\q≠2:=by
 unfold wd at h;constructor
 ·intro e;subst e;exact h rfl
 intro e;subst e;apply h;cases p==2<;>rfl
theorem d6d{nz:List Rt.Bs}{E E':Env}(hl:E.lf=E'.lf)(hp:E.pers=E'.pers)(hf:E.flats=E'.flats){x:M.Expr}{k:Int}(ht:Typ nz x k):k≠2->vl E x=vl E' x:=by
 have v2:∀{o:Int}{a b:M.Expr},vl E a=vl E' a->vl E b=vl E' b->vl E ⟨o,0,[],[a,b]⟩=vl E' ⟨o,0,[],[a,b]⟩:=by
  intro o a b ha hb;show d4a E o 0 [] [vl E a,vl E b]=d4a E' o 0 [] [vl E' a,vl E' b];rw [ha,hb];rfl
 induction ht with
 |num=>intro _;rfl
 |lifts _ hs=>intro _;show((E.lf _:Rat),false)=_;rw [hl];rfl
 |pers=>intro _;show((E.pers:Rat),false)=_;rw [hp];rfl
 |flats=>intro _;show((E.flats:Rat),false)=_;rw [hf];rfl
 |wgt _ hs=>intro h;exact absurd rfl h
 |ari _ _ _ _ _ ha hb=>intro h;exact v2 (ha (b5t h).1) (hb (b5t h).2)
 |mul _ _ _ _ _ ha hb=>intro h;exact v2 (ha (b5t h).1) (hb (b5t h).2)
 |div _ _ _ _ ha=>intro h;exact v2 (ha h) rfl
 | @ite c a b _ _ _ _ _ _ _ hc ha hb=>
  intro h;show d4a E 11 0 [] [vl E c,vl E a,vl E b]=d4a E' 11 0 [] [vl E' c,vl E' a,vl E' b];rw [hc (by decide),ha (b5t h).1,hb (b5t h).2];rfl
 |rel _ _ _ ha hb=>intro _;exact v2 (ha (by decide)) (hb (by decide))
 | @not a _ ha=>
  intro _;show d4a E 14 0 [] [vl E a]=d4a E' 14 0 [] [vl E' a];rw [ha (by decide)];rfl
 |bin _ _ _ ha hb=>intro _;exact v2 (ha (by decide)) (hb (by decide))
theorem e0r{nz:List Rt.Bs}{E E':Env}(hl:E.lf=E'.lf)(hp:E.pers=E'.pers)(hf:E.flats=E'.flats){x:M.Expr}{k:Int}(ht:Typ nz x k)(hk:k≠2):num E x=num E' x:=by
 unfold num;rw [d6d hl hp hf ht hk]
theorem e4h{nz:List Rt.Bs}{E E':Env}(hl:E.lf=E'.lf)(hp:E.pers=E'.pers)(hf:E.flats=E'.flats){x:M.Expr}(ht:Typ nz x 0):tru E x=tru E' x:=by
 unfold tru;rw [d6d hl hp hf ht (by decide)]
end Fe
namespace Fm
open Go Rt M Ta Tp D Fe
theorem f2r{i:Nat}(h:i<9223372036854775807):iadd .i64 (i:Int) 1=((i+1:Nat):Int):=by rw [a1k (by omega) (by omega)];omega
def b2v(k:Nat):Nat->RFm->Bool |_,[]=>true |c,l::f=>decide (c*l.length*k<=200)&&b2v k (c*l.length) f
def oppB(f:RFm):Option RFm:=if b2v f.length 1 f=true then some (opp f)else none
def b4a(n:Nat)(f:RFm)(c:Rat):Option RFm:=if c=0 then some (cst n 0)else if 0<c then some (scl c f)else(oppB f).map (scl (-c))
def b6p(o:Int)(f g:RFm):Nat:=if o=9 then sz f+sz g else if o=10 then sz f*g.length+sz g*f.length else sz f*sz g
def b4t(o:Int)(f g:RFm):RFm:=if o=9 then f++g else if o=10 then join (·++·) f g else join sums f g
def c0t(o:Int)(f g:RFm):Option RFm:=(if o=6 then oppB g else some g).bind fun g=>if b6p o f g<=200 then some (b4t o f g)else none
def mkN(nz:List Rt.Bs)(o:Int)(s:Rt.Bs)(v:Rat):List (Rat×Bool)->List (Bool×Option RFm)->Bool×Option RFm | [va,vb],[a,b]=>if(a.1||b.1)=true then(true,if o=7 then(if a.1=true then a.2.bind fun f=>b4a nz.length f vb.1 else b.2.bind fun f=>b4a nz.length f va.1)else if o=8 then a.2.map (scl (1/vb.1))else a.2.bind fun f=>b.2.bind fun g=>c0t o f g)else(false,some (cst nz.length v)) | [vc,_,_],[_,a,b]=>if(a.1||b.1)=true then(true,if vc.2=true then a.2 else b.2)else(false,some (cst nz.length v)) |_,_=>if o=4 then(true,some (wgt nz.length (nz.idxOf s)))else(false,some (cst nz.length v))
theorem b1j(nz:List Rt.Bs)(o:Int)(s:Rt.Bs)(v:Rat)(va vb:Rat×Bool)(a b:Bool×Option RFm):mkN nz o s v [va,vb] [a,b]=if(a.1||b.1)=true then(true,if o=7 then(if a.1=true then a.2.bind fun f=>b4a nz.length f vb.1 else b.2.bind fun f=>b4a nz.length f va.1)else if o=8 then a.2.map (scl (1/vb.1))else a.2.bind fun f=>b.2.bind fun g=>c0t o f g)else(false,some (cst nz.length v)):=rfl
theorem c1c(nz:List Rt.Bs)(o:Int)(s:Rt.Bs)(v:Rat)(vc va vb:Rat×Bool)(c a b:Bool×Option RFm):mkN nz o s v [vc,va,vb] [c,a,b]=if(a.1||b.1)=true then(true,if vc.2=true then a.2 else b.2)else(false,some (cst nz.length v)):=rfl
mutual
def mk(nz:List Rt.Bs)(E:Fe.Env):M.Expr->Bool×Option RFm |⟨o,m,s,l⟩=>mkN nz o s (num E ⟨o,m,s,l⟩) (vls E l) (mks nz E l)
def mks(nz:List Rt.Bs)(E:Fe.Env):List M.Expr->List (Bool×Option RFm) | []=> [] |x::l=>mk nz E x::mks nz E l end
theorem c4f{k:Nat}:∀{f:RFm}{c:Nat},b2v k c f=true->f≠ []->c*prd f*k<=200
 | [],_,_,h=>absurd rfl h
 | [l],c,h,_=>by
  unfold b2v at h;simp only [Bool.and_eq_true,decide_eq_true_eq]at h;show c*(l.length*1)*k<=200;rw [Nat.mul_one];exact h.1
 |l::m::f,c,h,_=>by
  unfold b2v at h;simp only [Bool.and_eq_true]at h;have:=c4f h.2 (by simp);show c*(l.length*prd (m::f))*k<=200;rw [<-Nat.mul_assoc c];exact this
theorem d0h{f g:RFm}(h:oppB f=some g):g=opp f/\sz g<=200:=by
 unfold oppB at h;split at h
 ·rename_i hk;cases h;refine⟨rfl,?_⟩;rw [e7n]
  by_cases h0:f= []
  ·subst h0;decide
  have:=c4f hk h0;rw [Nat.one_mul]at this;exact this
 cases h
structure Gd(n B:Nat)(f:RFm):Prop where
 wide:Wide n f
 sm:∀p,p∈f->∀a,a∈p->SmF B a.1/\∀c,c∈a.2->SmF B c
theorem sm0{B:Nat}(hB:1<=B):SmF B 0:=c4z (x:=0) (sm01 (by decide) (by decide) hB) hB
theorem sm1{B:Nat}(hB:1<=B):SmF B 1:=c4z (x:=1) (sm01 (by decide) (by decide) hB) hB
section
variable{n A B:Nat}{f g:RFm}
theorem Gd.mono(h:Gd n A f)(hk:A<=B):Gd n B f:=⟨h.wide,fun p hp a ha=>⟨(h.sm p hp a ha).1.mono hk,fun c hc=>((h.sm p hp a ha).2 c hc).mono hk⟩⟩
theorem e7h{c:Rat}(hc:SmF B c)(hB:1<=B):Gd n B (cst n c):=by
 refine⟨e5a n c,fun p hp a ha=> ?_⟩;obtain rfl:=List.mem_singleton.1 hp;obtain rfl:=List.mem_singleton.1 ha;refine⟨hc,fun d hd=> ?_⟩;obtain⟨_,rfl⟩:=List.mem_replicate.1 hd;exact sm0 hB
theorem e7f{k:Nat}(hB:1<=B):Gd n B (wgt n k):=by
 refine⟨e5t n k,fun p hp a ha=> ?_⟩;obtain rfl:=List.mem_singleton.1 hp;obtain rfl:=List.mem_singleton.1 ha;refine⟨sm0 hB,fun d hd=> ?_⟩;rcases List.mem_or_eq_of_mem_set hd with h|rfl
 ·obtain⟨_,rfl⟩:=List.mem_replicate.1 h;exact sm0 hB
 exact sm1 hB
theorem e8h(h:Gd n B f)(k:Gd n B g):Gd n B (f++g):=by
 refine⟨e6q h.wide k.wide,fun p hp=> ?_⟩;rcases List.mem_append.1 hp with hp|hp
 ·exact h.sm p hp
 exact k.sm p hp
theorem e0o(h:Gd n B f)(k:Gd n B g):Gd n B (join (·++·) f g):=by
 refine⟨e0b h.wide k.wide,fun p hp a ha=> ?_⟩;obtain⟨x,y,hx,hy,rfl⟩:=b2z.1 hp;rcases List.mem_append.1 ha with ha|ha
 ·exact h.sm x hx a ha
 exact k.sm y hy a ha
theorem e1v{α:Type}{op:α->α->α}{c:α}:∀{a b:List α},c∈List.zipWith op a b->∃x y,x∈a/\y∈b/\c=op x y
 | [],_,h=>by simp at h
 |_::_,[],h=>by simp at h
 |x::a,y::b,h=>by
  rcases List.mem_cons.1 h with rfl|h
  ·exact⟨x,y,by simp,by simp,rfl⟩
  obtain⟨p,q,hp,hq,e⟩:=e1v h;exact⟨p,q,by simp [hp],by simp [hq],e⟩
theorem f2c{a b:RA}(ha:SmF A a.1/\∀c,c∈a.2->SmF A c)(hb:SmF B b.1/\∀c,c∈b.2->SmF B c):SmF (A+B+1) (addA a b).1/\∀c,c∈(addA a b).2->SmF (A+B+1) c:=by
 refine⟨ha.1.add hb.1,fun c hc=> ?_⟩;obtain⟨x,y,hx,hy,rfl⟩:=e1v hc;exact(ha.2 x hx).add (hb.2 y hy)
theorem e9a{a:RA}{c:Rat}(ha:SmF A a.1/\∀c,c∈a.2->SmF A c)(hc:SmF B c):SmF (A+B) (mulA c a).1/\∀d,d∈(mulA c a).2->SmF (A+B) d:=by
 refine⟨ha.1.mul hc,fun d hd=> ?_⟩;obtain⟨x,hx,rfl⟩:=List.mem_map.1 hd;exact(ha.2 x hx).mul hc
theorem f2i{a:RA}(ha:SmF A a.1/\∀c,c∈a.2->SmF A c):SmF A (mulA (-1) a).1/\∀d,d∈(mulA (-1) a).2->SmF A d:=by
 have e:∀x:Rat,x*(-1)=-x:=fun x=>by grind
 refine⟨?_,fun d hd=> ?_⟩
 ·show SmF A (a.1*(-1));rw [e];exact ha.1.neg
 obtain⟨x,hx,rfl⟩:=List.mem_map.1 hd;show SmF A (x*(-1));rw [e];exact(ha.2 x hx).neg
theorem c9t(h:Gd n A f)(k:Gd n B g):Gd n (A+B+1) (join sums f g):=by
 refine⟨e2k h.wide k.wide,fun p hp a ha=> ?_⟩;obtain⟨x,y,hx,hy,rfl⟩:=b2z.1 hp;obtain⟨b,c,hb,hc,rfl⟩:=c4a.1 ha;exact f2c (h.sm x hx b hb) (k.sm y hy c hc)
theorem d5g{c:Rat}(h:Gd n A f)(hc:SmF B c):Gd n (A+B) (scl c f):=by
 refine⟨e6t h.wide,fun p hp a ha=> ?_⟩;unfold scl at hp;obtain⟨x,hx,rfl⟩:=List.mem_map.1 hp;obtain⟨b,hb,rfl⟩:=List.mem_map.1 ha;exact e9a (h.sm x hx b hb) hc
theorem e3y(h:Gd n A f):Gd n A (opp f):=by
 refine⟨d7a h.wide,fun p hp a ha=> ?_⟩;obtain⟨q,b,hq,hb,rfl⟩:=(b9m.1 hp).all a ha;exact f2i (h.sm q hq b hb)
end
structure Is(n B:Nat)(f:RFm)(V:List Rat->Rat):Prop where
 gd:Gd n B f
 sz:sz f<=200
 val:∀ws:List Rat,ws.length=n->IsV f ws (V ws)
section
variable{n A B:Nat}{f g:RFm}{U V:List Rat->Rat}
theorem Is.ne(h:Is n B f V):f≠ []/\∀p,p∈f->p≠ []:=by
 obtain⟨h1,p,hp,_⟩:=h.val (List.replicate n 0) (by simp);refine⟨fun e=>(by subst e;cases hp),fun p hp e=> ?_⟩;obtain⟨a,ha,_⟩:=h1 p hp;subst e;cases ha
theorem len_sz:∀{f:RFm},(∀p,p∈f->p≠ [])->f.length<=Fm.sz f
 | [],_=>Nat.le_refl _
 |p::f,h=>by
  have h1:0<p.length:=List.length_pos_iff.2 (h p (by simp));have:=len_sz (f:=f) (fun q hq=>h q (by simp [hq]));show f.length+1<=p.length+Fm.sz f;omega
theorem Is.len(h:Is n B f V):f.length<=200:=Nat.le_trans (len_sz h.ne.2) h.sz
theorem e8e{c:Rat}(hc:SmF B c)(hB:1<=B)(hV:∀ws:List Rat,ws.length=n->V ws=c):Is n B (cst n c) V:=
 ⟨e7h hc hB,by show 1+0<=200;decide,fun ws hl=>by rw [hV ws hl];exact e9c n c ws⟩
theorem e0x{c:Rat}(h:Is n A f U)(hc:SmF B c)(hB:1<=B)(hV:∀ws:List Rat,ws.length=n->V ws=U ws*c)(hg:b4a n f c=some g):Is n (A+B) g V:=by
 unfold b4a at hg;split at hg
 ·rename_i h0;cases hg;subst h0;exact e8e (sm0 (by omega)) (by omega) (fun ws hl=>by rw [hV ws hl,Rat.mul_zero])
 rename_i h0;split at hg
 ·rename_i h1;cases hg;exact⟨d5g h.gd hc,by rw [d2w];exact h.sz,fun ws hl=>by rw [hV ws hl];exact d3h h1 (h.val ws hl)⟩
 rename_i h1;obtain⟨k,hk,rfl⟩:=Option.map_eq_some_iff.1 hg;obtain⟨rfl,h2⟩:=d0h hk;refine⟨d5g (e3y h.gd) hc.neg,by rw [d2w];exact h2,fun ws hl=> ?_⟩;have:V ws=-U ws*-c:=by rw [hV ws hl];grind
 rw [this];exact d3h (by grind) (e0a (h.val ws hl))
theorem e9w{o:Int}{r:RFm}(ho:o=5∨o=6∨o=9∨o=10)(h:Is n A f U)(k:Is n B g V){W:List Rat->Rat}(hW:∀ws:List Rat,ws.length=n->W ws=two o (U ws) (V ws))(hr:c0t o f g=some r):Is n (A+B+1) r W:=by
 unfold c0t at hr;obtain⟨g',hg,hr⟩:=Option.bind_eq_some_iff.1 hr;split at hr
 ·rename_i hs;cases hr;rcases ho with rfl|rfl|rfl|rfl
  ·cases hg;exact⟨c9t h.gd k.gd,by show Fm.sz (join sums f g)<=200;rw [sz_sums];exact hs,fun ws hl=>by rw [hW ws hl];exact e1p h.gd.wide k.gd.wide (h.val ws hl) (k.val ws hl)⟩
  ·obtain⟨rfl,_⟩:=d0h hg;refine⟨c9t h.gd (e3y k.gd),by show Fm.sz (join sums f (opp g))<=200;rw [sz_sums];exact hs,fun ws hl=> ?_⟩;have:W ws=U ws+-V ws:=by rw [hW ws hl,f0n,Rat.sub_eq_add_neg]
   rw [this];exact e1p h.gd.wide (d7a k.gd.wide) (h.val ws hl) (e0a (k.val ws hl))
  ·cases hg;exact⟨e8h (h.gd.mono (by omega)) (k.gd.mono (by omega)),by show Fm.sz (f++g)<=200;rw [sz_app];exact hs,fun ws hl=>by rw [hW ws hl,d9m];exact d4k (h.val ws hl) (k.val ws hl)⟩
  cases hg;exact⟨e0o (h.gd.mono (by omega)) (k.gd.mono (by omega)),by show Fm.sz (join (·++·) f g)<=200;rw [sz_both];exact hs,fun ws hl=>by rw [hW ws hl,e3i];exact f0o (h.val ws hl) (k.val ws hl)⟩
 cases hr
theorem Is.mono(h:Is n A f V)(hk:A<=B):Is n B f V:=⟨h.gd.mono hk,h.sz,h.val⟩
theorem Is.to(h:Is n A f U)(hV:∀ws:List Rat,ws.length=n->V ws=U ws):Is n A f V:=⟨h.gd,h.sz,fun ws hl=>by rw [hV ws hl];exact h.val ws hl⟩
end
def E0(nz:List Rt.Bs)(f:Facts):Fe.Env:=mkE nz f (List.replicate nz.length 0)
theorem wd2{p q:Int}(hp:p=1∨p=2)(hq:q=1∨q=2):(wd p q==2)=((p==2)||(q==2)):=by
 rcases hp with rfl|rfl<;>rcases hq with rfl|rfl<;>rfl
theorem r12{nz:List Rt.Bs}{x:M.Expr}{k:Int}(h:Typ nz x k)(hk:k≠0):k=1∨k=2:=by
 rcases h.range with h|h|h
 ·exact absurd h hk
 ·exact .inl h
 exact .inr h
section
variable{nz:List Rt.Bs}{fc:Facts}(hf:RF nz fc (List.replicate nz.length 0))(hn:nz.length<4611686018427387904)
include hf hn
theorem b6w{x:M.Expr}{k:Int}(ht:Typ nz x k)(hk:k≠0)(hc:cnt x<=1000):SmF (4*cnt x) (num (E0 nz fc) x):=
 b3u (W:=4) hf (by decide) (by decide) (fun w hw=>by obtain⟨_,rfl⟩:=List.mem_replicate.1 hw;exact sm0 (by decide)) hn ht hk hc
omit hf hn in
theorem f0h(x:M.Expr){k:Int}(ht:Typ nz x k)(hk:k≠2)(ws:List Rat):num (mkE nz fc ws) x=num (E0 nz fc) x:=e0r (E:=mkE nz fc ws) (E':=E0 nz fc) rfl rfl rfl ht hk
theorem f4c{x:M.Expr}(ht:Typ nz x 1)(hc:cnt x<=1000)(hp:1<=cnt x):Is nz.length (4*cnt x) (cst nz.length (num (E0 nz fc) x)) (fun ws=>num (mkE nz fc ws) x):=
 e8e (b6w hf hn ht (by decide) hc) (by omega) (fun ws _=>f0h x ht (by decide) ws)
omit hf hn in
theorem b1m(x:M.Expr):1<=cnt x:=by obtain⟨o,n,s,l⟩:=x;show 1<=cnts l+1;omega
def Mk(nz:List Rt.Bs)(fc:Facts)(x:M.Expr)(k:Int):Prop:= (mk nz (E0 nz fc) x).1=(k==2)/\(k=1->(mk nz (E0 nz fc) x).2=some (cst nz.length (num (E0 nz fc) x)))/\∀F,(mk nz (E0 nz fc) x).2=some F->Is nz.length (4*cnt x) F (fun ws=>num (mkE nz fc ws) x)
theorem c3b{x:M.Expr}(ht:Typ nz x 1)(hc:cnt x<=1000)(h:mk nz (E0 nz fc) x=(false,some (cst nz.length (num (E0 nz fc) x)))):Mk nz fc x 1:=by
 refine⟨by rw [h];rfl,fun _=>by rw [h],fun F hF=> ?_⟩;rw [h]at hF;cases hF;exact f4c hf hn ht hc (b1m x)
omit hf hn in
theorem b5r(o m:Int)(s:Rt.Bs)(a b:M.Expr):mk nz (E0 nz fc) ⟨o,m,s,[a,b]⟩=mkN nz o s (num (E0 nz fc) ⟨o,m,s,[a,b]⟩) [vl (E0 nz fc) a,vl (E0 nz fc) b] [mk nz (E0 nz fc) a,mk nz (E0 nz fc) b]:=rfl
theorem b5x{x:M.Expr}{k:Int}(ht:Typ nz x k):cnt x<=1000->k≠0->Mk nz fc x k:=by
 have c2:∀(o n:Int)(s:Rt.Bs)(a b:M.Expr),cnt ⟨o,n,s,[a,b]⟩=cnt a+cnt b+1:=fun o n s a b=>by show cnt a+(cnt b+0)+1=_;omega
 have ht0:=ht;induction ht with
 |num h0 h1=>intro hc _;exact c3b hf hn ht0 hc rfl
 |lifts h0 h1=>intro hc _;exact c3b hf hn ht0 hc rfl
 |pers=>intro hc _;exact c3b hf hn ht0 hc rfl
 |flats=>intro hc _;exact c3b hf hn ht0 hc rfl
 | @wgt s h0 hs=>
  intro hc _;refine⟨rfl,fun h=>(by cases h),fun F hF=> ?_⟩;cases hF;refine⟨e7f (by show 1<=4*1;decide),by show 1+0<=200;decide,fun ws hl=>f1d hl ?_⟩;show ws[nz.idxOf s]?=some (Fe.look nz ws 0 s);have:=c4u (0:Rat) hs hl.symm
  rwa [a9n]at this
 | @ari o a b p q ho ha hb hp hq iha ihb=>
  intro hc _;rw [c2]at hc;obtain⟨a1,a2,a3⟩:=iha ha (by omega) hp;obtain⟨b1,b2,b3⟩:=ihb hb (by omega) hq;have hw:=wd2 (r12 ha hp) (r12 hb hq);have hcond:((mk nz (E0 nz fc) a).1||(mk nz (E0 nz fc) b).1)=(wd p q==2):=by rw [a1,b1,hw]
  cases h2:(wd p q==2)with
  |false=>
   have h1:wd p q=1:=by rcases a8v p q with h|h;exact h;rw [h]at h2;cases h2
   rw [h1]at ht0⊢;refine c3b hf hn ht0 (by rw [c2];omega) ?_;rw [b5r,b1j];rw [if_neg (by rw [hcond,h2];decide)]
  |true=>
   have e:mk nz (E0 nz fc) ⟨o,0,[],[a,b]⟩=(true,(mk nz (E0 nz fc) a).2.bind fun f=>(mk nz (E0 nz fc) b).2.bind fun g=>c0t o f g):=by
    rw [b5r,b1j];rw [if_pos (by rw [hcond,h2]),if_neg (by omega),if_neg (by omega)]
   refine⟨by rw [e,h2],fun h=>(by rw [h]at h2;cases h2),fun F hF=> ?_⟩;rw [e]at hF;obtain⟨f,hf1,hF⟩:=Option.bind_eq_some_iff.1 hF;obtain⟨g,hg1,hF⟩:=Option.bind_eq_some_iff.1 hF;rw [c2];exact(e9w ho (a3 f hf1) (b3 g hg1) (fun ws hl=>num_two ..) hF).mono (by omega)
 | @mul a b p q ha hb hp hq hpq iha ihb=>
  intro hc _;rw [c2]at hc;obtain⟨a1,a2,a3⟩:=iha ha (by omega) hp;obtain⟨b1,b2,b3⟩:=ihb hb (by omega) hq;have hw:=wd2 (r12 ha hp) (r12 hb hq);have hcond:((mk nz (E0 nz fc) a).1||(mk nz (E0 nz fc) b).1)=(wd p q==2):=by rw [a1,b1,hw]
  cases h2:(wd p q==2)with
  |false=>
   have h1:wd p q=1:=by rcases a8v p q with h|h;exact h;rw [h]at h2;cases h2
   rw [h1]at ht0⊢;refine c3b hf hn ht0 (by rw [c2];omega) ?_;rw [b5r,b1j];rw [if_neg (by rw [hcond,h2];decide)]
  |true=>
   have e:mk nz (E0 nz fc) ⟨7,0,[],[a,b]⟩=(true,if(mk nz (E0 nz fc) a).1=true then(mk nz (E0 nz fc) a).2.bind fun f=>b4a nz.length f (num (E0 nz fc) b)else(mk nz (E0 nz fc) b).2.bind fun f=>b4a nz.length f (num (E0 nz fc) a)):=by
    rw [b5r,b1j];rw [if_pos (by rw [hcond,h2]),if_pos rfl];rfl
   refine⟨by rw [e,h2],fun h=>(by rw [h]at h2;cases h2),fun F hF=> ?_⟩;rw [e]at hF;dsimp only at hF;rw [c2];split at hF
   ·rename_i hA;obtain⟨f,hf1,hF⟩:=Option.bind_eq_some_iff.1 hF;have hp2:p=2:=by rw [a1]at hA;exact of_decide_eq_true hA
    have hq1:q=1:=by rcases r12 hb hq with h|h;exact h;exact absurd ⟨hp2,h⟩ hpq
    subst hq1;refine(e0x (a3 f hf1) (b6w hf hn hb (by decide) (by omega)) (by have:=b1m b;omega) (fun ws hl=> ?_) hF).mono (by omega);rw [num_two,d9c,f0h b hb (by decide) ws]
   rename_i hA;obtain⟨f,hf1,hF⟩:=Option.bind_eq_some_iff.1 hF;have hp1:p=1:=by
    rcases r12 ha hp with h|h
    ·exact h
    rw [a1,h]at hA;exact absurd rfl hA
   subst hp1;refine(e0x (b3 f hf1) (b6w hf hn ha (by decide) (by omega)) (by have:=b1m a;omega) (fun ws hl=> ?_) hF).mono (by omega);rw [num_two,d9c,f0h a ha (by decide) ws,Rat.mul_comm]
 | @div a m p ha hp h1 h2 iha=>
  intro hc _;rw [c2]at hc;obtain⟨a1,a2,a3⟩:=iha ha (by omega) hp;have hb:(mk nz (E0 nz fc) ⟨0,m,[],[]⟩).1=false:=rfl;rcases r12 ha hp with rfl|rfl
  ·refine c3b hf hn ht0 (by rw [c2];omega) ?_;rw [b5r,b1j];rw [if_neg (by rw [a1,hb];decide)]
  have e:mk nz (E0 nz fc) ⟨8,0,[],[a,⟨0,m,[],[]⟩]⟩=(true,(mk nz (E0 nz fc) a).2.map (scl (1/(m:Rat)))):=by
   rw [b5r,b1j];rw [if_pos (by rw [a1,hb];decide),if_neg (by decide),if_pos rfl];rfl
  refine⟨by rw [e];rfl,fun h=>(by cases h),fun F hF=> ?_⟩;rw [e]at hF;obtain⟨f,hf1,rfl⟩:=Option.map_eq_some_iff.1 hF;have hm:(0:Rat)<(m:Rat):=by
   have:=Rat.intCast_lt_intCast.2 (show(0:Int)<m by omega);simpa using this
  have hm':(0:Rat)<1/(m:Rat):=by rw [Rat.div_def,Rat.one_mul];exact Rat.inv_pos.2 hm
  have hs:SmF 5 (1/(m:Rat)):=e5k (j:=1) (k:=4) (sm1 (by decide)) (smI (x:=m) (by omega) (by omega) (by decide)) (by rw [Rat.num_intCast];omega);rw [c2];refine⟨(d5g (a3 f hf1).gd hs).mono (by show 4*cnt a+5<=4*(cnt a+(0+1)+1);omega),by rw [d2w];exact(a3 f hf1).sz,fun ws hl=> ?_⟩;have:num (mkE nz fc ws) ⟨8,0,[],[a,⟨0,m,[],[]⟩]⟩=num (mkE nz fc ws) a*(1/(m:Rat)):=by
   rw [num_two,num_num,e9t,Rat.div_def,Rat.div_def,Rat.one_mul]
  show IsV _ ws (num (mkE nz fc ws) ⟨8,0,[],[a,⟨0,m,[],[]⟩]⟩);rw [this];exact d3h hm' ((a3 f hf1).val ws hl)
 | @ite c a b p q hc0 ha hb hp hq ihc iha ihb=>
  intro hc _;have hc3:cnt ⟨11,0,[],[c,a,b]⟩=cnt c+cnt a+cnt b+1:=by show cnt c+(cnt a+(cnt b+0))+1=_;omega
  rw [hc3]at hc;obtain⟨a1,a2,a3⟩:=iha ha (by omega) hp;obtain⟨b1,b2,b3⟩:=ihb hb (by omega) hq;have hw:=wd2 (r12 ha hp) (r12 hb hq);have hcond:((mk nz (E0 nz fc) a).1||(mk nz (E0 nz fc) b).1)=(wd p q==2):=by rw [a1,b1,hw]
  have e0:mk nz (E0 nz fc) ⟨11,0,[],[c,a,b]⟩=mkN nz 11 [] (num (E0 nz fc) ⟨11,0,[],[c,a,b]⟩) [vl (E0 nz fc) c,vl (E0 nz fc) a,vl (E0 nz fc) b] [mk nz (E0 nz fc) c,mk nz (E0 nz fc) a,mk nz (E0 nz fc) b]:=rfl;cases h2:(wd p q==2)with
  |false=>
   have h1:wd p q=1:=by rcases a8v p q with h|h;exact h;rw [h]at h2;cases h2
   rw [h1]at ht0⊢;refine c3b hf hn ht0 (by rw [hc3];omega) ?_;rw [e0,c1c];rw [if_neg (by rw [hcond,h2];decide)]
  |true=>
   have e:mk nz (E0 nz fc) ⟨11,0,[],[c,a,b]⟩=(true,if tru (E0 nz fc) c=true then(mk nz (E0 nz fc) a).2 else(mk nz (E0 nz fc) b).2):=by
    rw [e0,c1c];rw [if_pos (by rw [hcond,h2])];rfl
   refine⟨by rw [e,h2],fun h=>(by rw [h]at h2;cases h2),fun F hF=> ?_⟩;rw [e]at hF;dsimp only at hF;rw [hc3];have ht:∀ws,tru (mkE nz fc ws) c=tru (E0 nz fc) c:=fun ws=>e4h (E:=mkE nz fc ws) (E':=E0 nz fc) rfl rfl rfl hc0;split at hF
   ·rename_i hA;exact((a3 F hF).mono (by omega)).to (fun ws _=>by rw [num_ite,ht,if_pos hA])
   rename_i hA;exact((b3 F hF).mono (by omega)).to (fun ws _=>by rw [num_ite,ht,if_neg hA])
 |rel=>intro _ h;exact absurd rfl h
 |not=>intro _ h;exact absurd rfl h
 |bin=>intro _ h;exact absurd rfl h
end
end Fm
namespace Rt
open Go
theorem mulN{x y:Nat}(h:x*y<=9223372036854775807):imul .i64 (x:Int) (y:Int)=((x*y:Nat):Int):=by
 have e:((x*y:Nat):Int)=(x:Int)*(y:Int):=Int.natCast_mul x y;rw [a7i (by rw [<-e];omega) (by rw [<-e];omega),e]
section
variable{α β σ ρ κ:Type}{xs:List α}{h:α->β}
theorem b6k{L:Nat->κ->Nat->Int->σ->Option ρ}(fin:κ->σ->Option ρ)(Inv:List α->σ->Prop)(Ex:ρ->Prop)
 (hb:∀p x q s,xs=p++x::q->Inv p s->(∃s',Inv (p++ [x]) s'/\∃N,∀n K m,N<=n->L n K (m+1) (p.length:Int) s=L n K m ((p.length+1:Nat):Int) s')∨(∃r,Ex r/\∃N,∀n K m,N<=n->L n K (m+1) (p.length:Int) s=some r))
 (he:∀s,Inv xs s->∃N,∀n K m,N<=n->L n K (m+1) (xs.length:Int) s=fin K s) {s0:σ} (h0:Inv [] s0):(∃s',Inv xs s'/\∃N,∀n K,N<=n->L n K n 0 s0=fin K s')∨(∃r,Ex r/\∃N,∀n K,N<=n->L n K n 0 s0=some r):=by
 have go:∀q p s,xs=p++q->Inv p s->(∃s',Inv xs s'/\∃N,∀n K m,N<=n->q.length<m->L n K m (p.length:Int) s=fin K s')∨(∃r,Ex r/\∃N,∀n K m,N<=n->q.length<m->L n K m (p.length:Int) s=some r):=by
  intro q;induction q with
  |nil=>
   intro p s hx hp;rw [List.append_nil]at hx;subst hx;obtain⟨N,e⟩:=he s hp;refine .inl ⟨s,hp,N,fun n K m hn hm=> ?_⟩;obtain⟨m,rfl⟩:∃j,m=j+1:=⟨m-1,by simp only [List.length_nil]at hm;omega⟩
   exact e n K m hn
  |cons x q ih=>
   intro p s hx hp;rcases hb p x q s hx hp with⟨s',hi,N1,e1⟩|⟨r,hr,N1,e1⟩
   ·rcases ih (p++ [x]) s' (by rw [hx];simp) hi with⟨s2,hi2,N2,e2⟩|⟨r,hr,N2,e2⟩
    ·refine .inl ⟨s2,hi2,max N1 N2,fun n K m hn hm=> ?_⟩;obtain⟨m,rfl⟩:∃j,m=j+1:=⟨m-1,by simp only [List.length_cons]at hm;omega⟩
     rw [e1 n _ _ (by omega)];have:=e2 n K m (by omega) (by simp only [List.length_cons]at hm;omega)
     rwa [List.length_append,List.length_singleton]at this
    refine .inr ⟨r,hr,max N1 N2,fun n K m hn hm=> ?_⟩;obtain⟨m,rfl⟩:∃j,m=j+1:=⟨m-1,by simp only [List.length_cons]at hm;omega⟩
    rw [e1 n _ _ (by omega)];have:=e2 n K m (by omega) (by simp only [List.length_cons]at hm;omega)
    rwa [List.length_append,List.length_singleton]at this
   refine .inr ⟨r,hr,N1,fun n K m hn hm=> ?_⟩;obtain⟨m,rfl⟩:∃j,m=j+1:=⟨m-1,by simp only [List.length_cons]at hm;omega⟩
   rw [e1 n _ _ (by omega)]
 rcases go xs [] s0 rfl h0 with⟨s',hi,N,e⟩|⟨r,hr,N,e⟩
 ·exact .inl ⟨s',hi,N+xs.length+1,fun n K hn=>e n K n (by omega) (by omega)⟩
 exact .inr ⟨r,hr,N+xs.length+1,fun n K hn=>e n K n (by omega) (by omega)⟩
theorem lpR(hl:xs.length<=9223372036854775807){L:Nat->(σ->Option ρ)->Nat->Int->σ->Option ρ}{B:Nat->Int->β->σ->(σ->Option ρ)->Option ρ}
 (hs:∀n K m i s,L n K (m+1) i s=bif decide (i<(xs.length:Int))then(ix (xs.map h) i).bind fun x=>B n i x s (L n K m (iadd .i64 i 1))else K s)
 (Inv:List α->σ->Prop) (Ex:ρ->Prop)
 (hb:∀p x q s,xs=p++x::q->Inv p s->(∃s',Inv (p++ [x]) s'/\∃N,∀n k,N<=n->B n (p.length:Int) (h x) s k=k s')∨(∃r,Ex r/\∃N,∀n k,N<=n->B n (p.length:Int) (h x) s k=some r))
 {s0:σ} (h0:Inv [] s0):(∃s',Inv xs s'/\∃N,∀n K,N<=n->L n K n 0 s0=K s')∨(∃r,Ex r/\∃N,∀n K,N<=n->L n K n 0 s0=some r):=by
 refine b6k (κ:=σ->Option ρ) (fun K s=>K s) Inv Ex (fun p x q s hx hp=> ?_) (fun s _=>⟨0,fun n K m _=>by rw [hs,decide_eq_false (by omega)];rfl⟩) h0;have hlen:xs.length=p.length+(q.length+1):=by rw [hx,List.length_append,List.length_cons]
 have hix:ix (xs.map h) (p.length:Int)=some (h x):=by
  rw [hx,List.map_append,List.map_cons];exact a5e _ _ _ (by rw [List.length_map])
 have one:∀n K m,L n K (m+1) (p.length:Int) s=B n (p.length:Int) (h x) s (L n K m ((p.length+1:Nat):Int)):=by
  intro n K m;rw [hs,decide_eq_true (by omega),hix,show iadd .i64 (p.length:Int) 1=((p.length+1:Nat):Int)from(a1k (by omega) (by omega)).trans (by omega)];rfl
 rcases hb p x q s hx hp with⟨s',hi,N1,e1⟩|⟨r,hr,N1,e1⟩
 ·exact .inl ⟨s',hi,N1,fun n K m hn=>by rw [one,e1 n _ hn]⟩
 exact .inr ⟨r,hr,N1,fun n K m hn=>by rw [one,e1 n _ hn]⟩
theorem c2e(hl:xs.length<=9223372036854775807){L:Nat->(σ->Option ρ)->Nat->Int->σ->Option ρ}{B:Nat->Int->β->σ->(σ->Option ρ)->Option ρ}
 (hs:∀n K m i s,L n K (m+1) i s=bif decide (i<(xs.length:Int))then(ix (xs.map h) i).bind fun x=>B n i x s (L n K m (iadd .i64 i 1))else K s)
 (F:List α->σ) (hb:∀p x q,xs=p++x::q->∃N,∀n k,N<=n->B n (p.length:Int) (h x) (F p) k=k (F (p++ [x]))) {s0:σ} (h0:F []=s0):∃N,∀n K,N<=n->L n K n 0 s0=K (F xs):=by
 subst h0;rcases lpR hl hs (fun p s=>s=F p) (fun _=>False) (fun p x q s hx hp=> .inl ⟨_,rfl,by subst hp;exact hb p x q hx⟩) rfl with⟨s',rfl,h⟩|⟨r,hr,_⟩
 ·exact h
 exact hr.elim
end
section
variable{σ ρ:Type}
theorem d2u{L:Nat->(σ->Option ρ)->Option ρ}{s:σ}{K:Nat->σ->Option ρ}{r:ρ}(h:∃N,∀n k,N<=n->L n k=k s)(hk:Ev (fun n=>K n s) r):Ev (fun n=>L n (K n)) r:=by
 obtain⟨N,e⟩:=h;exact Ev.from N (fun n hn=>e n _ hn) hk
end
end Rt
namespace Fm
open Go Rt M Ta Tp D Fe
def toA(a:RA):Afn:=⟨toF a.1,a.2.map toF⟩
def toP(p:List RA):List Afn:=p.map toA
def toFm(f:RFm):M.Form:=⟨f.map toP⟩
def SmA(B:Nat)(a:RA):Prop:=SmF B a.1/\∀c,c∈a.2->SmF B c
theorem c0w{α:Type}(a:α){k:Nat}(hk:k<=1000):Ev (fun n=>a2m n [a] (k:Int)) (List.replicate k a):=by
 refine Ev.all fun n=> ?_;show(if 0<=(k:Int)/\(k:Int)<=1000 then some (List.replicate (k:Int).toNat a)else none)=_;rw [if_pos ⟨by omega,by omega⟩,Int.toNat_natCast]
theorem f4d{x y:Int}(h1:-9223372036854775808<=x)(h2:x<=9223372036854775807)(h3:-9223372036854775808<=y)(h4:y<=9223372036854775807)(h0:y≠0):Ev (fun n=>c6v n x y) (toF (Rat.divInt x y),0):=by
 have s1:Sm 4 x:=a6w (d1m (by omega));have s2:Sm 4 y:=a6w (d1m (by omega));unfold c6v;exact Ev.bind (f0l h1 h2) (Ev.bind (f0l h3 h4) (Ev.bind (d0i s1 s2 (by decide) h0) (Ev.pure _)))
theorem FInt0:Ev (fun n=>a3g n 0) (toF 0):=b6f (x:=0) (by decide) (by decide)
theorem FInt1:Ev (fun n=>a3g n 1) (toF 1):=b6f (x:=1) (by decide) (by decide)
theorem FIntm:Ev (fun n=>a3g n (-1)) (toF (-1)):=b6f (x:=-1) (by decide) (by decide)
theorem c1r(n:Nat)(c:Rat):toFm (cst n c)=⟨[[⟨toF c,List.replicate n (toF 0)⟩]]⟩:=by
 unfold toFm cst toP toA;simp only [List.map_cons,List.map_nil,List.map_replicate]
theorem c6w(m:maker)(c:Rat)(hn:m.nz.length<=1000):Ev (fun n=>a0x n m (toF c)) (m,toFm (cst m.nz.length c)):=by
 unfold a0x;rw [c1r];exact Ev.bind FInt0 (Ev.bind (c0w _ hn) (Ev.pure _))
theorem d2h{a:RA}(hl:a.2.length<=1000000){F:Nat->Int->Frac->Option Frac}{c:Rat}(hc:Ev (fun n=>F n (-1) (toF a.1)) (toF c))(G:List Rat->List Rat)(h0:G []= [])
 (hG:∀p x q,a.2=p++x::q->∃y,Ev (fun n=>F n (p.length:Int) (toF x)) (toF y)/\G (p++ [x])=G p++ [y]/\(G p).length<=p.length):Ev (fun n=>a7z n (toA a) (F n)) (toA (c,G a.2)):=by
 unfold a7z;refine Ev.bind hc ?_;refine d2u (L:=fun n K=>minmax_affine_L1 n (toA a) (F n) K n 0 ([]:List Frac)) (s:=(G a.2).map toF) (K:=fun _ l2=>some (⟨toF c,l2⟩:Afn)) ?_ (Ev.pure _);refine c2e (xs:=a.2) (h:=toF) (by omega) (L:=fun n K m i s=>minmax_affine_L1 n (toA a) (F n) K m i s) (B:=fun n i x s k=>(F n i x).bind fun v2=>(app 64 s [v2]).bind k) (fun n K m i s=> ?_) (fun p=>(G p).map toF) (fun p x q hx=> ?_) (by rw [h0];rfl)
 ·rw [minmax_affine_L1_s];simp only [toA,List.length_map]
 obtain⟨y,⟨N,hN⟩,hy,hlen⟩:=hG p x q hx;dsimp only at hN;have h5:p.length<=1000000:=by rw [hx,List.length_append]at hl;omega
 refine⟨N,fun n k hn=> ?_⟩;rw [hN n hn,b_s,a5f (by simp only [List.length_map,List.length_singleton];omega),b_s,hy,List.map_append];rfl
theorem d2g{j k:Nat}{a b:Rat}(ha:SmF j a)(hb:SmF k b)(hk:j+k<4000000)(i:Int):Ev (fun n=>a5z n i (toF a) (toF b)) (toF (a*b)):=by
 unfold a5z;exact Ev.bind (FMul_ev ha hb hk) (Ev.pure _)
theorem b4s{A B:Nat}{a:RA}{b:Rat}(ha:SmA A a)(hb:SmF B b)(hk:A+B<4000000)(hl:a.2.length<=1000000):Ev (fun n=>a6p n (toA a) (toF b)) (toA (mulA b a)):=by
 unfold a6p;refine Ev.bind (d2h hl (F:=fun n q0 q1=>a5z n q0 q1 (toF b)) (c:=a.1*b) (d2g ha.1 hb hk _) (fun p=>p.map (·*b)) rfl (fun p x q hx=>⟨x*b,d2g (ha.2 x (by rw [hx];simp)) hb hk _,by simp,by simp⟩)) (Ev.pure _)
theorem d6f{α:Type}{l:List α}{k:Nat}(h:k<l.length):∃p y q,l=p++y::q/\p.length=k:=by
 refine⟨l.take k,l[k],l.drop (k+1),?_,by rw [List.length_take];omega⟩;rw [<-List.drop_eq_getElem_cons h,List.take_append_drop]
theorem c9e{α:Type}{op:α->α->α}:∀{p p2:List α}{x y:α}{q2:List α},p2.length=p.length->List.zipWith op (p++ [x]) (p2++y::q2)=List.zipWith op p (p2++y::q2)++ [op x y]
 | [],[],x,y,q2,_=>rfl
 |a::p,b::p2,x,y,q2,h=>by
  show op a b::List.zipWith op (p++ [x]) (p2++y::q2)=op a b::(List.zipWith op p (p2++y::q2)++ [op x y]);rw [c9e (by simpa using h)]
 | [],_::_,_,_,_,h=>by simp at h
 |_::_,[],_,_,_,h=>by simp at h
theorem e3t{A B:Nat}{b:RA}{x y:Rat}{i:Int}(hx:SmF A x)(hy:SmF B y)(hk:A+B<4000000)(h:(0<=i/\ix (b.2.map toF) i=some (toF y))∨(i<0/\y=b.1)):Ev (fun n=>a7p n i (toF x) (toA b)) (toF (x+y)):=by
 unfold a7p;rcases h with⟨h0,h1⟩|⟨h0,rfl⟩
 ·refine Ev.bind (a:=((toF y).P.Sign,(toF y).P.Digits,(toF y).Q.Sign,(toF y).Q.Digits)) (Ev.then (decide_eq_true h0) (Ev.step (a:=toF y) h1 (Ev.pure _))) ?_;exact Ev.bind (FAdd_ev hx hy hk) (Ev.pure _)
 refine Ev.bind (a:=((toF b.1).P.Sign,(toF b.1).P.Digits,(toF b.1).Q.Sign,(toF b.1).Q.Digits)) (Ev.else (decide_eq_false (by omega)) (Ev.pure _)) ?_;exact Ev.bind (FAdd_ev hx hy hk) (Ev.pure _)
theorem f2z{A B:Nat}{a b:RA}(ha:SmA A a)(hb:SmA B b)(hk:A+B<4000000)(hl:a.2.length<=1000000)(he:b.2.length=a.2.length):Ev (fun n=>b1t n (toA a) (toA b)) (toA (addA a b)):=by
 unfold b1t;refine Ev.bind (d2h hl (F:=fun n q0 q1=>a7p n q0 q1 (toA b)) (c:=a.1+b.1) (e3t ha.1 hb.1 hk (.inr ⟨by decide,rfl⟩)) (fun p=>List.zipWith (·+·) p b.2) rfl (fun p x q hx=> ?_)) (Ev.pure _);obtain⟨p2,y,q2,hb2,hp2⟩:=d6f (l:=b.2) (k:=p.length) (by rw [he,hx];simp);refine⟨x+y,e3t (ha.2 x (by rw [hx];simp)) (hb.2 y (by rw [hb2];simp)) hk (.inl ⟨by omega,?_⟩),?_,?_⟩
 ·rw [hb2,List.map_append,List.map_cons];exact a5e _ _ _ (by rw [List.length_map,hp2])
 ·rw [hb2,c9e hp2]
 simp only [List.length_zipWith];omega
theorem gdA{n B:Nat}{f:RFm}(h:Gd n B f){p:List RA}(hp:p∈f){a:RA}(ha:a∈p):SmA B a:=h.sm p hp a ha
theorem d9s(f:RFm)(hs:Fm.sz f<=1000000)(hl:f.length<=1000000):Ev (fun n=>a4g n (toFm f)) (Fm.sz f:Int):=by
 unfold a4g;refine d2u (L:=fun n K=>minmax_size_L1 n (toFm f) K n 0 0) (s:=((Fm.sz f:Nat):Int)) (K:=fun _ nx2=>some nx2) ?_ (Ev.pure _);refine c2e (xs:=f) (h:=toP) (by omega) (L:=fun n K m i s=>minmax_size_L1 n (toFm f) K m s i) (B:=fun n i x s k=>k (iadd .i64 s (x.length:Int))) (fun n K m i s=> ?_) (fun p=>((Fm.sz p:Nat):Int)) (fun p x q hx=>⟨0,fun n k _=> ?_⟩) rfl
 ·rw [minmax_size_L1_s];simp only [toFm,List.length_map]
 have h1:Fm.sz p+x.length<=Fm.sz f:=by rw [hx,sz_app];show _<=Fm.sz p+(x.length+Fm.sz q);omega
 have h2:Fm.sz (p++ [x])=Fm.sz p+x.length:=by rw [sz_app];rfl
 have h3:(toP x).length=x.length:=List.length_map ..;rw [h2,h3,a1k (by omega) (by omega)];congr 1
theorem d4n{A B nn:Nat}{l:List RA}{b:Rat}(hl:l.length<=1000000)(ha:∀a,a∈l->SmA A a/\a.2.length=nn)(hn:nn<=1000000)(hb:SmF B b)(hk:A+B<4000000):
 ∃N,∀n K,N<=n->minmax_scaled_L2 n (toF b).P.Sign (toF b).P.Digits (toF b).Q.Sign (toF b).Q.Digits (toP l) K n 0 ([]:List Afn)=K (toP (l.map (mulA b))):=by
 refine c2e (xs:=l) (h:=toA) (by omega) (L:=fun n K m i s=>minmax_scaled_L2 n (toF b).P.Sign (toF b).P.Digits (toF b).Q.Sign (toF b).Q.Digits (toP l) K m i s) (B:=fun n i x s k=>(a6p n x (toF b)).bind fun v1=>(app 88 s [v1]).bind k) (fun n K m i s=> ?_) (fun p=>toP (p.map (mulA b))) (fun p x q hx=> ?_) rfl
 ·rw [minmax_scaled_L2_s];simp only [toP,List.length_map]
 have h5:p.length<=1000000:=by rw [hx,List.length_append]at hl;omega
 obtain⟨h6,h7⟩:=ha x (by rw [hx];simp);obtain⟨N,hN⟩:=b4s h6 hb hk (by omega);dsimp only at hN;refine⟨N,fun n k hn=> ?_⟩;rw [hN n hn,b_s,a5f (by simp only [toP,List.length_map,List.length_singleton];omega),b_s];simp only [toP,List.map_append,List.map_cons,List.map_nil]
theorem e4d{A B nn:Nat}{f:RFm}{b:Rat}(hf:Gd nn A f)(hs:Fm.sz f<=1000000)(hl:f.length<=1000000)(hn:nn<=1000000)(hb:SmF B b)(hk:A+B<4000000):Ev (fun n=>a5j n (toFm f) (toF b)) (toFm (scl b f)):=by
 unfold a5j;refine d2u (L:=fun n K=>minmax_scaled_L1 n (toFm f) (fun l _=>K l) n 0 ([]:List (List Afn)) [] (toF b).P.Sign (toF b).P.Digits (toF b).Q.Sign (toF b).Q.Digits) (s:=(scl b f).map toP) (K:=fun _ l2=>some (⟨l2⟩:M.Form)) ?_ (Ev.pure _);refine c2e (xs:=f) (h:=toP) (by omega) (L:=fun n K m i s=>minmax_scaled_L1 n (toFm f) (fun l _=>K l) m i s [] (toF b).P.Sign (toF b).P.Digits (toF b).Q.Sign (toF b).Q.Digits) (B:=fun n i x s k=>minmax_scaled_L2 n (toF b).P.Sign (toF b).P.Digits (toF b).Q.Sign (toF b).Q.Digits x (fun l4=>(app 24 s [l4]).bind k) n 0 ([]:List Afn)) (fun n K m i s=> ?_) (fun p=>(scl b p).map toP) (fun p x q hx=> ?_) rfl
 ·rw [minmax_scaled_L1_s];simp only [toFm,List.length_map]
 have h5:p.length<=1000000:=by rw [hx,List.length_append]at hl;omega
 have hxs:x.length<=1000000:=by rw [hx,sz_app]at hs;have:Fm.sz (x::q)=x.length+Fm.sz q:=rfl;omega
 have hxm:x∈f:=by rw [hx];simp
 obtain⟨N,hN⟩:=d4n (b:=b) hxs (fun a ha=>⟨gdA hf hxm ha,hf.wide x hxm a ha⟩) hn hb hk;refine⟨N,fun n k hn=> ?_⟩;rw [hN n _ hn,a5f (by simp only [scl,List.length_map,List.length_singleton];omega),b_s];simp only [scl,List.map_append,List.map_cons,List.map_nil]
theorem e0k(n:Nat)(m:maker)(k:Int):a2d n m k=some (⟨m.nz,m.facts,m.full||decide (200<k)⟩, !(m.full||decide (200<k))):=by
 unfold a2d;cases m.full<;>rfl
theorem e5e{A nn:Nat}{l:List RA}{c:List RA}(hl:l.length<=1000000)(hc:c.length<=1000)(ha:∀a,a∈l->SmA A a/\a.2.length=nn)(hn:nn<=1000000)(hk:A+1<4000000){s0:RFm}(hs0:s0.length<=1000000):
 ∃N,∀n K,N<=n->minmax_maker_opposite_L3 n (toP l) (toP c) K n 0 (s0.map toP)=K ((s0++l.map fun a=>c++ [mulA (-1) a]).map toP):=by
 refine c2e (xs:=l) (h:=toA) (by omega) (L:=fun n K m i s=>minmax_maker_opposite_L3 n (toP l) (toP c) K m i s) (B:=fun n i x s k=>(a0v n (toP c)).bind fun v2=>(a3g n (-1)).bind fun v3=>(a6p n x v3).bind fun v4=>(app 88 v2 [v4]).bind fun l5=>(app 24 s [l5]).bind k) (fun n K m i s=> ?_) (fun p=>(s0++p.map fun a=>c++ [mulA (-1) a]).map toP) (fun p x q hx=> ?_) (by simp)
 ·rw [minmax_maker_opposite_L3_s];simp only [toP,List.length_map]
 have h5:p.length<=1000000:=by rw [hx,List.length_append]at hl;omega
 obtain⟨h6,h7⟩:=ha x (by rw [hx];simp);obtain⟨N,hN⟩:=b4s h6 (b:=-1) (B:=1) (c4z (x:=-1) (sm01 (by decide) (by decide) (by decide)) (by decide)) hk (by omega);dsimp only at hN;obtain⟨N2,hN2⟩:=FIntm;dsimp only at hN2;refine⟨max N N2,fun n k hn=> ?_⟩;have hcl:a0v n (toP c)=some (toP c):=by
  unfold a0v;exact a5f (l:= []) (by simp only [toP,List.length_map,List.length_nil];omega)
 rw [hcl,b_s,hN2 n (by omega),b_s,hN n (by omega),b_s,a5f (by simp only [toP,List.length_map,List.length_singleton];omega),b_s,a5f (by simp only [List.length_map,List.length_append,List.length_singleton];omega),b_s];simp only [toP,List.map_append,List.map_cons,List.map_nil,List.append_assoc]
theorem e6n{A nn:Nat}{l:List RA}{cs:RFm}(hl:l.length<=200)(hcs:cs.length<=200)(hc:∀c,c∈cs->c.length<=1000)(ha:∀a,a∈l->SmA A a/\a.2.length=nn)(hn:nn<=1000000)(hk:A+1<4000000)(f15 f16:List (List Afn))(m:maker):
 ∃N,∀n K,N<=n->minmax_maker_opposite_L2 n (cs.map toP) (toP l) K n 0 [] f15 f16 m.nz m.facts.Lifts m.facts.Persons m.facts.Flats m.full=K ((step cs l).map toP) f15 f16 m.nz m.facts.Lifts m.facts.Persons m.facts.Flats m.full:=by
 have hlen:(cs.map toP).length=cs.length:=List.length_map ..;have L:=b6k (xs:=cs) (σ:=List (List Afn)) (ρ:=maker×M.Form) (L:=fun n K mm i s=>minmax_maker_opposite_L2 n (cs.map toP) (toP l) K mm i s f15 f16 m.nz m.facts.Lifts m.facts.Persons m.facts.Flats m.full)
  (fun K s=>K s f15 f16 m.nz m.facts.Lifts m.facts.Persons m.facts.Flats m.full) (fun p s=>s=(step p l).map toP) (fun _=>False) (fun p x q s hx hs=> .inl ⟨_,rfl,?_⟩) (fun s _=>⟨0,fun n K mm _=> ?_⟩) (s0:= []) rfl
 ·rcases L with⟨s',rfl,L⟩|⟨r,hr,_⟩
  ·exact L
  exact hr.elim
 ·subst hs;have h5:p.length<=200:=by rw [hx,List.length_append]at hcs;omega
  have h6:(step p l).length<=1000000:=by rw [c8w];exact Nat.le_trans (Nat.mul_le_mul h5 hl) (by decide)
  obtain⟨N,hN⟩:=e5e (l:=l) (c:=x) (by omega) (hc x (by rw [hx];simp)) ha hn hk h6;refine⟨N,fun n K mm hnn=> ?_⟩;have hix:ix (cs.map toP) (p.length:Int)=some (toP x):=by
   rw [hx,List.map_append,List.map_cons];exact a5e _ _ _ (by rw [List.length_map])
  rw [minmax_maker_opposite_L2_s,decide_eq_true (by rw [hlen,hx,List.length_append,List.length_cons];omega),cond_true,hix,b_s,hN n _ hnn,Rt.inc64 (by omega)];unfold step;simp only [List.flatMap_append,List.flatMap_cons,List.flatMap_nil,List.append_nil]
 rw [minmax_maker_opposite_L2_s,decide_eq_false (by rw [hlen];omega)];rfl
theorem d0d{A nn:Nat}{f:RFm}(hf:Gd nn A f)(hs:Fm.sz f<=200)(hl:f.length<=200)(hn:nn<=1000000)(hk:A+1<4000000)(m:maker):
 ((f= []∨m.full=false)/\b2v f.length 1 f=true/\Ev (fun n=>a1z n m (toFm f)) (m,toFm (opp f)))∨((f≠ []/\m.full=true∨b2v f.length 1 f=false)/\Ev (fun n=>a1z n m (toFm f)) (⟨m.nz,m.facts,true⟩,⟨[]⟩)):=by
 have hlen:(toFm f).Pieces.length=f.length:=List.length_map ..;have L:=b6k (xs:=f) (σ:=List (List Afn)) (ρ:=maker×M.Form) (L:=fun n K mm i s=>minmax_maker_opposite_L1 n (toFm f) K mm s i [] (f.map toP) m.nz m.facts.Lifts m.facts.Persons m.facts.Flats m.full)
  (fun K s=>K s [] m.nz m.facts.Lifts m.facts.Persons m.facts.Flats m.full) (fun p s=>s=(opp p).map toP/\(p= []∨m.full=false)/\(prd p*f.length<=200∨p= [])/\∀q,f=p++q->b2v f.length 1 f=b2v f.length (prd p) q) (fun r=>r=(⟨m.nz,m.facts,true⟩,⟨[]⟩)/\(f≠ []/\m.full=true∨b2v f.length 1 f=false)) (fun p x q s hx⟨hi,hfu,hpr,hok⟩=> ?_) (fun s _=>⟨0,fun n K mm _=> ?_⟩) (s0:= [[]]) ⟨rfl,.inl rfl,.inr rfl,fun q hq=>by rw [show f=q by simpa using hq];rfl⟩
 ·unfold a1z;rcases L with⟨s',⟨rfl,h1,h2,h3⟩,L⟩|⟨r,⟨rfl,h1⟩,L⟩
  ·left;refine⟨h1,by rw [h3 [] (by simp)];rfl,?_⟩;obtain⟨N,e⟩:=L;exact⟨N,fun n hn=>e n _ hn⟩
  right;refine⟨h1,?_⟩;obtain⟨N,e⟩:=L;exact⟨N,fun n hn=>e n _ hn⟩
 ·have hlf:f.length=p.length+(q.length+1):=by rw [hx,List.length_append,List.length_cons]
  have hix:ix (f.map toP) (p.length:Int)=some (toP x):=by
   rw [hx,List.map_append,List.map_cons];exact a5e _ _ _ (by rw [List.length_map])
  have hxl:x.length<=200:=by rw [hx,sz_app]at hs;have:Fm.sz (x::q)=x.length+Fm.sz q:=rfl;omega
  have hpl:prd p<=200:=by
   rcases hpr with h|h
   ·have:prd p*1<=prd p*f.length:=Nat.mul_le_mul_left _ (by omega);omega
   rw [h];decide
  have hm:prd p*x.length<=40000:=Nat.mul_le_mul hpl hxl;have hm2:prd p*x.length*f.length<=8000000:=Nat.mul_le_mul hm hl;have hsl:((opp p).map toP).length=prd p:=by rw [List.length_map,c2d]
  have hnum:imul .i64 (imul .i64 (((opp p).map toP).length:Int) ((toP x).length:Int)) ((f.map toP).length:Int)=((prd p*x.length*f.length:Nat):Int):=by
   have e1:(toP x).length=x.length:=List.length_map ..;rw [hsl,e1,List.length_map,mulN (by omega),mulN (by omega)]
  have hstep:∀(n:Nat)(K:_)(mm:Nat),minmax_maker_opposite_L1 n (toFm f) K (mm+1) s (p.length:Int) [] (f.map toP) m.nz m.facts.Lifts m.facts.Persons m.facts.Flats m.full=
   (a2d n m ((prd p*x.length*f.length:Nat):Int)).bind fun v1=>bif !v1.2 then some (v1.1,(⟨[]⟩:M.Form))else
    minmax_maker_opposite_L2 n s (toP x) (fun l2 f22 f23 f24 f25 f26 f27 f28=>minmax_maker_opposite_L1 n (toFm f) K mm l2 ((p.length+1:Nat):Int) f22 f23 f24 f25 f26 f27 f28) n 0 [] [] (f.map toP) v1.1.nz v1.1.facts.Lifts v1.1.facts.Persons v1.1.facts.Flats v1.1.full:=by
   intro n K mm;rw [minmax_maker_opposite_L1_s,decide_eq_true (by rw [hlen];omega),cond_true];show(ix (f.map toP) (p.length:Int)).bind _=_;rw [hix,b_s,hi,hnum,Rt.inc64 (by omega)]
  have hok1:=hok (x::q) hx;have hok2:b2v f.length (prd p) (x::q)=(decide (prd p*x.length*f.length<=200)&&b2v f.length (prd p*x.length) q):=rfl;have hprd:prd (p++ [x])=prd p*x.length:=by
   have:∀p:RFm,prd (p++ [x])=prd p*x.length:=by
    intro p;induction p with
    |nil=>show x.length*1=1*x.length;omega
    |cons y p ih=>show y.length*prd (p++ [x])=y.length*prd p*x.length;rw [ih,Nat.mul_assoc]
   exact this p
  have bad:(m.full||decide ((200:Int)<((prd p*x.length*f.length:Nat):Int)))=true->(∃r,(r=(⟨m.nz,m.facts,true⟩,⟨[]⟩)/\(f≠ []/\m.full=true∨b2v f.length 1 f=false))/\∃N,∀n K mm,N<=n->minmax_maker_opposite_L1 n (toFm f) K (mm+1) s (p.length:Int) [] (f.map toP) m.nz m.facts.Lifts m.facts.Persons m.facts.Flats m.full=some r):=by
   intro hbad;refine⟨_,⟨rfl,?_⟩,0,fun n K mm _=>by rw [hstep,e0k,hbad];rfl⟩;rcases Bool.or_eq_true _ _▸hbad with h|h
   ·exact .inl ⟨by rw [hx];simp,h⟩
   right;rw [hok1,hok2,decide_eq_false (by have:=of_decide_eq_true h;omega)];rfl
  cases hb:(m.full||decide ((200:Int)<((prd p*x.length*f.length:Nat):Int)))with
  |true=>exact .inr (bad hb)
  |false=>
   left;obtain⟨hb1,hb2⟩:=Bool.or_eq_false_iff.1 hb;have hle:prd p*x.length*f.length<=200:=by have:=of_decide_eq_false hb2;omega
   have hxm:x∈f:=by rw [hx];simp
   obtain⟨N,hN⟩:=e6n (cs:=opp p) (l:=x) hxl (by rw [c2d];exact hpl) (fun c hc=>by rw [(b9m.1 hc).len];omega) (fun a ha=>⟨gdA hf hxm ha,hf.wide x hxm a ha⟩) hn hk [] (f.map toP) ⟨m.nz,m.facts,m.full⟩;refine⟨(opp (p++ [x])).map toP,⟨rfl,.inr hb1,.inl (by rw [hprd];exact hle),fun q' hq'=> ?_⟩,N,fun n K mm hnn=> ?_⟩
   ·have:q'=q:=by
     rw [hx,List.append_assoc]at hq';have:=List.append_cancel_left hq';simpa using this.symm
    subst this;rw [hok1,hok2,hprd,decide_eq_true hle];rfl
   rw [hstep,e0k,hb,hi];show minmax_maker_opposite_L2 n ((opp p).map toP) (toP x) _ n 0 [] [] (f.map toP) m.nz m.facts.Lifts m.facts.Persons m.facts.Flats false=_;rw [hb1]at hN;rw [hN n _ hnn];have e:opp (p++ [x])=step (opp p) x:=by unfold opp;rw [List.foldl_append];rfl
   rw [e,hb1]
 rw [minmax_maker_opposite_L1_s,decide_eq_false (by rw [hlen];omega)];rfl
section
variable{f g:RFm}{op:List RA->List RA->List RA}{P:Nat->List Afn->List Afn->Option (List Afn)}
theorem e1c(x:List RA)(hg:g.length<=1000)(hP:∀y,y∈g->Ev (fun n=>P n (toP x) (toP y)) (toP (op x y))){s0:RFm}(hs0:s0.length<=1000000):
 ∃N,∀n K,N<=n->minmax_join_L2 n (P n) (g.map toP) (toP x) K n 0 (s0.map toP)=K ((s0++g.map (op x)).map toP):=by
 refine c2e (xs:=g) (h:=toP) (by omega) (L:=fun n K m i s=>minmax_join_L2 n (P n) (g.map toP) (toP x) K m i s) (B:=fun n i y s k=>(P n (toP x) y).bind fun v1=>(app 24 s [v1]).bind k) (fun n K m i s=> ?_) (fun p=>(s0++p.map (op x)).map toP) (fun p y q hx=> ?_) (by simp)
 ·rw [minmax_join_L2_s];simp only [List.length_map]
 have h5:p.length<=1000:=by rw [hx,List.length_append]at hg;omega
 obtain⟨N,hN⟩:=hP y (by rw [hx];simp);dsimp only at hN;refine⟨N,fun n k hn=> ?_⟩;rw [hN n hn,b_s,a5f (by simp only [List.length_map,List.length_append,List.length_singleton];omega),b_s];simp only [List.map_append,List.map_cons,List.map_nil,List.append_assoc]
theorem b2m(hf:f.length<=1000)(hg:g.length<=1000)(hP:∀x,x∈f->∀y,y∈g->Ev (fun n=>P n (toP x) (toP y)) (toP (op x y))):Ev (fun n=>a4k n (toFm f) (toFm g) (P n)) (toFm (join op f g)):=by
 unfold a4k;refine d2u (L:=fun n K=>minmax_join_L1 n (toFm f) (P n) (fun l _=>K l) n 0 ([]:List (List Afn)) [] (g.map toP)) (s:=(join op f g).map toP) (K:=fun _ l2=>some (⟨l2⟩:M.Form)) ?_ (Ev.pure _);refine c2e (xs:=f) (h:=toP) (by omega) (L:=fun n K m i s=>minmax_join_L1 n (toFm f) (P n) (fun l _=>K l) m i s [] (g.map toP)) (B:=fun n i x s k=>minmax_join_L2 n (P n) (g.map toP) x k n 0 s) (fun n K m i s=> ?_) (fun p=>(join op p g).map toP) (fun p x q hx=> ?_) rfl
 ·rw [minmax_join_L1_s];simp only [toFm,List.length_map]
 have h5:p.length<=1000:=by rw [hx,List.length_append]at hf;omega
 have h6:(join op p g).length<=1000000:=by rw [c3t];exact Nat.le_trans (Nat.mul_le_mul h5 hg) (by decide)
 obtain⟨N,hN⟩:=e1c (op:=op) x hg (hP x (by rw [hx];simp)) h6;refine⟨N,fun n k hn=> ?_⟩;rw [hN n _ hn];unfold join;simp only [List.flatMap_append,List.flatMap_cons,List.flatMap_nil,List.append_nil]
end
theorem e3x{A B nn:Nat}{a:RA}{y:List RA}(hy:y.length<=1000)(ha:SmA A a/\a.2.length=nn)(hb:∀b,b∈y->SmA B b/\b.2.length=nn)(hn:nn<=1000000)(hk:A+B<4000000){s0:List RA}(hs0:s0.length<=1000000):
 ∃N,∀n K,N<=n->minmax_sums_L2 n (toP y) (toA a) K n 0 (toP s0)=K (toP (s0++y.map (addA a))):=by
 refine c2e (xs:=y) (h:=toA) (by omega) (L:=fun n K m i s=>minmax_sums_L2 n (toP y) (toA a) K m i s) (B:=fun n i b s k=>(b1t n (toA a) b).bind fun v1=>(app 88 s [v1]).bind k) (fun n K m i s=> ?_) (fun p=>toP (s0++p.map (addA a))) (fun p b q hx=> ?_) (by simp)
 ·rw [minmax_sums_L2_s];simp only [toP,List.length_map]
 have h5:p.length<=1000:=by rw [hx,List.length_append]at hy;omega
 obtain⟨h6,h7⟩:=hb b (by rw [hx];simp);obtain⟨N,hN⟩:=f2z ha.1 h6 hk (by omega) (by rw [h7,ha.2]);dsimp only at hN;refine⟨N,fun n k hn=> ?_⟩;rw [hN n hn,b_s,a5f (by simp only [toP,List.length_map,List.length_append,List.length_singleton];omega),b_s];simp only [toP,List.map_append,List.map_cons,List.map_nil,List.append_assoc]
theorem e1z{A B nn:Nat}{x y:List RA}(hx0:x.length<=1000)(hy:y.length<=1000)(ha:∀a,a∈x->SmA A a/\a.2.length=nn)(hb:∀b,b∈y->SmA B b/\b.2.length=nn)(hn:nn<=1000000)(hk:A+B<4000000):Ev (fun n=>a4z n (toP x) (toP y)) (toP (sums x y)):=by
 unfold a4z;refine d2u (L:=fun n K=>minmax_sums_L1 n (toP x) (toP y) K n 0 ([]:List Afn)) (s:=toP (sums x y)) (K:=fun _ l2=>some l2) ?_ (Ev.pure _);refine c2e (xs:=x) (h:=toA) (by omega) (L:=fun n K m i s=>minmax_sums_L1 n (toP x) (toP y) K m i s) (B:=fun n i a s k=>minmax_sums_L2 n (toP y) a k n 0 s) (fun n K m i s=> ?_) (fun p=>toP (sums p y)) (fun p a q hx=> ?_) rfl
 ·rw [minmax_sums_L1_s];simp only [toP,List.length_map]
 have h5:p.length<=1000:=by rw [hx,List.length_append]at hx0;omega
 have h6:(sums p y).length<=1000000:=by rw [sums_len];exact Nat.le_trans (Nat.mul_le_mul h5 hy) (by decide)
 obtain⟨N,hN⟩:=e3x hy (ha a (by rw [hx];simp)) hb hn hk h6;refine⟨N,fun n k hn=> ?_⟩;rw [hN n _ hn];unfold sums;simp only [List.flatMap_append,List.flatMap_cons,List.flatMap_nil,List.append_nil]
theorem e9n{α:Type}(n:Nat){k:Int}(h:0<=k)(h2:k<=1000000):b5f n ([]:List α) k=some []:=by show(if 0<=k/\k<=1000000 then some ([]:List α)else none)=_;rw [if_pos ⟨h,h2⟩]
theorem e9l{α:Type}(n:Nat){k:Int}(h:0<=k)(h2:k<=1000000):b5a n ([]:List α) k=some []:=by show(if 0<=k/\k<=1000000 then some ([]:List α)else none)=_;rw [if_pos ⟨h,h2⟩]
theorem d8e{x y:List RA}(hx:x.length<=100000)(hy:y.length<=100000):Ev (fun n=>a1m n [toP x,toP y]) (toP (x++y)):=by
 refine Ev.from 3 (g:=fun _=>some (toP (x++y))) (fun n hn=> ?_) (Ev.pure _)
 obtain⟨m,rfl⟩:∃m,n=m+3:=⟨n-3,by omega⟩
 have h1:(toP x).length=x.length:=List.length_map ..;have h2:(toP y).length=y.length:=List.length_map ..;have e1:iadd .i64 0 ((toP x).length:Int)=(x.length:Int):=by rw [h1,a1k (by omega) (by omega)];omega
 have e2:iadd .i64 (x.length:Int) ((toP y).length:Int)=((x.length+y.length:Nat):Int):=by rw [h2,a1k (by omega) (by omega)];omega
 have a1:app 88 [] (toP x)=some (toP x):=a5f (l:= []) (by simp only [List.length_nil];omega);have a2:app 88 (toP x) (toP y)=some (toP x++toP y):=a5f (by omega);have hc:toP (x++y)=toP x++toP y:=List.map_append ..;have i1:iadd .i64 0 1=1:=by decide
 have i2:iadd .i64 1 1=2:=by decide
 have x0:ix [toP x,toP y] 0=some (toP x):=rfl;have x1:ix [toP x,toP y] 1=some (toP y):=rfl;have d0:decide ((0:Int)<([toP x,toP y].length:Int))=true:=rfl;have d1:decide ((1:Int)<([toP x,toP y].length:Int))=true:=rfl;have d2:decide ((2:Int)<([toP x,toP y].length:Int))=false:=rfl;unfold a1m;rw [sCB_L1_s,d0,cond_true,x0,b_s,e1,decide_eq_false (by omega),cond_false,i1,sCB_L1_s,d1,cond_true,x1,b_s,e2,decide_eq_false (by omega),cond_false,i2,sCB_L1_s,d2,cond_false,
  e9n _ (by omega) (by omega),b_s,sCB_L2_s,d0,cond_true,x0,b_s,a1,b_s,i1,sCB_L2_s,d1,cond_true,x1,b_s,a2,b_s,i2,sCB_L2_s,d2,cond_false,hc]
theorem d8m{x y:List (List Afn)}(hx:x.length<=100000)(hy:y.length<=100000):Ev (fun n=>a0i n [x,y]) (x++y):=by
 refine Ev.from 3 (g:=fun _=>some (x++y)) (fun n hn=> ?_) (Ev.pure _)
 obtain⟨m,rfl⟩:∃m,n=m+3:=⟨n-3,by omega⟩
 have e1:iadd .i64 0 (x.length:Int)=(x.length:Int):=by rw [a1k (by omega) (by omega)];omega
 have e2:iadd .i64 (x.length:Int) (y.length:Int)=((x.length+y.length:Nat):Int):=by rw [a1k (by omega) (by omega)];omega
 have a1:app 24 [] x=some x:=a5f (l:= []) (by simp only [List.length_nil];omega);have a2:app 24 x y=some (x++y):=a5f (by omega);have i1:iadd .i64 0 1=1:=by decide
 have i2:iadd .i64 1 1=2:=by decide
 have x0:ix [x,y] 0=some (x):=rfl;have x1:ix [x,y] 1=some (y):=rfl;have d0:decide ((0:Int)<([x,y].length:Int))=true:=rfl;have d1:decide ((1:Int)<([x,y].length:Int))=true:=rfl;have d2:decide ((2:Int)<([x,y].length:Int))=false:=rfl;unfold a0i;rw [sCA_L1_s,d0,cond_true,x0,b_s,e1,decide_eq_false (by omega),cond_false,i1,sCA_L1_s,d1,cond_true,x1,b_s,e2,decide_eq_false (by omega),cond_false,i2,sCA_L1_s,d2,cond_false,
  e9l _ (by omega) (by omega),b_s,sCA_L2_s,d0,cond_true,x0,b_s,a1,b_s,i1,sCA_L2_s,d1,cond_true,x1,b_s,a2,b_s,i2,sCA_L2_s,d2,cond_false]
theorem e5u{x y:List RA}(hx:x.length<=100000)(hy:y.length<=100000):Ev (fun n=>a4w n (toP x) (toP y)) (toP (x++y)):=by
 unfold a4w;exact Ev.bind (d8e hx hy) (Ev.pure _)
structure Gb(nn B:Nat)(g:RFm):Prop where
 gd:Gd nn B g
 sz:Fm.sz g<=200
 len:g.length<=200
theorem Gb.mono{nn A B:Nat}{g:RFm}(h:Gb nn A g)(hk:A<=B):Gb nn B g:=⟨h.gd.mono hk,h.sz,h.len⟩
theorem c8e(nn B:Nat):Gb nn B []:=⟨⟨fun p hp=>(by cases hp),fun p hp=>(by cases hp)⟩,by decide,by decide⟩
theorem Is.gb{nn B:Nat}{g:RFm}{V:List Rat->Rat}(h:Is nn B g V):Gb nn B g:=⟨h.gd,h.sz,h.len⟩
def Res(nz:List Rt.Bs)(fc:Facts)(B:Nat)(o:Option RFm)(r:maker×M.Form):Prop:=∃g,r.2=toFm g/\Gb nz.length B g/\(o=some g/\r.1=⟨nz,fc,false⟩∨o=none/\r.1=⟨nz,fc,true⟩)
section
variable{nz:List Rt.Bs}{fc:Facts}{A B:Nat}{f g:RFm}
theorem Res.weak{o:Option RFm}{r:maker×M.Form}(h:Res nz fc A o r)(hk:A<=B):Res nz fc B o r:=by
 obtain⟨g,h1,h2,h3⟩:=h;exact⟨g,h1,h2.mono hk,h3⟩
theorem c7d(h:prd f*f.length<=200)(h2:f≠ []):prd f<=200:=by
 have:1<=f.length:=List.length_pos_iff.2 h2;have:prd f*1<=prd f*f.length:=Nat.mul_le_mul_left _ this;omega
theorem e0d(h:Gb nz.length A f)(hok:b2v f.length 1 f=true):Gb nz.length A (opp f):=by
 refine⟨e3y h.gd,?_,?_⟩
 ·rw [e7n]
  by_cases h0:f= []
  ·subst h0;decide
  have:=c4f hok h0;rwa [Nat.one_mul]at this
 rw [c2d]
 by_cases h0:f= []
 ·subst h0;decide
 have:=c4f hok h0;rw [Nat.one_mul]at this;exact c7d this h0
theorem c8s(h:Gb nz.length A f)(hn:nz.length<=1000)(hk:A+1<4000000)(b:Bool):Tt (Res nz fc A (if b=true then none else oppB f)) (fun n=>a1z n ⟨nz,fc,b⟩ (toFm f)):=by
 rcases d0d h.gd h.sz h.len (by omega) hk ⟨nz,fc,b⟩with⟨h1,h2,h3⟩|⟨h1,h3⟩
 ·refine Tt.of h3 ⟨opp f,rfl,e0d h h2,?_⟩;cases b with
  |false=>exact .inl ⟨by unfold oppB;rw [if_neg (by decide),if_pos h2],rfl⟩
  |true=>exact .inr ⟨rfl,rfl⟩
 refine Tt.of h3 ⟨[],rfl,c8e _ _,.inr ⟨?_,rfl⟩⟩;cases b with
 |true=>rfl
 |false=>
  rw [if_neg (by decide)];unfold oppB;rcases h1 with⟨_,h1⟩|h1
  ·cases h1
  rw [if_neg (by rw [h1];decide)]
theorem c6f{c:Rat}(h:Gb nz.length A f)(hc:SmF B c)(hn:nz.length<=1000)(hk:A+B<4000000):Ev (fun n=>a5j n (toFm f) (toF c)) (toFm (scl c f))/\Gb nz.length (A+B) (scl c f):=
 ⟨e4d h.gd (by have:=h.sz;omega) (by have:=h.len;omega) (by omega) hc hk,d5g h.gd hc,by rw [d2w];exact h.sz,by rw [f0g];exact h.len⟩
theorem c8k(c:Rat)(hc:SmF B c)(hB:1<=B)(hn:nz.length<=1000)(b:Bool):Tt (Res nz fc B (if b=true then none else some (cst nz.length c))) (fun n=>a0x n ⟨nz,fc,b⟩ (toF c)):=by
 refine Tt.of (c6w _ c hn) ⟨cst nz.length c,rfl,⟨e7h hc hB,by show 1+0<=200;decide,by show 1<=200;decide⟩,?_⟩;cases b
 ·exact .inl ⟨rfl,rfl⟩
 exact .inr ⟨rfl,rfl⟩
theorem a0p(c:Rat):(c=0/\sg c.num=0)∨(0<c/\sg c.num=1)∨(c<0/\sg c.num=-1):=by
 rw [e7y];rcases a5i c 0 with⟨h1,h2⟩|⟨h1,h2⟩|⟨h1,h2⟩
 ·exact .inr (.inr ⟨h1,h2⟩)
 ·exact .inl ⟨h1,h2⟩
 exact .inr (.inl ⟨h1,h2⟩)
theorem e8s{α β:Type}{b:Bool}{o:Option α}{F:α->β}:(if b=true then none else o).map F=if b=true then none else o.map F:=by cases b<;>rfl
theorem c0v{c:Rat}(h:Gb nz.length A f)(hc:SmF B c)(hB:1<=B)(hn:nz.length<=1000)(hk:A+B+1<1000000)(b:Bool):Tt (Res nz fc (A+B) (if b=true then none else b4a nz.length f c)) (fun n=>a3n n ⟨nz,fc,b⟩ (toFm f) (toF c)):=by
 unfold a3n b4a;refine Tt.evb (FSign_ev hc (by omega)) ?_;rcases a0p c with⟨h1,h2⟩|⟨h1,h2⟩|⟨h1,h2⟩
 ·rw [h2,if_pos h1];refine Tt.bif (fun _=> ?_) (fun h=>by cases h);refine Tt.bind (c8k c hc hB hn b) fun r hr=>Tt.pure ?_;subst h1;exact Res.weak hr (by omega)
 ·rw [h2,if_neg (Rat.ne_of_gt h1),if_pos h1];refine Tt.bif (fun h=>by cases h) (fun _=>Tt.bif (fun _=> ?_) (fun h=>by cases h));obtain⟨e,hg⟩:=c6f h hc hn (by omega);refine Tt.evb e (Tt.pure ⟨_,rfl,hg,?_⟩);cases b
  ·exact .inl ⟨rfl,rfl⟩
  exact .inr ⟨rfl,rfl⟩
 have hnp:¬(0<c):=by grind
 rw [h2,if_neg (Rat.ne_of_lt h1),if_neg hnp];refine Tt.bif (fun h=>by cases h) (fun _=>Tt.bif (fun h=>by cases h) (fun _=> ?_));refine Tt.bind (c8s (fc:=fc) h hn (by omega) b) fun r⟨g,hr1,hr2,hr3⟩=> ?_;refine Tt.evb (FNeg_ev hc (by omega)) ?_;obtain⟨e,hg⟩:=c6f hr2 hc.neg hn (by omega);rw [hr1];refine Tt.evb e (Tt.pure ⟨_,rfl,hg,?_⟩);rw [<-e8s];rcases hr3 with⟨e1,e2⟩|⟨e1,e2⟩
 ·exact .inl ⟨by rw [e1];rfl,e2⟩
 exact .inr ⟨by rw [e1];rfl,e2⟩
end
section
variable{nz:List Rt.Bs}{fc:Facts}{A B:Nat}{f g:RFm}
theorem e0y{α β:Type}{b:Bool}{o:Option α}{F:α->Option β}:(if b=true then none else o).bind F=if b=true then none else o.bind F:=by cases b<;>rfl
theorem mem_len:∀{f:RFm}{p:List RA},p∈f->p.length<=Fm.sz f
 |q::f,p,hp=>by
  show p.length<=q.length+Fm.sz f;rcases List.mem_cons.1 hp with rfl|hp
  ·omega
  have:=mem_len hp;omega
theorem c4k{o:Int}(hf:Gb nz.length A f)(hg:Gb nz.length B g)(hn:nz.length<=1000)(hk:A+B+1<1000000)(ho:o=5∨o=6∨o=9∨o=10)(b:Bool){k:Int}(hsz:k=((b6p o f g:Nat):Int))(hlen:b=false->b6p o f g<=200->(b4t o f g).length<=200):
 Tt (Res nz fc (A+B+1) (if b=true then none else if b6p o f g<=200 then some (b4t o f g)else none)) (fun n=>(a2d n ⟨nz,fc,b⟩ k).bind fun v5=>bif !v5.2 then some (v5.1,(⟨[]⟩:M.Form))else
  bif o==9 then(a0i n [(toFm f).Pieces,g.map toP]).bind fun v6=>some (v5.1,(⟨v6⟩:M.Form))else
  bif o==10 then(a4k n (toFm f) (⟨g.map toP⟩:M.Form) (a4w n)).bind fun v7=>some (v5.1,v7)else
  (a4k n (toFm f) (⟨g.map toP⟩:M.Form) (a4z n)).bind fun v8=>some (v5.1,v8)):=by
 refine Tt.evb (Ev.all fun n=>e0k n _ _) ?_;dsimp only;cases hb:(b||decide (200<k))with
 |true=>
  refine Tt.bif (fun _=>Tt.pure ⟨[],rfl,c8e _ _,.inr ⟨?_,rfl⟩⟩) (fun h=>by cases h);cases b with
  |true=>rfl
  |false=>
   have:=of_decide_eq_true (show decide (200<k)=true from hb);rw [if_neg (by decide),if_neg (by omega)]
 |false=>
  obtain⟨rfl,h2⟩:=Bool.or_eq_false_iff.1 hb;have h2:=of_decide_eq_false h2;have hs:b6p o f g<=200:=by omega
  rw [if_neg (by decide),if_pos hs];refine Tt.bif (fun h=>by cases h) (fun _=> ?_);have hl:=hlen rfl hs;have hfl:=hf.len;have hgl:=hg.len;have hfs:=hf.sz;have hgs:=hg.sz;have fin:∀{e:Nat->Option M.Form},Ev e (toFm (b4t o f g))->Gd nz.length (A+B+1) (b4t o f g)->Fm.sz (b4t o f g)=b6p o f g->Tt (Res nz fc (A+B+1) (some (b4t o f g))) (fun n=>(e n).bind fun v=>some ((⟨nz,fc,false⟩:maker),v)):=by
   intro e he hgd hz;exact Tt.evb he (Tt.pure ⟨b4t o f g,rfl,⟨hgd,by rw [hz];exact hs,hl⟩,.inl ⟨rfl,rfl⟩⟩)
  rcases ho with rfl|rfl|rfl|rfl
  ·refine Tt.bif (fun h=>by cases h) (fun _=>Tt.bif (fun h=>by cases h) (fun _=> ?_));exact fin (b2m (op:=sums) (by omega) (by omega) (fun x hx y hy=>e1z (by have:=mem_len hx;omega) (by have:=mem_len hy;omega) (fun a ha=>⟨gdA hf.gd hx ha,hf.gd.wide x hx a ha⟩) (fun a ha=>⟨gdA hg.gd hy ha,hg.gd.wide y hy a ha⟩) (by omega) (by omega))) (c9t hf.gd hg.gd) (sz_sums f g)
  ·refine Tt.bif (fun h=>by cases h) (fun _=>Tt.bif (fun h=>by cases h) (fun _=> ?_));exact fin (b2m (op:=sums) (by omega) (by omega) (fun x hx y hy=>e1z (by have:=mem_len hx;omega) (by have:=mem_len hy;omega) (fun a ha=>⟨gdA hf.gd hx ha,hf.gd.wide x hx a ha⟩) (fun a ha=>⟨gdA hg.gd hy ha,hg.gd.wide y hy a ha⟩) (by omega) (by omega))) (c9t hf.gd hg.gd) (sz_sums f g)
  ·refine Tt.bif (fun _=> ?_) (fun h=>by cases h);have e:Ev (fun n=>(a0i n [(toFm f).Pieces,g.map toP]).bind fun v6=>some (⟨v6⟩:M.Form)) (toFm (b4t 9 f g)):=by
    refine Ev.bind (d8m (by show(f.map toP).length<=_;rw [List.length_map];omega) (by rw [List.length_map];omega)) ((Ev.pure _).eq ?_);show(⟨f.map toP++g.map toP⟩:M.Form)=⟨(f++g).map toP⟩
    rw [List.map_append]
   have:=fin e (e8h (hf.gd.mono (by omega)) (hg.gd.mono (by omega))) (sz_app f g);obtain⟨r,hr,h⟩:=this;exact⟨r,Ev.conv (fun n=>by cases a0i n [(toFm f).Pieces,g.map toP]<;>rfl) hr,h⟩
  refine Tt.bif (fun h=>by cases h) (fun _=>Tt.bif (fun _=> ?_) (fun h=>by cases h));exact fin (b2m (op:=(·++·)) (by omega) (by omega) (fun x hx y hy=>e5u (by have:=mem_len hx;omega) (by have:=mem_len hy;omega))) (e0o (hf.gd.mono (by omega)) (hg.gd.mono (by omega))) (sz_both f g)
theorem e4j{o:Int}(hf:Gb nz.length A f)(hg:Gb nz.length B g)(hn:nz.length<=1000)(hk:A+B+1<1000000)(ho:o=5∨o=6∨o=9∨o=10)(b:Bool)(hlen:b=false->∀r,c0t o f g=some r->r.length<=200):
 Tt (Res nz fc (A+B+1) (if b=true then none else c0t o f g)) (fun n=>a6m n ⟨nz,fc,b⟩ o (toFm f) (toFm g)):=by
 unfold a6m;refine Tt.bind (P:=fun r=>∃g' b',r=(g'.map toP,nz,fc.Lifts,fc.Persons,fc.Flats,b')/\Gb nz.length B g'/\(if b=true then none else(if o=6 then oppB g else some g))=(if b'=true then none else some g')/\(b'=false->b=false)) ?_ ?_
 ·refine Tt.bif (fun h6=> ?_) (fun h6=> ?_)
  ·have h6:o=6:=by simpa using h6
   refine Tt.bind (c8s (fc:=fc) hg hn (by omega) b) fun r⟨g',hr1,hr2,hr3⟩=>Tt.pure ?_;rcases hr3 with⟨e1,e2⟩|⟨e1,e2⟩
   ·refine⟨g',false,by rw [hr1,e2];rfl,hr2,by rw [if_pos h6,e1];rfl,fun _=> ?_⟩;cases b
    ·rfl
    cases e1
   exact⟨g',true,by rw [hr1,e2];rfl,hr2,by rw [if_pos h6,e1];rfl,fun h=>by cases h⟩
  have h6:¬o=6:=by simpa using h6
  exact Tt.pure ⟨g,b,rfl,hg,by rw [if_neg h6],id⟩
 rintro _ ⟨g',b',rfl,hg',hb,hbb⟩;dsimp only;have hfl:=hf.len;have hfs:=hf.sz;have hgl:=hg'.len;have hgs:=hg'.sz;have s1:Ev (fun n=>a4g n (toFm f)) (Fm.sz f:Int):=d9s f (by omega) (by omega);have s2:Ev (fun n=>a4g n (⟨g'.map toP⟩:M.Form)) (Fm.sz g':Int):=d9s g' (by omega) (by omega);have m1:=Nat.mul_le_mul hfs hgl;have m2:=Nat.mul_le_mul hgs hfl;have m3:=Nat.mul_le_mul hfs hgs;have hpb:(if b=true then none else c0t o f g)=(if b'=true then none else if b6p o f g'<=200 then some (b4t o f g')else none):=by
  have e:(if b=true then none else c0t o f g)=(if b=true then none else(if o=6 then oppB g else some g)).bind fun g=>if b6p o f g<=200 then some (b4t o f g)else none:=by rw [e0y];rfl
  rw [e,hb,e0y];rfl
 have hlen':b'=false->b6p o f g'<=200->(b4t o f g').length<=200:=by
  intro h1 h2;have h3:=hbb h1;refine hlen h3 _ ?_;rw [h3,h1,if_neg (by decide),if_neg (by decide),if_pos h2]at hpb;exact hpb
 rw [hpb];refine Tt.evb s1 (Tt.evb s2 ?_);have mi:∀{x y:Nat},x*y<=40000->imul .i64 (x:Int) (y:Int)=((x*y:Nat):Int):=fun h=>mulN (by omega);rcases ho with rfl|rfl|rfl|rfl
 ·refine Tt.bif (fun h=>by cases h) (fun _=>Tt.bif (fun h=>by cases h) (fun _=> ?_));exact c4k (k:=imul .i64 (Fm.sz f:Int) (Fm.sz g':Int)) hf hg' hn hk (by decide) b' (mi m3) hlen'
 ·refine Tt.bif (fun h=>by cases h) (fun _=>Tt.bif (fun h=>by cases h) (fun _=> ?_));exact c4k (k:=imul .i64 (Fm.sz f:Int) (Fm.sz g':Int)) hf hg' hn hk (by decide) b' (mi m3) hlen'
 ·refine Tt.bif (fun _=> ?_) (fun h=>by cases h);refine Tt.evb s1 (Tt.evb s2 ?_);exact c4k (k:=iadd .i64 (Fm.sz f:Int) (Fm.sz g':Int)) hf hg' hn hk (by decide) b' (by rw [a1k (by omega) (by omega)];rfl) hlen'
 refine Tt.bif (fun h=>by cases h) (fun _=>Tt.bif (fun _=> ?_) (fun h=>by cases h));refine Tt.evb s1 (Tt.evb s2 ?_);refine c4k (k:=iadd .i64 (imul .i64 (Fm.sz f:Int) ((g'.map toP).length:Int)) (imul .i64 (Fm.sz g':Int) ((toFm f).Pieces.length:Int))) hf hg' hn hk (by decide) b' ?_ hlen';have l1:(toFm f).Pieces.length=f.length:=List.length_map ..;rw [List.length_map,l1,mi m1,mi m2,a1k (by omega) (by omega)];rfl
end
section
variable{nz:List Rt.Bs}{fc:Facts}(hf:RF nz fc (List.replicate nz.length 0))(hnm:named nz=true)(hn:nz.length<=1000)
include hf hnm hn
omit hf hnm hn in
theorem c8t(k:Nat):∀w,w∈List.replicate k (0:Rat)->SmF 4 w:=fun w hw=>by obtain⟨_,rfl⟩:=List.mem_replicate.1 hw;exact sm0 (by decide)
theorem f0q{x:M.Expr}(hx:Fit x)(hfr:Frm x){k:Int}(ht:Typ nz x k)(hk:k≠0):Ev (fun n=>a6e n (⟨[97],x,-1⟩:Tariff) nz fc (List.replicate nz.length (toF 0))) (toF (num (E0 nz fc) x),0):=by
 have:=(d6e (t:=⟨[97],x,-1⟩) hx (by omega) (c8t nz.length) (by decide) (by decide) (by omega) ⟨hnm,⟨show Lx.name [97]=true by decide,hfr,show(-1:Int)<=-1 by decide,show(-1:Int)<=1099511627776 by decide⟩,k,hk,ht⟩ hf).1
 rwa [List.map_replicate]at this
theorem b3z{x:M.Expr}(hx:Fit x)(hfr:Frm x){k:Int}(ht:Typ nz x k)(hk:k≠0)(b:Bool):Ev (fun n=>a2h n ⟨nz,fc,b⟩ x) (⟨nz,fc,b⟩,toF (num (E0 nz fc) x)):=by
 unfold a2h;exact Ev.bind FInt0 (Ev.bind (c0w _ hn) (Ev.bind (Ev.bind (f0q hf hnm hn hx hfr ht hk) (Ev.pure _)) (Ev.pure _)))
theorem e5r{c a e:M.Expr}(hx:Fit c)(hfr:Frm ⟨11,0,[],[c,a,e]⟩)(ht:Typ nz c 0)(b:Bool):Ev (fun n=>a5t n ⟨nz,fc,b⟩ c) (⟨nz,fc,b⟩,tru (E0 nz fc) c):=by
 unfold a5t;have f0:Fit ⟨11,0,[],[c,⟨0,1,[],[]⟩,⟨0,0,[],[]⟩]⟩:=Fit.mk (by simp) (fun y hy=>by
  simp only [List.mem_cons,List.not_mem_nil,or_false]at hy;rcases hy with rfl|rfl|rfl
  ·exact hx
  ·exact Fit.leaf _ _ _
  exact Fit.leaf _ _ _)
 have t0:Typ nz ⟨11,0,[],[c,⟨0,1,[],[]⟩,⟨0,0,[],[]⟩]⟩ (wd 1 1):=Typ.ite ht (Typ.num (by decide) (by decide)) (Typ.num (by decide) (by decide)) (by decide) (by decide);have hc1:cnt ⟨11,0,[],[c,a,e]⟩=cnt c+(cnt a+(cnt e+0))+1:=rfl;have hc2:cnt ⟨11,0,[],[c,⟨0,1,[],[]⟩,⟨0,0,[],[]⟩]⟩=cnt c+(1+(1+0))+1:=rfl;have hd1:dep ⟨11,0,[],[c,a,e]⟩=max (dep c) (max (dep a) (max (dep e) 0))+1:=rfl;have hd2:dep ⟨11,0,[],[c,⟨0,1,[],[]⟩,⟨0,0,[],[]⟩]⟩=max (dep c) (max 1 (max 1 0))+1:=rfl;have pa:=b1m a;have pe:=b1m e;have da:1<=dep a:=by obtain⟨o,n,s,l⟩:=a;show 1<=deps l+1;omega
 have r1:Frm ⟨11,0,[],[c,⟨0,1,[],[]⟩,⟨0,0,[],[]⟩]⟩:=⟨⟨by have:=hfr.1.1;omega,by have:=hfr.1.2;omega⟩,t0.shx⟩
 refine Ev.bind (b3z hf hnm hn f0 r1 t0 (by decide) b) ?_;have hv:num (E0 nz fc) ⟨11,0,[],[c,⟨0,1,[],[]⟩,⟨0,0,[],[]⟩]⟩=if tru (E0 nz fc) c=true then 1 else 0:=by rw [num_ite,num_num,num_num];rfl
 rw [hv];cases tru (E0 nz fc) c with
 |true=>exact Ev.bind (FSign_ev (k:=1) (sm1 (by decide)) (by decide)) ((Ev.pure _).eq rfl)
 |false=>exact Ev.bind (FSign_ev (k:=1) (sm0 (by decide)) (by decide)) ((Ev.pure _).eq rfl)
omit hf in
theorem b9k{x:M.Expr}(hx:Fit x)(hfr:Frm x){k:Int}(ht:Typ nz x k)(b:Bool):Ev (fun n=>a3s n ⟨nz,fc,b⟩ x) (⟨nz,fc,b⟩,k):=by
 unfold a3s;exact Ev.bind (f0w (by omega) hnm hx hfr ht) (Ev.pure _)
omit hf hnm hn in
theorem e3l{x:M.Expr}:Ev (fun n=>minmax_maker_made n ⟨nz,fc,true⟩ x) (⟨nz,fc,true⟩,⟨[]⟩):=Ev.suc (fun n=>minmax_maker_made_s _ _ n) (Ev.then rfl (Ev.pure _))
theorem e6c{x:M.Expr}(hx:Fit x)(hfr:Frm x)(ht:Typ nz x 1){K:Nat->maker×Int->Option (maker×M.Form)}:Tt (Res nz fc (4*cnt x) (some (cst nz.length (num (E0 nz fc) x)))) (fun n=>(a3s n ⟨nz,fc,false⟩ x).bind fun v1=>bif v1.2==1 then(a2h n v1.1 x).bind fun v2=>(a0x n v2.1 v2.2).bind fun v3=>some (v3.1,v3.2)else K n v1):=by
 refine Tt.evb (b9k hnm hn hx hfr ht false) (Tt.bif (fun _=> ?_) (fun h=>by cases h));refine Tt.evb (b3z hf hnm hn hx hfr ht (by decide) false) ?_;have hc:cnt x<=1000:=by have:=hfr.1.2;omega
 refine Tt.bind (c8k (fc:=fc) (num (E0 nz fc) x) (b6w hf (by omega) ht (by decide) hc) (by have:=b1m x;omega) hn false) fun r hr=>Tt.pure ?_;exact hr
omit hf hnm hn in
theorem d5s{n k:Nat}(hk:k<n):setw (toFm (cst n 0)).Pieces (k:Int) (toF 1)=some (toFm (wgt n k)).Pieces:=by
 rw [c1r];unfold setw;dsimp only;have h1:lset (List.replicate n (toF 0)) (k:Int) (toF 1)=some ((List.replicate n (toF 0)).set k (toF 1)):=by
  unfold lset;rw [if_pos ⟨by omega,by simp;omega⟩,Int.toNat_natCast]
 rw [h1];unfold toFm wgt toP toA;simp only [List.map_cons,List.map_nil,List.map_set,List.map_replicate,b_s]
theorem f2u{x:M.Expr}{k:Int}(ht:Typ nz x k):Fit x->Frm x->k≠0->Tt (Res nz fc (4*cnt x) (mk nz (E0 nz fc) x).2) (fun n=>minmax_maker_made n ⟨nz,fc,false⟩ x):=by
 have c2:∀(o n:Int)(s:Rt.Bs)(a b:M.Expr),cnt ⟨o,n,s,[a,b]⟩=cnt a+cnt b+1:=fun o n s a b=>by show cnt a+(cnt b+0)+1=_;omega
 have num1:∀{x:M.Expr},Typ nz x 1->Fit x->Frm x->Tt (Res nz fc (4*cnt x) (mk nz (E0 nz fc) x).2) (fun n=>minmax_maker_made n ⟨nz,fc,false⟩ x):=by
  intro x ht hx hfr;rw [(b5x hf (by omega) ht (by have:=hfr.1.2;omega) (by decide)).2.1 rfl];exact Tt.suc (fun n=>minmax_maker_made_s _ _ n) (Tt.bif (fun h=>by cases h) (fun _=>e6c hf hnm hn hx hfr ht))
 have ht0:=ht;induction ht with
 |num h0 h1=>intro hx hfr _;exact num1 ht0 hx hfr
 |lifts h0 h1=>intro hx hfr _;exact num1 ht0 hx hfr
 |pers=>intro hx hfr _;exact num1 ht0 hx hfr
 |flats=>intro hx hfr _;exact num1 ht0 hx hfr
 | @wgt s h0 hs=>
  intro hx hfr _;refine Tt.suc (fun n=>minmax_maker_made_s _ _ n) (Tt.bif (fun h=>by cases h) (fun _=> ?_));refine Tt.evb (b9k hnm hn hx hfr ht0 false) (Tt.bif (fun h=>by cases h) (fun _=>Tt.bif (fun _=> ?_) (fun h=>by cases h)));refine Tt.evb FInt0 (Tt.evb (c6w _ 0 hn) ?_);have hi:nz.idxOf s<nz.length:=List.idxOf_lt_length_of_mem hs;refine Tt.step (a:= [⟨toF 0,List.replicate nz.length (toF 0)⟩]) (by rw [c1r];rfl) ?_;refine Tt.step (a:=⟨toF 0,List.replicate nz.length (toF 0)⟩) rfl ?_;refine Tt.evb (d7i s (by show nz.length<_;omega)) ?_;rw [if_pos (show s∈nz from hs)];refine Tt.evb FInt1 ?_;refine Tt.step (a:=toF 0) (by rw [a9n];show(List.replicate nz.length (toF 0))[nz.idxOf s]?=_;rw [List.getElem?_replicate,if_pos hi]) ?_;refine Tt.step (d5s hi) (Tt.pure ?_);exact⟨wgt nz.length (nz.idxOf s),rfl,⟨e7f (by show 1<=4*1;decide),by show 1+0<=200;decide,by show 1<=200;decide⟩,.inl ⟨rfl,rfl⟩⟩
 | @ari o a b p q ho ha hb hp hq iha ihb=>
  intro hx hfr _;have hxa:=a7s hx (y:=a) (by simp);have hxb:=a7s hx (y:=b) (by simp);have hra:=b0b hfr (y:=a) (by simp);have hrb:=b0b hfr (y:=b) (by simp);have hcx:=hfr.1.2;rw [c2]at hcx;have ma:=b5x hf (by omega) ha (by omega) hp;have mb:=b5x hf (by omega) hb (by omega) hq;have hw:=wd2 (r12 ha hp) (r12 hb hq);rcases a8v p q with h1|h2
  ·rw [h1]at ht0;exact num1 ht0 hx hfr
  rw [h2]at ht0;have hcond:((mk nz (E0 nz fc) a).1||(mk nz (E0 nz fc) b).1)=true:=by rw [ma.1,mb.1,<-hw,h2];rfl
  have e:(mk nz (E0 nz fc) ⟨o,0,[],[a,b]⟩).2=(mk nz (E0 nz fc) a).2.bind fun f=>(mk nz (E0 nz fc) b).2.bind fun g=>c0t o f g:=by
   rw [b5r,b1j];rw [if_pos hcond,if_neg (by omega),if_neg (by omega)]
  have hm:=b5x hf (by omega) ht0 (by rw [c2];omega) (by decide);rw [e];have ne:∀k:Int,(k=4∨k=11∨k=8∨k=7)->(o==k)=false:=fun k hk=>by rw [beq_eq_false_iff_ne];omega
  refine Tt.suc (fun n=>minmax_maker_made_s _ _ n) (Tt.bif (fun h=>by cases h) (fun _=> ?_));refine Tt.evb (b9k hnm hn hx hfr ht0 false) (Tt.bif (fun h=>by cases h) (fun _=> ?_));refine Tt.bif (fun h=>by rw [show(o==4)=false from ne 4 (by decide)]at h;cases h) (fun _=>Tt.bif (fun h=>by rw [show(o==11)=false from ne 11 (by decide)]at h;cases h) (fun _=>Tt.bif (fun h=>by rw [show(o==8)=false from ne 8 (by decide)]at h;cases h) (fun _=>Tt.bif (fun h=>by rw [show(o==7)=false from ne 7 (by decide)]at h;cases h) (fun _=> ?_))));refine Tt.step (a:=a) rfl (Tt.bind (iha ha hxa hra hp) fun r1⟨f,f1,f2,f3⟩=>Tt.step (a:=b) rfl ?_);rw [c2];rcases f3 with⟨f3,f4⟩|⟨f3,f4⟩
  ·rw [f4];refine Tt.bind (ihb hb hxb hrb hq) fun r2⟨g,g1,g2,g3⟩=> ?_;rw [f1,g1,f3];rcases g3 with⟨g3,g4⟩|⟨g3,g4⟩
   ·rw [g3,g4];refine Tt.bind (e4j (fc:=fc) f2 g2 hn (by omega) ho false fun _ r hr=> ?_) fun r3 hr3=>Tt.pure (Res.weak hr3 (by omega));exact(hm.2.2 r (by rw [e,f3,g3];exact hr)).len
   rw [g3,g4];refine Tt.bind (e4j (fc:=fc) f2 g2 hn (by omega) ho true fun h=>by cases h) fun r3 hr3=>Tt.pure (Res.weak hr3 (by omega))
  rw [f4];refine Tt.evb e3l ?_;rw [f1,f3];refine Tt.bind (e4j (fc:=fc) (B:=0) f2 (c8e _ _) hn (by omega) ho true fun h=>by cases h) fun r3 hr3=>Tt.pure (Res.weak hr3 (by omega))
 | @mul a b p q ha hb hp hq hpq iha ihb=>
  intro hx hfr _;have hxa:=a7s hx (y:=a) (by simp);have hxb:=a7s hx (y:=b) (by simp);have hra:=b0b hfr (y:=a) (by simp);have hrb:=b0b hfr (y:=b) (by simp);have hcx:=hfr.1.2;rw [c2]at hcx;have ma:=b5x hf (by omega) ha (by omega) hp;have mb:=b5x hf (by omega) hb (by omega) hq;have hw:=wd2 (r12 ha hp) (r12 hb hq);rcases a8v p q with h1|h2
  ·rw [h1]at ht0;exact num1 ht0 hx hfr
  rw [h2]at ht0;have hcond:((mk nz (E0 nz fc) a).1||(mk nz (E0 nz fc) b).1)=true:=by rw [ma.1,mb.1,<-hw,h2];rfl
  have e:(mk nz (E0 nz fc) ⟨7,0,[],[a,b]⟩).2=if(mk nz (E0 nz fc) a).1=true then(mk nz (E0 nz fc) a).2.bind fun f=>b4a nz.length f (num (E0 nz fc) b)else(mk nz (E0 nz fc) b).2.bind fun f=>b4a nz.length f (num (E0 nz fc) a):=by
   rw [b5r,b1j];rw [if_pos hcond,if_pos rfl];rfl
  rw [e];refine Tt.suc (fun n=>minmax_maker_made_s _ _ n) (Tt.bif (fun h=>by cases h) (fun _=> ?_));refine Tt.evb (b9k hnm hn hx hfr ht0 false) (Tt.bif (fun h=>by cases h) (fun _=> ?_));refine Tt.bif (fun h=>by cases h) (fun _=>Tt.bif (fun h=>by cases h) (fun _=>Tt.bif (fun h=>by cases h) (fun _=>Tt.bif (fun _=> ?_) (fun h=>by cases h))));refine Tt.step (a:=a) rfl (Tt.evb (b9k hnm hn hxa hra ha false) ?_);rw [c2];refine Tt.bif (fun h1=> ?_) (fun h1=> ?_)
  ·have hp1:p=1:=by simpa using h1
   subst hp1;rw [ma.1,if_neg (by decide)];refine Tt.step (a:=b) rfl (Tt.step (a:=a) rfl ?_);refine Tt.bind (ihb hb hxb hrb hq) fun r1⟨f,f1,f2,f3⟩=> ?_;rw [f1];have hs:=b6w hf (by omega) ha (by decide) (by omega);rcases f3 with⟨f3,f4⟩|⟨f3,f4⟩
   ·rw [f4,f3];refine Tt.evb (b3z hf hnm hn hxa hra ha (by decide) false) ?_;exact Tt.bind (c0v (fc:=fc) f2 hs (by have:=b1m a;omega) hn (by omega) false) fun r3 hr3=>Tt.pure (Res.weak hr3 (by omega))
   rw [f4,f3];refine Tt.evb (b3z hf hnm hn hxa hra ha (by decide) true) ?_;exact Tt.bind (c0v (fc:=fc) f2 hs (by have:=b1m a;omega) hn (by omega) true) fun r3 hr3=>Tt.pure (Res.weak hr3 (by omega))
  have hp2:p=2:=by
   rcases r12 ha hp with h|h
   ·subst h;cases h1
   exact h
  have hq1:q=1:=by rcases r12 hb hq with h|h;exact h;exact absurd ⟨hp2,h⟩ hpq
  subst hp2;subst hq1;rw [ma.1,if_pos (by decide)];refine Tt.step (a:=a) rfl (Tt.step (a:=b) rfl ?_);refine Tt.bind (iha ha hxa hra hp) fun r1⟨f,f1,f2,f3⟩=> ?_;rw [f1];have hs:=b6w hf (by omega) hb (by decide) (by omega);rcases f3 with⟨f3,f4⟩|⟨f3,f4⟩
  ·rw [f4,f3];refine Tt.evb (b3z hf hnm hn hxb hrb hb (by decide) false) ?_;exact Tt.bind (c0v (fc:=fc) f2 hs (by have:=b1m b;omega) hn (by omega) false) fun r3 hr3=>Tt.pure (Res.weak hr3 (by omega))
  rw [f4,f3];refine Tt.evb (b3z hf hnm hn hxb hrb hb (by decide) true) ?_;exact Tt.bind (c0v (fc:=fc) f2 hs (by have:=b1m b;omega) hn (by omega) true) fun r3 hr3=>Tt.pure (Res.weak hr3 (by omega))
 | @div a m p ha hp h1 h2 iha=>
  intro hx hfr _;have hxa:=a7s hx (y:=a) (by simp);have hra:=b0b hfr (y:=a) (by simp);have hcx:=hfr.1.2;rw [c2]at hcx;have ma:=b5x hf (by omega) ha (by omega) hp;rcases r12 ha hp with rfl|rfl
  ·exact num1 ht0 hx hfr
  have e:(mk nz (E0 nz fc) ⟨8,0,[],[a,⟨0,m,[],[]⟩]⟩).2=(mk nz (E0 nz fc) a).2.map (scl (1/(m:Rat))):=by
   have hb:(mk nz (E0 nz fc) ⟨0,m,[],[]⟩).1=false:=rfl;rw [b5r,b1j];rw [if_pos (by rw [ma.1,hb];decide),if_neg (by decide),if_pos rfl];rfl
  rw [e];refine Tt.suc (fun n=>minmax_maker_made_s _ _ n) (Tt.bif (fun h=>by cases h) (fun _=> ?_));refine Tt.evb (b9k hnm hn hx hfr ht0 false) (Tt.bif (fun h=>by cases h) (fun _=> ?_));refine Tt.bif (fun h=>by cases h) (fun _=>Tt.bif (fun h=>by cases h) (fun _=>Tt.bif (fun _=> ?_) (fun h=>by cases h)));refine Tt.step (a:=⟨0,m,[],[]⟩) rfl ?_;have hdv:Rat.divInt 1 m=1/(m:Rat):=by rw [Rat.divInt_eq_div];rfl
  have hof:=f4d (x:=1) (y:=m) (by decide) (by decide) (by omega) (by omega) (by omega);rw [hdv]at hof;refine Tt.evb hof (Tt.step (a:=a) rfl ?_);have hs:SmF 5 (1/(m:Rat)):=e5k (j:=1) (k:=4) (sm1 (by decide)) (smI (x:=m) (by omega) (by omega) (by decide)) (by rw [Rat.num_intCast];omega);have hcl:cnt ⟨0,m,[],[]⟩=1:=rfl;rw [c2];refine Tt.bind (iha ha hxa hra hp) fun r1⟨f,f1,f2,f3⟩=> ?_;rw [f1];obtain⟨e5,hg5⟩:=c6f f2 hs hn (by omega);refine Tt.evb e5 (Tt.pure ⟨_,rfl,hg5.mono (by omega),?_⟩);rcases f3 with⟨f3,f4⟩|⟨f3,f4⟩
  ·exact .inl ⟨by rw [f3];rfl,f4⟩
  exact .inr ⟨by rw [f3];rfl,f4⟩
 | @ite c a b p q hc0 ha hb hp hq ihc iha ihb=>
  intro hx hfr _;have hxc:=a7s hx (y:=c) (by simp);have hxa:=a7s hx (y:=a) (by simp);have hxb:=a7s hx (y:=b) (by simp);have hra:=b0b hfr (y:=a) (by simp);have hrb:=b0b hfr (y:=b) (by simp);have hcx:=hfr.1.2;have hc3:cnt ⟨11,0,[],[c,a,b]⟩=cnt c+cnt a+cnt b+1:=by show cnt c+(cnt a+(cnt b+0))+1=_;omega
  rw [hc3]at hcx;have ma:=b5x hf (by omega) ha (by omega) hp;have mb:=b5x hf (by omega) hb (by omega) hq;have hw:=wd2 (r12 ha hp) (r12 hb hq);rcases a8v p q with h1|h2
  ·rw [h1]at ht0;exact num1 ht0 hx hfr
  rw [h2]at ht0;have hcond:((mk nz (E0 nz fc) a).1||(mk nz (E0 nz fc) b).1)=true:=by rw [ma.1,mb.1,<-hw,h2];rfl
  have e:(mk nz (E0 nz fc) ⟨11,0,[],[c,a,b]⟩).2=if tru (E0 nz fc) c=true then(mk nz (E0 nz fc) a).2 else(mk nz (E0 nz fc) b).2:=by
   show(mkN nz 11 [] (num (E0 nz fc) ⟨11,0,[],[c,a,b]⟩) [vl (E0 nz fc) c,vl (E0 nz fc) a,vl (E0 nz fc) b] [mk nz (E0 nz fc) c,mk nz (E0 nz fc) a,mk nz (E0 nz fc) b]).2=_;rw [c1c,if_pos hcond];rfl
  rw [e];refine Tt.suc (fun n=>minmax_maker_made_s _ _ n) (Tt.bif (fun h=>by cases h) (fun _=> ?_));refine Tt.evb (b9k hnm hn hx hfr ht0 false) (Tt.bif (fun h=>by cases h) (fun _=> ?_));refine Tt.bif (fun h=>by cases h) (fun _=>Tt.bif (fun _=> ?_) (fun h=>by cases h));refine Tt.step (a:=c) rfl (Tt.evb (e5r hf hnm hn hxc hfr hc0 false) ?_);rw [hc3];cases tru (E0 nz fc) c with
  |true=>
   refine Tt.bif (fun _=> ?_) (fun h=>by cases h);exact Tt.step (a:=a) rfl (Tt.bind (iha ha hxa hra hp) fun r hr=>Tt.pure (Res.weak hr (by omega)))
  |false=>
   refine Tt.bif (fun h=>by cases h) (fun _=> ?_);exact Tt.step (a:=b) rfl (Tt.bind (ihb hb hxb hrb hq) fun r hr=>Tt.pure (Res.weak hr (by omega)))
 |rel=>intro _ _ h;exact absurd rfl h
 |not=>intro _ _ h;exact absurd rfl h
 |bin=>intro _ _ h;exact absurd rfl h
end
theorem e3r{nz:List Rt.Bs}{f:Facts}{t:Tariff}(hx:Fit t.Fee)(hn:nz.length<=1000)(hl:f.Lifts.length<=1000000){wgs:List Frac}{k:Nat}(hw:Lim k wgs)(hk:k<=30)(hk4:4<=k)(hwl:wgs.length<=1000000):
 ∃e,Ev (fun n=>a4t n t nz) e/\(e=0↔Chk nz t)/\(e≠0->Ev (fun n=>a6e n t nz f wgs) (zeroF,e))/\(e=0->b5q nz f wgs=false->Ev (fun n=>a6e n t nz f wgs) (zeroF,1))/\
  (e=0->∀ws:List Rat,wgs=ws.map toF->RF nz f ws->(∀w,w∈ws->SmF k w)->Ev (fun n=>a6e n t nz f wgs) (toF (fv nz f ws t),0)/\SmF 3000 (fv nz f ws t)):=by
 obtain⟨e,he,hq⟩:=d4b hx nz (by omega);refine⟨e,he,hq,fun h=> ?_,fun h hr=> ?_,fun h ws hws hrf hsm=> ?_⟩
 ·unfold a6e;exact Ev.bind he (Ev.then (by simpa using h) (Ev.pure _))
 ·unfold a6e;subst h;refine Ev.bind he (Ev.else rfl (Ev.bind (d6h hw hk hl hwl) ?_));rw [hr];exact Ev.then rfl (Ev.pure _)
 subst hws;exact d6e hx (by omega) hsm hk hk4 (by omega) (hq.1 h) hrf
def FR(nz:List Rt.Bs)(f:Facts):Prop:=RF nz f (List.replicate nz.length 0)
theorem f5g{nz:List Rt.Bs}{f:Facts}{ws:List Rat}(h:RF nz f ws):FR nz f:=⟨h.hl,by simp,h.p1,h.p2,h.f1,h.f2,h.l1,fun w hw=>by obtain⟨_,rfl⟩:=List.mem_replicate.1 hw;exact Rat.le_refl⟩
theorem lim0(k:Nat):Lim 4 (List.replicate k (toF 0)):=by
 intro w hw;obtain⟨_,rfl⟩:=List.mem_replicate.1 hw;exact b3n (sm0 (by decide))
theorem e2r{nz:List Rt.Bs}{f:Facts}:b5q nz f (List.replicate nz.length (toF 0))=true↔FR nz f:=by
 constructor
 ·intro h;obtain⟨ws,_,h2,_⟩:=d7m (lim0 _) h;exact f5g h2
 intro h;have:=d1a h
 rwa [List.map_replicate]at this
theorem f3f{nz:List Rt.Bs}{f:Facts}{t:Tariff}(hx:Fit t.Fee)(hn:nz.length<=1000)(hl:f.Lifts.length<=1000000):
 ∃e,Ev (fun n=>a4t n t nz) e/\(e=0↔Chk nz t)/\(e≠0->Ev (fun n=>a6k n t nz f) (⟨[]⟩,e))/\(e=0->¬FR nz f->Ev (fun n=>a6k n t nz f) (⟨[]⟩,1))/\
  (e=0->FR nz f->(∀g,(mk nz (E0 nz f) t.Fee).2=some g->Ev (fun n=>a6k n t nz f) (toFm g,0))/\((mk nz (E0 nz f) t.Fee).2=none->Ev (fun n=>a6k n t nz f) (⟨[]⟩,6))):=by
 obtain⟨e,he,hq⟩:=d4b hx nz (by omega);have num:e=0->∃e2,(e2=0↔FR nz f)/\(e2≠0->e2=1)/\Ev (fun n=>(a3g n 0).bind fun v3=>(a2m n [v3] (nz.length:Int)).bind fun v4=>(a6e n (⟨[97],(⟨0,0,[],[]⟩:M.Expr),(-1)⟩:Tariff) nz f v4).bind fun v5=>some v5.2) e2:=by
  intro h0;have hc:=hq.1 h0;have hc2:Chk nz ⟨[97],⟨0,0,[],[]⟩,-1⟩:=⟨hc.1,⟨show Lx.name [97]=true by decide,⟨⟨by decide,by decide⟩,(Typ.num (nz:= []) (by decide) (by decide)).shx⟩,show(-1:Int)<=-1 by decide,show(-1:Int)<=1099511627776 by decide⟩,1,by decide,Typ.num (by decide) (by decide)⟩
  obtain⟨e3,g1,g2,g3,g4,g5⟩:=e3r (nz:=nz) (f:=f) (t:=⟨[97],⟨0,0,[],[]⟩,-1⟩) (wgs:=List.replicate nz.length (toF 0)) (k:=4) (Fit.leaf _ _ _) hn hl (lim0 _) (by decide) (by decide) (by simp;omega);have h3:=g2.2 hc2
  by_cases hr:FR nz f
  ·refine⟨0,⟨fun _=>hr,fun _=>rfl⟩,fun h=>absurd rfl h,?_⟩;exact Ev.bind FInt0 (Ev.bind (c0w _ hn) (Ev.bind (g5 h3 (List.replicate nz.length 0) (by rw [List.map_replicate]) hr (c8t _)).1 (Ev.pure _)))
  refine⟨1,⟨fun h=>(by cases h),fun h=>absurd h hr⟩,fun _=>rfl,?_⟩;have hr2:b5q nz f (List.replicate nz.length (toF 0))=false:=by
   cases h:b5q nz f (List.replicate nz.length (toF 0))with
   |false=>rfl
   |true=>exact absurd (e2r.1 h) hr
  exact Ev.bind FInt0 (Ev.bind (c0w _ hn) (Ev.bind (g4 h3 hr2) (Ev.pure _)))
 refine⟨e,he,hq,fun h=> ?_,fun h hr=> ?_,fun h hr=> ?_⟩
 ·unfold a6k;exact Ev.bind he (Ev.then (by simpa using h) (Ev.pure _))
 ·obtain⟨e2,h1,h2,h3⟩:=num h;have h4:e2≠0:=fun h=>hr (h1.1 h);have h5:=h2 h4;subst h5;unfold a6k;exact Ev.bind he (Ev.else (by rw [h];rfl) (Ev.bind h3 (Ev.then rfl (Ev.pure _))))
 obtain⟨e2,h1,h2,h3⟩:=num h;have h5:=h1.2 hr;subst h5;obtain⟨hc1,hc2,k,hk,ht⟩:=hq.1 h;obtain⟨r,hr1,g,hr2,hr3,hr4⟩:=f2u hr hc1 hn ht hx hc2.2.1 hk;have main:∀{res:M.Form×Int},(bif r.1.full then some ((⟨[]⟩:M.Form),(6:Int))else some (r.2,0))=some res->Ev (fun n=>a6k n t nz f) res:=by
  intro res hres;unfold a6k;refine Ev.bind he (Ev.else (by rw [h];rfl) (Ev.bind h3 (Ev.else rfl (Ev.bind hr1 ?_))));rw [hres];exact Ev.pure _
 refine⟨fun g' hg'=> ?_,fun hnone=> ?_⟩
 ·rcases hr4 with⟨e1,e3⟩|⟨e1,e3⟩
  ·rw [hg']at e1;cases e1;exact main (by rw [e3,hr2];rfl)
  rw [hg']at e1;cases e1
 rcases hr4 with⟨e1,e3⟩|⟨e1,e3⟩
 ·rw [hnone]at e1;cases e1
 exact main (by rw [e3];rfl)
def rat(f:Frac):Rat:=Rat.divInt (ofB f.P) (ofB f.Q)
theorem d9l(r:Rat):rat (toF r)=r:=by
 unfold rat toF;rw [b3q,b3q];exact Rat.num_divInt_den r
theorem c1w{f:Frac}(h:a4x f=true):toF (rat f)=f:=by
 obtain⟨r,rfl⟩:=c0r h;rw [d9l]
def LimF(k:Nat)(w:Frac):Prop:=w.P.Digits.length<=k/\w.Q.Digits.length<=k
theorem c2a{f:Frac}{k:Nat}(hl:LimF k f)(h:a4x f=true):SmF k (rat f):=by
 obtain⟨r,rfl,hs⟩:=d7g hl h;rw [d9l];exact hs
def decA(a:Afn):RA:=(rat a.Const,a.Coefs.map rat)
def decX(x:M.Form):RFm:=x.Pieces.map (·.map decA)
def badC(c:Frac):Bool:= !a4x c
def oddA(k:Int)(a:Afn):Bool:=(badC a.Const||((a.Coefs.length:Int) !=k))||a.Coefs.any badC
def badL(k:Int)(l:List Afn):Bool:=((l.length:Int)==0)||l.any (oddA k)
def d5v(x:M.Form)(k:Int):Bool:=decide (0<(x.Pieces.length:Int))&& !(x.Pieces.any (badL k))
def c3f(x:M.Form)(wgs:List Frac):Bool:=wgs.any badC|| !d5v x (wgs.length:Int)
structure LimX(k:Nat)(x:M.Form):Prop where
 len:x.Pieces.length<=1000
 lens:∀l,l∈x.Pieces->l.length<=9223372036854775807
 coefs:∀l,l∈x.Pieces->∀a,a∈l->a.Coefs.length<=1000
 con:∀l,l∈x.Pieces->∀a,a∈l->LimF k a.Const
 lim:∀l,l∈x.Pieces->∀a,a∈l->Lim k a.Coefs
theorem orE{c d:Bool}{x:Nat->Option Bool}(h:c=false->Ev x d):Ev (fun n=>bif c then some true else x n) (c||d):=by
 cases c
 ·exact Ev.else rfl (h rfl)
 exact Ev.then rfl (Ev.pure _)
section
variable{k:Nat}(hk:k<4000000)
include hk
theorem e1m{c:Frac}(h:LimF k c):Ev (fun n=>a4r n c) (badC c):=by
 unfold a4r;exact Ev.bind (c0y h.1 h.2 (by omega)) (Ev.pure _)
theorem e5h{c:Frac}(h:LimF k c):Ev (fun n=>a9b n c) (badC c):=by
 unfold a9b;exact Ev.bind (c0y h.1 h.2 (by omega)) (Ev.pure _)
omit hk in
theorem e1y{l:List Afn}(hl:l.length<=9223372036854775807)(F:Nat->Afn->Option Bool)(p:Afn->Bool)(hF:∀y,y∈l->Ev (fun n=>F n y) (p y)):Ev (fun n=>a1a n l (F n)) (l.any p):=by
 have L:=lpR (xs:=l) (h:=id) (σ:=Unit) (ρ:=Int) (by omega) (L:=fun n K m i _=>sIB_L1 n l (F n) (K ()) m i) (B:=fun n i x _ k=>(F n x).bind fun v1=>bif v1 then some i else k ()) (fun n K m i s=>by rw [sIB_L1_s,List.map_id]) (fun q _=>q.any p=false) (fun r=>0<=r/\l.any p=true) (fun q x q2 s hx hi=> ?_) (s0:=()) rfl
 ·unfold a1a a1t;rcases L with⟨_,h1,N,L⟩|⟨r,⟨h0,h1⟩,N,L⟩
  ·refine Ev.bind (a:=-1) ⟨N,fun n hn=>L n (fun _=>some (-1)) hn⟩ ((Ev.pure _).eq (by rw [h1];rfl))
  refine Ev.bind (a:=r) ⟨N,fun n hn=>L n (fun _=>some (-1)) hn⟩ ((Ev.pure _).eq (by rw [h1];exact decide_eq_true h0))
 obtain⟨N,e⟩:=hF x (by rw [hx];simp);dsimp only at e;cases hp:p x with
 |true=>exact .inr ⟨q.length,⟨by omega,by rw [hx,List.any_append,List.any_cons,hp];simp⟩,N,fun n k hn=>by rw [show(id x:Afn)=x from rfl,e n hn,hp];rfl⟩
 |false=>exact .inl ⟨(),by rw [List.any_append,hi];simp [hp],N,fun n k hn=>by rw [show(id x:Afn)=x from rfl,e n hn,hp];rfl⟩
omit hk in
theorem e0e{l:List (List Afn)}(hl:l.length<=9223372036854775807)(F:Nat->List Afn->Option Bool)(p:List Afn->Bool)(hF:∀y,y∈l->Ev (fun n=>F n y) (p y)):Ev (fun n=>a0m n l (F n)) (l.any p):=by
 have L:=lpR (xs:=l) (h:=id) (σ:=Unit) (ρ:=Int) (by omega) (L:=fun n K m i _=>sIA_L1 n l (F n) (K ()) m i) (B:=fun n i x _ k=>(F n x).bind fun v1=>bif v1 then some i else k ()) (fun n K m i s=>by rw [sIA_L1_s,List.map_id]) (fun q _=>q.any p=false) (fun r=>0<=r/\l.any p=true) (fun q x q2 s hx hi=> ?_) (s0:=()) rfl
 ·unfold a0m a1p;rcases L with⟨_,h1,N,L⟩|⟨r,⟨h0,h1⟩,N,L⟩
  ·refine Ev.bind (a:=-1) ⟨N,fun n hn=>L n (fun _=>some (-1)) hn⟩ ((Ev.pure _).eq (by rw [h1];rfl))
  refine Ev.bind (a:=r) ⟨N,fun n hn=>L n (fun _=>some (-1)) hn⟩ ((Ev.pure _).eq (by rw [h1];exact decide_eq_true h0))
 obtain⟨N,e⟩:=hF x (by rw [hx];simp);dsimp only at e;cases hp:p x with
 |true=>exact .inr ⟨q.length,⟨by omega,by rw [hx,List.any_append,List.any_cons,hp];simp⟩,N,fun n k hn=>by rw [show(id x:List Afn)=x from rfl,e n hn,hp];rfl⟩
 |false=>exact .inl ⟨(),by rw [List.any_append,hi];simp [hp],N,fun n k hn=>by rw [show(id x:List Afn)=x from rfl,e n hn,hp];rfl⟩
theorem f1g{a:Afn}{j:Int}(h1:LimF k a.Const)(h2:Lim k a.Coefs)(h3:a.Coefs.length<=1000):Ev (fun n=>a5y n a j) (oddA j a):=by
 unfold a5y oddA;refine Ev.bind (e1m hk h1) (Ev.bind (orE fun _=>Ev.pure _) (Ev.bind (orE fun _=>Ev.bind (b7r (by omega) a4r badC fun y hy=>e1m hk (h2 y hy)) (Ev.pure _)) (Ev.pure _)))
theorem e2f{x:M.Form}{j:Int}(hx:LimX k x):Ev (fun n=>b0y n x j) (d5v x j):=by
 unfold b0y d5v;have hxl:=hx.len;refine Ev.bind (andE (x:=fun n=>(a0m n x.Pieces (fun l=>a5u n l j)).bind fun v2=>some (!v2)) fun _=>Ev.bind (e0e (by omega) (fun n l=>a5u n l j) (badL j) fun l hl=> ?_) (Ev.pure _)) (Ev.pure _);unfold a5u badL;have hll:=hx.lens l hl;refine Ev.bind (orE fun _=>Ev.bind (e1y (by omega) (fun n a=>a5y n a j) (oddA j) fun a ha=> ?_) (Ev.pure _)) (Ev.pure _);exact f1g hk (hx.con l hl a ha) (hx.lim l hl a ha) (hx.coefs l hl a ha)
end
theorem b6b{α:Type}{h:α->α}:∀{l:List α},(∀y,y∈l->h y=y)->l.map h=l
 | [],_=>rfl
 |x::l,H=>by rw [List.map_cons,H x (by simp),b6b fun y hy=>H y (by simp [hy])]
theorem d9v{x:M.Form}{wgs:List Frac}{A W:Nat}(hx:LimX A x)(hw:Lim W wgs)(h:c3f x wgs=false):
 x=toFm (decX x)/\wgs=(wgs.map rat).map toF/\Gd wgs.length A (decX x)/\(∀w,w∈wgs.map rat->SmF W w)/\decX x≠ []/\(∀p,p∈decX x->p≠ [])/\(decX x).length<=1000/\∀p,p∈decX x->p.length<=9223372036854775807:=by
 unfold c3f d5v at h;simp only [Bool.or_eq_false_iff,Bool.not_eq_false',Bool.and_eq_true,decide_eq_true_eq,Bool.not_eq_true']at h;obtain⟨h1,h2,h3⟩:=h;rw [List.any_eq_false]at h1 h3;have hW:∀w,w∈wgs->a4x w=true:=fun w hw=>by have:=h1 w hw;simpa [badC]using this
 have hL:∀l,l∈x.Pieces->l≠ []/\∀a,a∈l->a4x a.Const=true/\a.Coefs.length=wgs.length/\∀c,c∈a.Coefs->a4x c=true:=by
  intro l hl;have h4:=h3 l hl;unfold badL at h4;simp only [Bool.not_eq_true,Bool.or_eq_false_iff]at h4;refine⟨fun e=>by rw [e]at h4;simp at h4,fun a ha=> ?_⟩;have h5:=h4.2;rw [List.any_eq_false]at h5;have h6:=h5 a ha;unfold oddA at h6;simp only [Bool.not_eq_true,Bool.or_eq_false_iff]at h6;obtain⟨⟨h7,h8⟩,h9⟩:=h6;rw [List.any_eq_false]at h9;refine⟨by simpa [badC]using h7,by simp at h8;omega,fun c hc=>by have:=h9 c hc;simpa [badC]using this⟩
 refine⟨?_,?_,?_,?_,?_,?_,?_,?_⟩
 ·obtain⟨P⟩:=x;unfold toFm decX toP
  congr 1
  rw [List.map_map];refine(b6b fun l hl=> ?_).symm;show List.map toA (List.map decA l)=l;rw [List.map_map];refine b6b fun a ha=> ?_;obtain⟨h4,h5,h6⟩:=(hL l hl).2 a ha;show toA (decA a)=a;unfold toA decA;dsimp only;rw [c1w h4,List.map_map,b6b (h:=toF∘rat) fun c hc=>c1w (h6 c hc)]
 ·rw [List.map_map];exact(b6b fun w hw=>c1w (hW w hw)).symm
 ·constructor
  ·intro p hp a ha;obtain⟨l,hl,rfl⟩:=List.mem_map.1 hp;obtain⟨b,hb,rfl⟩:=List.mem_map.1 ha;show(b.Coefs.map rat).length=_;rw [List.length_map];exact((hL l hl).2 b hb).2.1
  intro p hp a ha;obtain⟨l,hl,rfl⟩:=List.mem_map.1 hp;obtain⟨b,hb,rfl⟩:=List.mem_map.1 ha;obtain⟨h4,h5,h6⟩:=(hL l hl).2 b hb;refine⟨c2a (hx.con l hl b hb) h4,fun c hc=> ?_⟩;obtain⟨d,hd,rfl⟩:=List.mem_map.1 hc;exact c2a (hx.lim l hl b hb d hd) (h6 d hd)
 ·intro w hw2;obtain⟨d,hd,rfl⟩:=List.mem_map.1 hw2;exact c2a (hw d hd) (hW d hd)
 ·intro e;unfold decX at e;rw [List.map_eq_nil_iff]at e;rw [e]at h2;simp at h2
 ·intro p hp;obtain⟨l,hl,rfl⟩:=List.mem_map.1 hp;rw [Ne,List.map_eq_nil_iff];exact(hL l hl).1
 ·unfold decX;rw [List.length_map];exact hx.len
 intro p hp;obtain⟨l,hl,rfl⟩:=List.mem_map.1 hp;rw [List.length_map];exact hx.lens l hl
theorem dot_snoc:∀(p:List Rat)(x:Rat)(ws:List Rat)(y:Rat),ws[p.length]?=some y->dot (p++ [x]) ws=dot p ws+x*y
 | [],x,[],y,h=>by simp at h
 | [],x,z::ws,y,h=>by
  simp only [List.length_nil,List.getElem?_cons_zero,Option.some.injEq]at h;subst h;show x*z+dot [] ws=0+x*z;have:dot [] ws=0:=rfl;rw [this,Rat.add_zero,Rat.zero_add]
 |a::p,x,[],y,h=>by simp at h
 |a::p,x,z::ws,y,h=>by
  show a*z+dot (p++ [x]) ws=a*z+dot p ws+x*y;rw [dot_snoc p x ws y (by simpa using h),Rat.add_assoc]
def bnd(A W n:Nat):Nat:=A+n*(A+W+1)
theorem d0k{A W m n:Nat}(h:m<=n):bnd A W m<=bnd A W n:=by
 unfold bnd;have:=Nat.mul_le_mul_right (A+W+1) h;omega
theorem d9x(A W n:Nat):bnd A W n+(A+W)+1=bnd A W (n+1):=by
 unfold bnd;rw [Nat.add_mul];omega
section
variable{A W:Nat}{ws:List Rat}(hw:∀w,w∈ws->SmF W w)
include hw
theorem f2v{a:RA}(ha:SmA A a)(hl:a.2.length=ws.length)(hn:ws.length<=1000)(hB:bnd A W ws.length<1000000):Ev (fun n=>a9r n (toA a) (ws.map toF)) (toF (evA ws a))/\SmF (bnd A W ws.length) (evA ws a):=by
 have L:=lpR (xs:=a.2) (h:=toF) (σ:=Frac) (ρ:=Frac) (by omega) (L:=fun n K m i s=>minmax_at_L1 n (toA a) (ws.map toF) (fun x y z u=>K ⟨⟨x,y⟩,⟨z,u⟩⟩) m i s.P.Sign s.P.Digits s.Q.Sign s.Q.Digits)
  (B:=fun n i x s k=>((ix (ws.map toF) i).bind fun ex2=>(b3c n x ex2).bind fun v2=>some (v2.1.P.Sign,v2.1.P.Digits,v2.1.Q.Sign,v2.1.Q.Digits)).bind fun(f9,f10,f11,f12)=>(b0v n s (⟨(⟨f9,f10⟩:Big),(⟨f11,f12⟩:Big)⟩:Frac)).bind fun v1=>k v1.1)
  (fun n K m i s=>by rw [minmax_at_L1_s];simp only [toA,List.length_map]) (fun p s=>s=toF (a.1+dot p ws)/\SmF (bnd A W p.length) (a.1+dot p ws)) (fun _=>False) (fun p x q s hx hi=> .inl ?_) (s0:=toF a.1) ⟨by show toF a.1=toF (a.1+0);rw [Rat.add_zero],by show SmF _ (a.1+0);rw [Rat.add_zero];exact ha.1.mono (by unfold bnd;omega)⟩
 ·rcases L with⟨s',⟨rfl,h2⟩,N,L⟩|⟨r,hr,_⟩
  ·refine⟨?_,hl▸h2⟩;unfold a9r;exact⟨N,fun n hn=>L n (fun s=>some s) hn⟩
  exact hr.elim
 obtain⟨rfl,h2⟩:=hi;have hpl:p.length<ws.length:=by rw [<-hl,hx];simp
 have hy:ws[p.length]?=some ws[p.length]:=List.getElem?_eq_getElem hpl;have hix:ix (ws.map toF) (p.length:Int)=some (toF ws[p.length]):=by rw [a9n,List.getElem?_map,hy];rfl
 have hb1:bnd A W (p.length+1)<=bnd A W ws.length:=d0k hpl;have hbs:=d9x A W p.length;have hx2:SmF A x:=ha.2 x (by rw [hx];simp);have hy2:SmF W ws[p.length]:=hw _ (List.getElem_mem hpl);have hA:A+W<4000000:=by omega
 obtain⟨N1,e1⟩:=FMul_ev hx2 hy2 hA;obtain⟨N2,e2⟩:=FAdd_ev h2 (hx2.mul hy2) (by omega);dsimp only at e1 e2;have hv:a.1+dot (p++ [x]) ws=a.1+dot p ws+x*ws[p.length]:=by rw [dot_snoc p x ws _ hy,Rat.add_assoc]
 refine⟨_,⟨rfl,?_⟩,max N1 N2,fun n k hn=> ?_⟩
 ·rw [hv,List.length_append,List.length_singleton,<-hbs];exact h2.add (hx2.mul hy2)
 rw [hix,b_s,e1 n (by omega)];show(b0v n (toF (a.1+dot p ws)) (toF (x*ws[p.length]))).bind _=_;rw [e2 n (by omega),hv];rfl
def Gr(l:List RA)(ws:List Rat)(v:Rat):Prop:=(∃a,a∈l/\v<=evA ws a)/\∀a,a∈l->evA ws a<=v
omit hw in
theorem e7b(a:RA):Gr [a] ws (evA ws a):=⟨⟨a,by simp,Rat.le_refl⟩,fun b hb=>by obtain rfl:=List.mem_singleton.1 hb;exact Rat.le_refl⟩
omit hw in
theorem e1u{l:List RA}{v:Rat}(h:Gr l ws v)(a:RA):Gr (l++ [a]) ws (if v<evA ws a then evA ws a else v):=by
 obtain⟨⟨b,hb,h1⟩,h2⟩:=h;split
 ·rename_i hlt;refine⟨⟨a,by simp,Rat.le_refl⟩,fun c hc=> ?_⟩;rcases List.mem_append.1 hc with hc|hc
  ·exact Rat.le_trans (h2 c hc) (Rat.le_of_lt hlt)
  obtain rfl:=List.mem_singleton.1 hc;exact Rat.le_refl
 rename_i hlt;refine⟨⟨b,by simp [hb],h1⟩,fun c hc=> ?_⟩;rcases List.mem_append.1 hc with hc|hc
 ·exact h2 c hc
 obtain rfl:=List.mem_singleton.1 hc;exact Rat.not_lt.1 hlt
omit hw in
theorem Gr.uniq{l:List RA}{u v:Rat}(h:Gr l ws u)(k:Gr l ws v):u=v:=by
 obtain⟨⟨a,ha,h1⟩,h2⟩:=h;obtain⟨⟨b,hb,k1⟩,k2⟩:=k;exact Rat.le_antisymm (Rat.le_trans h1 (k2 a ha)) (Rat.le_trans k1 (h2 b hb))
omit hw in
theorem d0l{l:List RA}{v:Rat}(h:Gr l ws v):IsV [l] ws v:=⟨fun p hp=>by obtain rfl:=List.mem_singleton.1 hp;exact h.1,l,by simp,h.2⟩
theorem f1c{l:List RA}{a0:RA}(ha:∀a,a∈l->SmA A a/\a.2.length=ws.length)(hl:l.length<=9223372036854775807)(hn:ws.length<=1000)(hB:bnd A W ws.length<1000000)(h0:SmF (bnd A W ws.length) (evA ws a0)):
 ∃v,Gr (a0::l) ws v/\SmF (bnd A W ws.length) v/\∃N,∀n(K:Frac->Option (Frac×Bool)),N<=n->minmax_At_L2 n (ws.map toF) (toP l) (fun x y z u=>K ⟨⟨x,y⟩,⟨z,u⟩⟩) n 0 (toF (evA ws a0)).P.Sign (toF (evA ws a0)).P.Digits (toF (evA ws a0)).Q.Sign (toF (evA ws a0)).Q.Digits=K (toF v):=by
 have L:=lpR (xs:=l) (h:=toA) (σ:=Frac) (ρ:=Frac×Bool) (by omega) (L:=fun n K m i s=>minmax_At_L2 n (ws.map toF) (toP l) (fun x y z u=>K ⟨⟨x,y⟩,⟨z,u⟩⟩) m i s.P.Sign s.P.Digits s.Q.Sign s.Q.Digits)
  (B:=fun n i x s k=>(a9r n x (ws.map toF)).bind fun v6=>(b5h n s v6).bind fun v7=>k v7.1)
  (fun n K m i s=>by rw [minmax_At_L2_s];simp only [toP,List.length_map]) (fun p s=>∃v,s=toF v/\Gr (a0::p) ws v/\SmF (bnd A W ws.length) v) (fun _=>False) (fun p x q s hx⟨v,hs,h1,h2⟩=> .inl ?_) (s0:=toF (evA ws a0)) ⟨_,rfl,e7b a0,h0⟩
 ·rcases L with⟨s',⟨v,rfl,h1,h2⟩,L⟩|⟨r,hr,_⟩
  ·exact⟨v,h1,h2,L⟩
  exact hr.elim
 subst hs;obtain⟨g1,g2⟩:=ha x (by rw [hx];simp);obtain⟨⟨N1,e1⟩,s1⟩:=f2v hw g1 g2 hn hB;obtain⟨N2,e2⟩:=FMax_ev h2 s1 (by omega);dsimp only at e1 e2;refine⟨_,⟨_,rfl,e1u h1 x,by split;exact s1;exact h2⟩,max N1 N2,fun n k hn=> ?_⟩;rw [e1 n (by omega),b_s,e2 n (by omega)];rfl
theorem e8u{g:RFm}(hg:Gd ws.length A g)(h0:g≠ [])(hne:∀p,p∈g->p≠ [])(hgl:g.length<=1000)(hpl:∀p,p∈g->p.length<=9223372036854775807)(hn:ws.length<=1000)(hB:bnd A W ws.length<1000000):
 ∃v,IsV g ws v/\SmF (bnd A W ws.length) v/\∃N,∀n,N<=n->minmax_At_L1 n (toFm g) (ws.map toF) (fun(f10:Int)(f11:(List Int))(f12:Int)(f13:(List Int))(_:Int)(_:(List Int))(_:Int)(_:(List Int))=>some ((⟨(⟨f10,f11⟩:Big),(⟨f12,f13⟩:Big)⟩:Frac),true)) n 0 0 [] 0 [] 0 [] 0 []=some (toF v,true):=by
 have L:=lpR (xs:=g) (h:=toP) (σ:=Frac) (ρ:=Frac×Bool) (by omega) (L:=fun n K m i s=>minmax_At_L1 n (toFm g) (ws.map toF) (fun x y z u _ _ _ _=>K ⟨⟨x,y⟩,⟨z,u⟩⟩) m i s.P.Sign s.P.Digits s.Q.Sign s.Q.Digits 0 [] 0 [])
  (B:=fun n i x s k=>(ix x 0).bind fun ex2=>(a9r n ex2 (ws.map toF)).bind fun v3=>(lsl x 1 x.length).bind fun l1=>minmax_At_L2 n (ws.map toF) l1 (fun f22 f23 f24 f25=>(bif i==0 then some true else(a3y n (⟨(⟨f22,f23⟩:Big),(⟨f24,f25⟩:Big)⟩:Frac) s).bind fun v5=>some (decide (v5<0))).bind fun v4=>bif v4 then k ⟨⟨f22,f23⟩,⟨f24,f25⟩⟩else k s) n 0 v3.P.Sign v3.P.Digits v3.Q.Sign v3.Q.Digits)
  (fun n K m i s=>by rw [minmax_At_L1_s];simp only [toFm,List.length_map]) (fun p s=>p= []∨∃v,s=toF v/\IsV p ws v/\SmF (bnd A W ws.length) v) (fun _=>False) (fun p x q s hx hi=> .inl ?_) (s0:=⟨⟨0,[]⟩,⟨0,[]⟩⟩) (.inl rfl)
 ·rcases L with⟨s',h1|⟨v,rfl,h1,h2⟩,N,L⟩|⟨r,hr,_⟩
  ·exact absurd h1 h0
  ·exact⟨v,h1,h2,N,fun n hn=>L n (fun s=>some (s,true)) hn⟩
  exact hr.elim
 have hxm:x∈g:=by rw [hx];simp
 obtain⟨a0,l,rfl⟩:∃a0 l,x=a0::l:=by
  cases x with
  |nil=>exact absurd rfl (hne _ hxm)
  |cons a l=>exact⟨a,l,rfl⟩
 have ha:∀a,a∈a0::l->SmA A a/\a.2.length=ws.length:=fun a h=>⟨gdA hg hxm h,hg.wide _ hxm a h⟩
 obtain⟨⟨N1,e1⟩,s1⟩:=f2v hw (ha a0 (by simp)).1 (ha a0 (by simp)).2 hn hB;have hll:=hpl _ hxm;rw [List.length_cons]at hll;obtain⟨v,h1,h2,N2,e2⟩:=f1c hw (a0:=a0) (l:=l) (fun a h=>ha a (by simp [h])) (by omega) hn hB s1;dsimp only at e1;have hlsl:lsl (toP (a0::l)) 1 ((toP (a0::l)).length:Int)=some (toP l):=by
  have hl2:(toP (a0::l)).length=l.length+1:=by show(toA a0::l.map toA).length=_;simp
  have:=d1r (l:=toP (a0::l)) (p:=1) (q:=(toP (a0::l)).length) (by omega) (Nat.le_refl _);rw [List.take_length]at this;exact this
 have hd:∀n(k:Frac->Option (Frac×Bool)),max N1 N2<=n->((ix (toP (a0::l)) 0).bind fun ex2=>(a9r n ex2 (ws.map toF)).bind fun v3=>(lsl (toP (a0::l)) 1 (toP (a0::l)).length).bind fun l1=>minmax_At_L2 n (ws.map toF) l1 (fun f22 f23 f24 f25=>(bif(p.length:Int)==0 then some true else(a3y n (⟨(⟨f22,f23⟩:Big),(⟨f24,f25⟩:Big)⟩:Frac) s).bind fun v5=>some (decide (v5<0))).bind fun v4=>bif v4 then k ⟨⟨f22,f23⟩,⟨f24,f25⟩⟩else k s) n 0 v3.P.Sign v3.P.Digits v3.Q.Sign v3.Q.Digits)=
  (bif(p.length:Int)==0 then some true else(a3y n (toF v) s).bind fun v5=>some (decide (v5<0))).bind fun v4=>bif v4 then k (toF v)else k s:=by
  intro n k hn;rw [show ix (toP (a0::l)) 0=some (toA a0)from rfl,b_s,e1 n (by omega),b_s,hlsl,b_s];exact e2 n (fun t=>(bif(p.length:Int)==0 then some true else(a3y n t s).bind fun v5=>some (decide (v5<0))).bind fun v4=>bif v4 then k t else k s) (by omega)
 rcases hi with rfl|⟨u,rfl,k1,k2⟩
 ·exact⟨toF v,.inr ⟨v,rfl,d0l h1,h2⟩,max N1 N2,fun n k hn=>by rw [hd n k hn];rfl⟩
 obtain⟨N3,e3⟩:=FCompare_ev h2 k2 (by omega);dsimp only at e3;have hp0:((p.length:Int)==0)=false:=by
  rw [beq_eq_false_iff_ne];intro e;have:p= []:=List.length_eq_zero_iff.1 (by omega);subst this;obtain⟨_,q',hq',_⟩:=k1;cases hq'
 have hmin:=d4k k1 (d0l h1);have hcmp:decide (cmpQ v u<0)=decide (v<u):=by
  rcases a5i v u with⟨c1,c2⟩|⟨c1,c2⟩|⟨c1,c2⟩
  ·rw [c2,decide_eq_true c1];rfl
  ·rw [c2,c1,decide_eq_false Rat.lt_irrefl];rfl
  rw [c2,decide_eq_false (Rat.not_lt.2 (Rat.le_of_lt c1))];rfl
 refine⟨toF (if v<u then v else u),.inr ⟨_,rfl,hmin,by split;exact h2;exact k2⟩,max (max N1 N2) N3,fun n k hn=> ?_⟩;rw [hd n k (by omega),hp0,cond_false,e3 n (by omega),b_s,b_s,hcmp]
 by_cases hlt:v<u
 ·rw [decide_eq_true hlt,cond_true,if_pos hlt]
 rw [decide_eq_false hlt,cond_false,if_neg hlt]
end
def AtS(x:M.Form)(wgs:List Frac)(B:Nat)(r:Frac×Bool):Prop:= (c3f x wgs=false/\∃v,r=(toF v,true)/\SmF B v/\IsV (decX x) (wgs.map rat) v)∨(c3f x wgs=true/\r=(zeroF,false))
theorem AtS.uniq{x:M.Form}{wgs:List Frac}{B C:Nat}{r s:Frac×Bool}(h:AtS x wgs B r)(k:AtS x wgs C s):r=s:=by
 rcases h with⟨h1,u,rfl,_,h2⟩|⟨h1,rfl⟩<;>rcases k with⟨k1,v,rfl,_,k2⟩|⟨k1,rfl⟩
 ·rw [h2.uniq k2]
 ·rw [h1]at k1;cases k1
 ·rw [h1]at k1;cases k1
 rfl
theorem At_t{x:M.Form}{wgs:List Frac}{A W:Nat}(hx:LimX A x)(hw:Lim W wgs)(hn:wgs.length<=1000)(hA:A<1000000)(hW:W<1000000)(hB:bnd A W wgs.length<1000000):Tt (AtS x wgs (bnd A W wgs.length)) (fun n=>a9s n x wgs):=by
 unfold a9s;refine Tt.evb (b7r (by omega) a9b badC (fun y hy=>e5h (k:=W) (by omega) (hw y hy))) ?_;refine Tt.evb (a:=c3f x wgs) (orE fun _=>Ev.bind (e2f (k:=A) (by omega) hx) (Ev.pure _)) ?_;cases hwr:c3f x wgs with
 |true=>exact Tt.bif (fun _=>Tt.pure (.inr ⟨hwr,rfl⟩)) (fun h=>by cases h)
 |false=>
  refine Tt.bif (fun h=>by cases h) (fun _=> ?_);obtain⟨e1,e2,g1,g2,g3,g4,g5,g6⟩:=d9v hx hw hwr;have hlen:(wgs.map rat).length=wgs.length:=List.length_map ..;obtain⟨v,h1,h2,N,h3⟩:=e8u (A:=A) g2 (by rw [hlen];exact g1) g3 g4 g5 g6 (by omega) (by rw [hlen];exact hB);rw [<-e1,<-e2]at h3;rw [hlen]at h2;exact Tt.of ⟨N,h3⟩ (.inl ⟨hwr,v,rfl,h2,h1⟩)
end Fm
end Go.Proofs.YthaegflpecbfgaaGreatDoor
