/- Several texts in one, for FormConvex.card: what the theorem leans on. -/
import Derived.Test.YthaegflpecbfgaaGreatDoorPz6
set_option maxHeartbeats 1000000
set_option maxRecDepth 1000000
namespace Go.Proofs.YthaegflpecbfgaaGreatDoor.D
open Go Rt M
theorem sm01{k:Nat}{x:Int}(h:-1048576<x)(h2:x<1048576)(hk:1<=k):Sm k x:=Sm.mono (k:=1) (by unfold Sm;rw [show pw 1=1048576 by decide];omega) hk
end Go.Proofs.YthaegflpecbfgaaGreatDoor.D
namespace Go.Proofs.YthaegflpecbfgaaGreatDoor.D
open Go Rt M
theorem e4x(r:Rat):sg r.num=cmpQ r 0:=by
 unfold cmpQ
 congr 1
 show r.num=r.num*1-0*r.den
 omega
end Go.Proofs.YthaegflpecbfgaaGreatDoor.D
namespace Go.Proofs.YthaegflpecbfgaaGreatDoor.Fe
open Go Rt M Ta Tp D
structure Env where
 lf:Rt.Bs->Int
 wf:Rt.Bs->Rat
 pers:Int
 flats:Int
def two(o:Int)(a b:Rat):Rat:=
 if o=5 then a+b else if o=6 then a-b else if o=7 then a*b else if o=8 then a/b else if o=9 then(if b<a then b else a)else if o=10 then(if a<b then b else a)else 0
def rel(o:Int)(a b:Rat×Bool):Bool:=
 if o=12 then decide (a.1<b.1)else if o=13 then decide (a.1=b.1)else if o=15 then a.2&&b.2 else a.2||b.2
def e6d(E:Env)(o n:Int)(s:Rt.Bs):List (Rat×Bool)->Rat×Bool
 | []=>(if o=0 then(n:Rat)else if o=1 then(E.lf s:Rat)else if o=2 then(E.pers:Rat)else if o=3 then(E.flats:Rat)else E.wf s,false)
 | [c]=>(0, !c.2)
 | [a,b]=>(two o a.1 b.1,rel o a b)
 |c::a::b::_=>(if c.2=true then a.1 else b.1,false)
mutual
def vl(E:Env):M.Expr->Rat×Bool
 |⟨o,n,s,l⟩=>e6d E o n s (vls E l)
def vls(E:Env):List M.Expr->List (Rat×Bool)
 | []=> []
 |x::l=>vl E x::vls E l
 end
def num(E:Env)(x:M.Expr):Rat:=(vl E x).1
section
variable(E:Env)(n:Int)(s:Rt.Bs)(o:Int)(a b c:M.Expr)
end
def look{α:Type}(names:List Rt.Bs)(l:List α)(d:α)(s:Rt.Bs):α:=(l[names.idxOf s]?).getD d
def mkE(names:List Rt.Bs)(f:Facts)(ws:List Rat):Env:=⟨look names f.Lifts 0,look names ws 0,f.Persons,f.Flats⟩
structure RF(names:List Rt.Bs)(f:Facts)(ws:List Rat):Prop where
 hl:f.Lifts.length=names.length
 hw:ws.length=names.length
 p1:0<=f.Persons
 p2:f.Persons<=1000
 f1:0<=f.Flats
 f2:f.Flats<=1000
 l1:∀n,n∈f.Lifts->0<=n/\n<=200
 w1:∀w,w∈ws->0<=w
def K(names:List Rt.Bs)(f:Facts)(ws:List Rat):known:=⟨names,f,ws.map toF⟩
section
variable{names:List Rt.Bs}{f:Facts}{ws:List Rat}{W:Nat}
variable(hf:RF names f ws)(hW:4<=W)(hW2:W<=30)(hw:∀w,w∈ws->SmF W w)(hn:names.length<4611686018427387904)
include hf hW hW2 hw hn
end
end Go.Proofs.YthaegflpecbfgaaGreatDoor.Fe
namespace Go.Proofs.YthaegflpecbfgaaGreatDoor.Lx
open Rt M Go
theorem c4p(n:Nat)(c:UInt8):b2c n (c.toNat:Int)=some (isLetter c):=
 of_decide_eq_true (b8p (p:=fun c=>decide (b2c 0 (c.toNat:Int)=some (isLetter c))) (by decide+kernel) c)
theorem d5n(n:Nat)(c:UInt8):b7u n (c.toNat:Int)=some (b7i c):=
 of_decide_eq_true (b8p (p:=fun c=>decide (b7u 0 (c.toNat:Int)=some (b7i c))) (by decide+kernel) c)
theorem c4x{s:Rt.Bs}(hs:s.length<=1000000){n:Nat}:
 ∀{r:Rt.Bs}{i m:Nat},s.drop i=r->i<=s.length->r.length<m->ref06_Name_L1 n s (some true) m (i:Int)=some (decide (b9b b1r r=r.length))
 | [],i,m+1,h,hi,_=>by
  have:=drop_nil h hi
  rw [ref06_Name_L1_s]
  simp [this,b9b]
 |c::r,i,m+1,h,hi,hm=>by
  have h1:=d1b h
  simp only [List.length_cons]at hm
  have e:(bif(bif !isLetter c then !b7i c else false)then(c.toNat:Int) !=95 else false)= !b1r c:=
   of_decide_eq_true (b8p (p:=fun c=>decide ((bif(bif !isLetter c then !b7i c else false)then(c.toNat:Int) !=95 else false)= !b1r c)) (by decide+kernel) c)
  have e2:((bif !isLetter c then some (!b7i c)else some false).bind fun v4=>(bif v4 then some ((c.toNat:Int) !=95)else some false))=some (!b1r c):=by
   rw [<-e]
   cases isLetter c<;>cases b7i c<;>rfl
  rw [ref06_Name_L1_s,b8q h,decide_eq_true (by omega)]
  simp only [cond_true,Option.bind_some,c4p,d5n]
  rw [<-Option.bind_assoc,e2,Option.bind_some]
  cases hp:b1r c
  ·simp [b9b,hp]
  ·rw [Bool.not_true,cond_false,c7d _ (by omega),c4x hs (c1j h) (by omega) (by omega)]
   simp [b9b,hp]
theorem rname_eq{s:Rt.Bs}(hs:s.length<=1000000){n:Nat}(hn:s.length<n):a8t n s=some (name s):=by
 cases hs0:s with
 |nil=>rfl
 |cons c r=>
  have h2:1<=s.length:=by rw [hs0];simp
  have h3:s.drop 0=c::r:=hs0
  have h4:s.drop 1=r:=c1j h3
  have h5:s.length=r.length+1:=by rw [hs0];simp
  have h6:=b8q h3
  simp only [Int.natCast_zero]at h6
  have h7:=c4x hs (n:=n) (r:=r) (i:=1) (m:=n) h4 h2 (by omega)
  rw [<-hs0,a8t,decide_eq_false (show¬(s.length:Int)<1 by omega),h6]
  simp only [cond_false,Option.bind_some,c4p]
  have h8:name s=(isLetter c&&(decide (s.length<=20)&&decide (b9b b1r r=r.length))):=by
   rw [name,hs0]
   cases hl:isLetter c
   ·simp [hl]
   ·simp only [List.isEmpty_cons,Bool.not_false,List.headD_cons,hl,Bool.true_and,b9b,c7w hl,cond_true,List.length_cons]
    congr 1
    rw [Bool.eq_iff_iff];simp
  rw [h8]
  by_cases h9:s.length<=20
  ·rw [decide_eq_false (show¬(20:Int)<s.length by omega),decide_eq_true h9]
   simp only [cond_false,Option.bind_some]
   cases isLetter c
   ·rfl
   ·simp only [Bool.not_true,cond_false,Bool.true_and];exact h7
  ·rw [decide_eq_true (show(20:Int)<s.length by omega),decide_eq_false h9]
   simp
end Go.Proofs.YthaegflpecbfgaaGreatDoor.Lx
namespace Go.Proofs.YthaegflpecbfgaaGreatDoor.Ta
open Go Rt M
def T2{α β:Type}(Q:α->β->Prop)(f:Nat->Option α)(g:Nat->Option β):Prop:=∃a b,Ev f a/\Ev g b/\Q a b
section
variable{α β γ δ:Type}{P:α->β->Prop}{Q:γ->δ->Prop}
theorem T2.pure{a:γ}{b:δ}(h:Q a b):T2 Q (fun _=>some a) (fun _=>some b):=⟨a,b,Ev.pure a,Ev.pure b,h⟩
theorem T2.bind{x:Nat->Option α}{y:Nat->Option β}{f:Nat->α->Option γ}{g:Nat->β->Option δ}(h:T2 P x y)(k:∀a b,P a b->T2 Q (fun n=>f n a) (fun n=>g n b)):T2 Q (fun n=>(x n).bind (f n)) (fun n=>(y n).bind (g n)):=by
 obtain⟨a,b,h1,h2,h3⟩:=h
 obtain⟨c,d,h4,h5,h6⟩:=k a b h3
 exact⟨c,d,Ev.bind h1 h4,Ev.bind h2 h5,h6⟩
theorem T2.l{x:Nat->Option α}{a:α}{f:Nat->α->Option γ}{g:Nat->Option δ}(h:Ev x a)(k:T2 Q (fun n=>f n a) g):T2 Q (fun n=>(x n).bind (f n)) g:=by
 obtain⟨c,d,h4,h5,h6⟩:=k
 exact⟨c,d,Ev.bind h h4,h5,h6⟩
theorem T2.r{y:Nat->Option β}{b:β}{f:Nat->Option γ}{g:Nat->β->Option δ}(h:Ev y b)(k:T2 Q f (fun n=>g n b)):T2 Q f (fun n=>(y n).bind (g n)):=by
 obtain⟨c,d,h4,h5,h6⟩:=k
 exact⟨c,d,h4,Ev.bind h h5,h6⟩
theorem T2.bif{c:Bool}{x x':Nat->Option γ}{y y':Nat->Option δ}(h1:c=true->T2 Q x y)(h2:c=false->T2 Q x' y'):T2 Q (fun n=>bif c then x n else x' n) (fun n=>bif c then y n else y' n):=by
 cases c
 ·exact h2 rfl
 ·exact h1 rfl
theorem T2.lt{c:Bool}{x x':Nat->Option γ}{g:Nat->Option δ}(hc:c=true)(h:T2 Q x g):T2 Q (fun n=>bif c then x n else x' n) g:=by subst hc;exact h
theorem T2.lf{c:Bool}{x x':Nat->Option γ}{g:Nat->Option δ}(hc:c=false)(h:T2 Q x' g):T2 Q (fun n=>bif c then x n else x' n) g:=by subst hc;exact h
theorem T2.suc{f f':Nat->Option γ}{g g':Nat->Option δ}(e:∀n,f (n+1)=f' n)(e':∀n,g (n+1)=g' n)(h:T2 Q f' g'):T2 Q f g:=by
 obtain⟨c,d,h4,h5,h6⟩:=h
 exact⟨c,d,Ev.suc e h4,Ev.suc e' h5,h6⟩
end
end Go.Proofs.YthaegflpecbfgaaGreatDoor.Ta
namespace Go.Proofs.YthaegflpecbfgaaGreatDoor.Ta
open Go Rt M
theorem c5n(s:Rt.Bs):Ev (fun n=>a8t n s) (Lx.name s):=by
 refine⟨21,fun n hn=> ?_⟩
 by_cases h:s.length<=20
 ·exact Lx.rname_eq (by omega) (by omega)
 ·have h2:Lx.name s=false:=by unfold Lx.name;rw [decide_eq_false h];simp
  rw [h2]
  unfold a8t
  dsimp only
  rw [decide_eq_false (show¬(s.length:Int)<1 by omega),decide_eq_true (show(20:Int)<(s.length:Int) by omega)];rfl
theorem d1f(n:Nat)(l:List Rt.Bs)(i:Nat)(x:Rt.Bs)(hx:ix l (i:Int)=some x)(kont:Option Bool)(hi:i<=1000000):∀(us:List Rt.Bs)(k m:Nat),(l.take i).drop k=us->us.length<m->
 ref35_Names_L2 n l (i:Int) kont m (k:Int)=bif decide (x∈us)then some false else kont
 | [],k,m+1,hd,_=>by
  have h1:(l.take i).length<=k:=Rt.drop_nil hd
  have h2:i<l.length:=by
   rcases Nat.lt_or_ge i l.length with h2|h2
   ·exact h2
   ·rw [b4l,List.getElem?_eq_none h2]at hx;cases hx
  rw [List.length_take]at h1
  rw [ref35_Names_L2_s,decide_eq_false (by omega)];rfl
 |y::us,k,m+1,hd,hm=>by
  obtain⟨h1,h2,h3⟩:=drop_cons hd
  rw [List.length_take]at h3
  have h4:ix l (k:Int)=some y:=by
   rw [b4l]at h1⊢
   rw [List.getElem?_take,if_pos (by omega)]at h1
   exact h1
  rw [ref35_Names_L2_s,decide_eq_true (by omega),cond_true,h4,Option.bind_some,hx,Option.bind_some]
  by_cases h:y=x
  ·subst h
   rw [beq_self_eq_true,cond_true,decide_eq_true (by simp)];rfl
  ·rw [show(y==x)=false by simpa using h,cond_false,inc64 (by omega),d1f n l i x hx kont hi us (k+1) m h2 (by simpa using hm)]
   have e:decide (x∈y::us)=decide (x∈us):=by
    by_cases h5:x∈us
    ·rw [decide_eq_true h5,decide_eq_true (by simp [h5])]
    ·rw [decide_eq_false h5,decide_eq_false (by simp only [List.mem_cons,not_or];exact⟨fun h6=>h h6.symm,h5⟩)]
   rw [e]
theorem c3f{l:List Rt.Bs}(h:¬(l.length:Int)<=6):∀(us:List Rt.Bs)(i:Nat),b8i l i us=false
 | [],i=>decide_eq_false h
 |s::us,i=>by unfold b8i;rw [c3f h us];simp
theorem d4f(l:List Rt.Bs)(hl:l.length<=6):∀(us:List Rt.Bs)(i:Nat),l.drop i=us->∃N,∀n m,N<=n->us.length<m->
 ref35_Names_L1 n l (some true) m (i:Int)=some (b8i l i us)
 | [],i,hd=>by
  refine⟨0,fun n m _ hm=> ?_⟩
  obtain⟨m,rfl⟩:=left hm
  rw [ref35_Names_L1_s,a9e hd]
  unfold b8i
  rw [decide_eq_true (by omega)];rfl
 |s::us,i,hd=>by
  obtain⟨h1,h2,h3⟩:=drop_cons hd
  obtain⟨N,ih⟩:=d4f l hl us (i+1) h2
  obtain⟨N1,e1⟩:=c5n s
  refine⟨max N (max N1 10),fun n m hn hm=> ?_⟩
  obtain⟨m,rfl,hm2⟩:=pred (by simpa using hm)
  have e1:a8t n s=some (Lx.name s):=e1 n (by omega)
  rw [ref35_Names_L1_s,a3y hd,cond_true,h1,Option.bind_some,e1,Option.bind_some]
  unfold b8i
  cases Lx.name s with
  |false=>rfl
  |true=>
   have h5:ref35_Names_L2 n l (i:Int) (ref35_Names_L1 n l (some true) m (iadd .i64 (i:Int) 1)) n 0=_:=d1f n l i s h1 _ (by omega) (l.take i) 0 n rfl (by rw [List.length_take];omega)
   rw [Bool.not_true,cond_false,h5,inc64 (by omega),ih n m (by omega) hm2,Bool.true_and]
   cases decide (s∈l.take i)<;>rfl
theorem c5x(l:List Rt.Bs):Ev (fun n=>b7t n l) (named l):=by
 unfold b7t
 by_cases h:l.length<=6
 ·refine Ev.else (decide_eq_false (by omega)) ?_
  obtain⟨N,hN⟩:=d4f l h l 0 rfl
  exact⟨N+l.length+1,fun n hn=>hN n n (by omega) (by omega)⟩
 ·exact Ev.then (decide_eq_true (by omega)) ((Ev.pure _).eq (c3f (by omega) l 0).symm)
def e2b(s:Int)(r:Int×Bool):Prop:=(0<=s->r=(s,true))/\(s<0->r.2=false)
theorem d9o(x:M.Expr)(lv lf:Int)(hx:x.Args.length<=1000000)(hlf:lf<=1000000)(hlv:1<=lv)(hlv2:lv<=1000):∀(us:List M.Expr)(i:Nat)(nx:Int),x.Args.drop i=us->0<=nx->nx<=lf->
 (∀y,y∈us->∀lv lf:Int,0<=lf->lf<=1000000->-1<=lv->lv<=1000->∃s r,Ev (fun n=>ref35_size n y lf lv) s/\Ev (fun n=>tariff_sized n y lv lf) r/\e2b s r/\s<=lf-1)->
 ∃N s r,e2b s r/\s<=nx/\∀n m,N<=n->us.length<m->ref35_size_L1 n (ref35_size n) x lv (fun nx3=>some nx3) m nx (i:Int)=some s/\tariff_sized_L1 n (tariff_sized n) x lv (fun f2=>some (f2,true)) m (i:Int) nx=some r
 | [],i,nx,hd,h1,h2,_=>by
  refine⟨0,nx,(nx,true),⟨fun _=>rfl,fun h=>by omega⟩,by omega,fun n m _ hm=> ?_⟩
  obtain⟨m,rfl⟩:=left hm
  rw [ref35_size_L1_s,a9e hd,tariff_sized_L1_s,a9e hd];exact⟨rfl,rfl⟩
 |y::us,i,nx,hd,h1,h2,H=>by
  obtain⟨g1,g2,g3⟩:=drop_cons hd
  obtain⟨s,⟨lf',b⟩,⟨N1,e1⟩,⟨N2,e2⟩,⟨A1,A2⟩,hs⟩:=H y (by simp) (lv-1) nx h1 (by omega) (by omega) (by omega)
  rcases Int.lt_or_le s 0 with h0|h0
  ·have hb:b=false:=A2 h0
   subst hb
   refine⟨max N1 N2,s,(lf',false),⟨fun h=>by omega,fun _=>rfl⟩,by omega,fun n m hn hm=> ?_⟩
   obtain⟨m,rfl,hm2⟩:=pred (by simpa using hm)
   have e1:ref35_size n y nx (lv-1)=some s:=e1 n (by omega)
   have e2:tariff_sized n y (lv-1) nx=some (lf',false):=e2 n (by omega)
   obtain⟨m',rfl⟩:=left hm2
   constructor
   ·rw [ref35_size_L1_s,a3y hd,cond_true,Option.bind_some,decide_eq_true h1,cond_true,g1,Option.bind_some,a1f (by omega) (by omega),e1,Option.bind_some,inc64 (by omega),ref35_size_L1_s,decide_eq_false (show¬0<=s by omega)]
    cases decide (((i+1:Nat):Int)<(x.Args.length:Int))<;>rfl
   ·rw [tariff_sized_L1_s,a3y hd,cond_true,g1,Option.bind_some,a1f (by omega) (by omega),e2];rfl
  ·have hb:=A1 h0
   simp only [Prod.mk.injEq]at hb
   obtain⟨rfl,rfl⟩:=hb
   obtain⟨N,s2,r2,A,hs2,ih⟩:=d9o x lv lf hx hlf hlv hlv2 us (i+1) lf' g2 h0 (by omega) (fun z hz=>H z (by simp [hz]))
   refine⟨max N (max N1 N2),s2,r2,A,by omega,fun n m hn hm=> ?_⟩
   obtain⟨m,rfl,hm2⟩:=pred (by simpa using hm)
   have e1:ref35_size n y nx (lv-1)=some lf':=e1 n (by omega)
   have e2:tariff_sized n y (lv-1) nx=some (lf',true):=e2 n (by omega)
   have ih:=ih n m (by omega) hm2
   constructor
   ·rw [ref35_size_L1_s,a3y hd,cond_true,Option.bind_some,decide_eq_true h1,cond_true,g1,Option.bind_some,a1f (by omega) (by omega),e1,Option.bind_some,inc64 (by omega)]
    exact ih.1
   ·rw [tariff_sized_L1_s,a3y hd,cond_true,g1,Option.bind_some,a1f (by omega) (by omega),e2,Option.bind_some]
    dsimp only
    rw [Bool.not_true,cond_false,inc64 (by omega)]
    exact ih.2
theorem e3x{x:M.Expr}(hx:Fit x):∀lv lf:Int,0<=lf->lf<=1000000->-1<=lv->lv<=1000->∃s r,Ev (fun n=>ref35_size n x lf lv) s/\Ev (fun n=>tariff_sized n x lv lf) r/\e2b s r/\s<=lf-1:=by
 induction hx with
 | @mk o k s l hl _ ih=>
  intro lv lf h1 h2 h3 h4
  by_cases hlv:lv<1
  ·refine⟨-1,(lf-1,false),Ev.suc (fun n=>ref35_size_s _ _ _ n) (Ev.then (decide_eq_true hlv) (Ev.pure _)),?_,⟨fun h=>by omega,fun _=>rfl⟩,by omega⟩
   refine Ev.suc (fun n=>tariff_sized_s _ _ _ n) ?_
   rw [a1f (by omega) (by omega)]
   exact Ev.bind (Ev.then (decide_eq_true hlv) (Ev.pure _)) (Ev.then rfl (Ev.pure _))
  ·by_cases hlf:lf-1<0
   ·refine⟨-1,(lf-1,false),?_,?_,⟨fun h=>by omega,fun _=>rfl⟩,by omega⟩
    ·refine Ev.suc (fun n=>ref35_size_s _ _ _ n) (Ev.else (decide_eq_false hlv) ?_)
     rw [a1f (by omega) (by omega)]
     refine⟨1,fun n hn=> ?_⟩
     obtain⟨m,rfl⟩:=left hn
     show ref35_size_L1 (m+1) _ _ _ _ (m+1) _ _=_
     rw [ref35_size_L1_s,decide_eq_false (show¬0<=lf-1 by omega),show lf-1=-1 by omega]
     cases decide ((0:Int)<((⟨o,k,s,l⟩:M.Expr).Args.length:Int))<;>rfl
    ·refine Ev.suc (fun n=>tariff_sized_s _ _ _ n) ?_
     rw [a1f (by omega) (by omega)]
     exact Ev.bind (a:=true) (Ev.else (decide_eq_false hlv) ((Ev.pure _).eq (decide_eq_true hlf))) (Ev.then rfl (Ev.pure _))
   ·obtain⟨N,s2,r2,A,hs,h⟩:=d9o ⟨o,k,s,l⟩ lv lf hl h2 (by omega) h4 l 0 (lf-1) rfl (by omega) (by omega) ih
    refine⟨s2,r2,?_,?_,A,by omega⟩
    ·refine Ev.suc (fun n=>ref35_size_s _ _ _ n) (Ev.else (decide_eq_false hlv) ?_)
     rw [a1f (by omega) (by omega)]
     exact⟨N+l.length+1,fun n hn=>(h n n (by omega) (by omega)).1⟩
    ·refine Ev.suc (fun n=>tariff_sized_s _ _ _ n) ?_
     rw [a1f (x:=lf) (by omega) (by omega)]
     refine Ev.bind (a:=false) (Ev.else (decide_eq_false hlv) ((Ev.pure _).eq (decide_eq_false hlf))) (Ev.else rfl ?_)
     exact⟨N+l.length+1,fun n hn=>(h n n (by omega) (by omega)).2⟩
theorem e6h{x:M.Expr}(hx:Fit x):∃(b:Bool)(z:Int),Ev (fun n=>tariff_sized n x 10 100) (z,b)/\Ev (fun n=>c2j n x 100 10) b:=by
 obtain⟨s,⟨z,b⟩,h1,h2,⟨A1,A2⟩,_⟩:=e3x hx 10 100 (by decide) (by decide) (by decide) (by decide)
 refine⟨b,z,h2,?_⟩
 unfold c2j
 refine Ev.bind h1 ((Ev.pure _).eq ?_)
 rcases Int.lt_or_le s 0 with h0|h0
 ·rw [decide_eq_false (by omega)];exact(A2 h0).symm
 ·have:=A1 h0
  simp only [Prod.mk.injEq]at this
  rw [decide_eq_true h0];exact this.2.symm
end Go.Proofs.YthaegflpecbfgaaGreatDoor.Ta
namespace Go.Proofs.YthaegflpecbfgaaGreatDoor.Fe
open Go Rt M Ta Tp D
theorem b9y(l:List Frac)(hl:l.length<=1000000)(f:Nat->Frac->Option Bool)(p:Frac->Bool):∀(us:List Frac)(i:Nat),l.drop i=us->(∀y,y∈us->Ev (fun n=>f n y) (p y))->
 ∃N r,decide (0<=r)=us.any p/\∀n m,N<=n->us.length<m->slices_IndexFunc_api_Frac_api_Frac_L1 n l (f n) (some (-1)) m (i:Int)=some r
 | [],i,hd,_=>by
  refine⟨0,-1,rfl,fun n m _ hm=> ?_⟩
  obtain⟨m,rfl⟩:=left hm
  rw [slices_IndexFunc_api_Frac_api_Frac_L1_s,a9e hd];rfl
 |y::us,i,hd,H=>by
  obtain⟨h1,h2,h3⟩:=Rt.drop_cons hd
  obtain⟨N1,e1⟩:=H y (by simp)
  obtain⟨N,r,hr,ih⟩:=b9y l hl f p us (i+1) h2 (fun z hz=>H z (by simp [hz]))
  rw [List.any_cons]
  cases hp:p y with
  |true=>
   refine⟨N1,(i:Int),decide_eq_true (by omega),fun n m hn hm=> ?_⟩
   obtain⟨m,rfl⟩:=left hm
   have e1:f n y=some (p y):=e1 n (by omega)
   rw [slices_IndexFunc_api_Frac_api_Frac_L1_s,a3y hd,cond_true,h1,Option.bind_some,e1,hp];rfl
  |false=>
   refine⟨max N N1,r,by rw [hr];rfl,fun n m hn hm=> ?_⟩
   obtain⟨m,rfl,hm2⟩:=pred (by simpa using hm)
   have e1:f n y=some (p y):=e1 n (by omega)
   rw [slices_IndexFunc_api_Frac_api_Frac_L1_s,a3y hd,cond_true,h1,Option.bind_some,e1,hp,Option.bind_some,cond_false,Rt.inc64 (by omega)]
   exact ih n m (by omega) hm2
theorem c0f{l:List Frac}(hl:l.length<=1000000)(f:Nat->Frac->Option Bool)(p:Frac->Bool)(hf:∀y,y∈l->Ev (fun n=>f n y) (p y)):Ev (fun n=>a0t n l (f n)) (l.any p):=by
 obtain⟨N,r,hr,h⟩:=b9y l hl f p l 0 rfl hf
 refine⟨N+l.length+1,fun n hn=> ?_⟩
 unfold a0t a2l
 dsimp only
 have e:slices_IndexFunc_api_Frac_api_Frac_L1 n l (f n) (some (-1)) n 0=some r:=h n n (by omega) (by omega)
 rw [e,Option.bind_some,hr]
def badF(w:Frac):Bool:= !a5r w||decide (w.P.Sign<0)
def Lim(k:Nat)(l:List Frac):Prop:=∀w,w∈l->w.P.Digits.length<=k/\w.Q.Digits.length<=k
theorem andE{c d:Bool}{x:Nat->Option Bool}(h:c=true->Ev x d):Ev (fun n=>bif c then x n else some false) (c&&d):=by
 cases c
 ·exact Ev.else rfl (Ev.pure _)
 ·exact Ev.then rfl (h rfl)
def fv(names:List Rt.Bs)(f:Facts)(ws:List Rat)(t:Tariff):Rat:=num (mkE names f ws) t.Fee
theorem e0m{ws:List Rat}{k:Nat}(h:∀w,w∈ws->SmF k w):Lim k (ws.map toF):=by
 intro x hx
 obtain⟨w,hw,rfl⟩:=List.mem_map.1 hx
 exact b9m (h w hw)
section
variable{names:List Rt.Bs}{f:Facts}{t:Tariff}(hx:Fit t.Fee)(hn:names.length<4611686018427387904)
include hx hn
end
structure FewS(t:Tariff)(names:List Rt.Bs)(f:Facts)(weights:List Frac):Prop where
 fit:Fit t.Fee
 nl:names.length<=8
 ll:f.Lifts.length<=8
 wl:weights.length<=8
 lim:Lim 4 weights
end Go.Proofs.YthaegflpecbfgaaGreatDoor.Fe
namespace Go.Proofs.YthaegflpecbfgaaGreatDoor.D
open Go Rt M
theorem e0k(n:Nat)(l:List Int)(kont:Int->Option (List Int))(hl:l.length<1099511627776):∀(r:Nat)(c:List Int)(m:Nat),c.getLast?≠some 0->l=c++List.replicate r 0->∀k,k<=r->k<m->
 a7k n l kont m ((c.length+k:Nat):Int)=kont (c.length:Int):=by
 intro r c m hc hlc k
 induction k generalizing m with
 |zero=>
  intro _ hm
  obtain⟨m,rfl⟩:∃m',m=m'+1:=⟨m-1,by omega⟩
  unfold a7k
  rcases List.eq_nil_or_concat c with rfl|⟨p,d,rfl⟩
  ·rfl
  ·rw [List.concat_eq_append]at*
   have hd:(d==0)=false:=by simpa using hc
   have e0:isub .i64 (((p++ [d]).length+0:Nat):Int) 1=(p.length:Int):=by rw [a1f (by simp<;>omega) (by rw [hlc]at hl;simp at hl⊢;try omega)];simp
   have e1:decide ((0:Int)<(((p++ [d]).length+0:Nat):Int))=true:=by simp<;>omega
   have e2:ix l (p.length:Int)=some d:=by rw [hlc,List.append_assoc];exact a4x p d _ rfl
   rw [e1,e0,e2,cond_true,Option.bind_some,Option.bind_some,hd,cond_false];rfl
 |succ k ih=>
  intro hk hm
  obtain⟨m,rfl⟩:∃m',m=m'+1:=⟨m-1,by omega⟩
  have hlen:l.length=c.length+r:=by rw [hlc];simp
  unfold a7k
  have e0:isub .i64 ((c.length+(k+1):Nat):Int) 1=((c.length+k:Nat):Int):=by rw [a1f (by omega) (by omega)];omega
  have e1:decide ((0:Int)<((c.length+(k+1):Nat):Int))=true:=by simp;omega
  have e2:ix l ((c.length+k:Nat):Int)=some 0:=by
   rw [b4l,hlc,List.getElem?_append_right (by omega),show c.length+k-c.length=k by omega,List.getElem?_replicate,if_pos (by omega)]
  rw [e1,e0,e2,cond_true,Option.bind_some,Option.bind_some,show((0:Int)==0)=true from rfl,cond_true]
  exact ih m (by omega) (by omega)
theorem b4q{l:List Int}(hl:InR l)(hlen:l.length<1099511627776){n:Nat}(hn:l.length<n):a2d n l=some (dig (val l).toNat):=by
 obtain⟨r,hr⟩:=split_dig hl
 have h1:l.length=(dig (val l).toNat).length+r:=by conv=>lhs;rw [hr]
                                                   simp
 unfold a2d
 have h2:=e0k n l (fun(nx2:Int)=>(lsl l 0 nx2).bind fun l2=>(app 8 [] l2).bind fun l3=>some l3) hlen r (dig (val l).toNat) n (b8x _) hr r (Nat.le_refl _) (by omega)
 rw [<-h1]at h2
 rw [h2]
 have h3:=c8k (l:=l) (p:=0) (q:=(dig (val l).toNat).length) (by omega) (by omega)
 rw [show((0:Nat):Int)=0 from rfl]at h3
 rw [h3,Option.bind_some,List.drop_zero]
 have h4:∀c:List Int,l=c++List.replicate r 0->l.take c.length=c:=fun c hc=>by rw [hc];exact List.take_left
 rw [h4 _ hr,c0e (by simp;omega)];rfl
theorem e4v{l:List Int}(s:Int)(hl:InR l)(hlen:l.length<1099511627776){n:Nat}(hn:l.length<n):a1z n s l=some (if(val l).toNat=0 then⟨0,[]⟩else⟨s,dig (val l).toNat⟩):=by
 unfold a1z
 rw [b4q hl hlen hn,Option.bind_some]
 by_cases h:(val l).toNat=0
 ·rw [h,dig_zero,if_pos rfl];rfl
 ·have:=List.length_pos_iff.2 (b6s h)
  rw [if_neg h,show(((dig (val l).toNat).length:Int)==0)=false from beq_false_of_ne (by omega),cond_false]
theorem b9v(n:Nat)(l:List Int)(i:Nat):a4i n l (i:Int)=some ((l.drop i).headD 0):=by
 unfold a4i
 by_cases h:i<l.length
 ·rw [show decide ((i:Int)<(l.length:Int))=true by simpa using h,cond_true,b4l,List.getElem?_eq_getElem h,Option.bind_some,List.drop_eq_getElem_cons h];rfl
 ·rw [show decide ((i:Int)<(l.length:Int))=false by simpa using h,cond_false,List.drop_of_length_le (by omega)];rfl
theorem d2d(n:Nat)(a:Big)(kont:Option Bool)(hl:a.Digits.length<1099511627776):∀(us:List Int)(i m:Nat),a.Digits.drop i=us->us.length<m->a6x n a kont m (i:Int)=bif us.all okd then kont else some false
 | [],i,m+1,hd,_=>by
  unfold a6x
  have:=drop_nil hd
  rw [show decide ((i:Int)<(a.Digits.length:Int))=false by simp;omega];rfl
 |x::xs,i,m+1,hd,hm=>by
  unfold a6x
  obtain⟨f1,f2,f3⟩:=drop_cons hd
  rw [show decide ((i:Int)<(a.Digits.length:Int))=true by simp;omega,cond_true,f1,Option.bind_some]
  have e1:((bif decide (x<0)then some true else(some x).bind fun ex3=>some (decide (1048576<=ex3))):Option Bool)=some (!okd x):=by
   unfold okd
   by_cases h:x<0
   ·rw [show decide (x<0)=true by simpa using h,show decide (0<=x)=false by simp;omega];rfl
   ·rw [show decide (x<0)=false by simpa using h,show decide (0<=x)=true by simp;omega,cond_false,Option.bind_some]
    by_cases h2:x<1048576
    ·rw [show decide (1048576<=x)=false by simp;omega,show decide (x<1048576)=true by simpa using h2];rfl
    ·rw [show decide (1048576<=x)=true by simp;omega,show decide (x<1048576)=false by simpa using h2];rfl
  rw [e1,Option.bind_some,List.all_cons]
  cases h:okd x with
  |false=>rfl
  |true=>
   rw [inc64 (by omega)]
   have:=d2d n a kont hl xs (i+1) m f2 (by simpa using hm)
   simpa using this
 |_,_,0,_,h=>by omega
theorem d8u{a:Big}(hl:a.Digits.length<1099511627776){n:Nat}(hn:a.Digits.length<n):a1x n a=some (a9h a):=by
 unfold a1x
 have h:=fun kont=>d2d n a kont hl a.Digits 0 n rfl hn
 rw [show((0:Nat):Int)=0 from rfl]at h
 rw [h]
 unfold a9h
 cases ha:a.Digits.all okd with
 |false=>rfl
 |true=>
  rw [cond_true,Bool.true_and]
  rcases List.eq_nil_or_concat a.Digits with h0|⟨p,d,h0⟩
  ·rw [h0]
   by_cases hs:a.Sign=0
   ·rw [hs];rfl
   ·have:(a.Sign==0)=false:=by simpa using hs
    rw [if_pos rfl,this]
    cases decide (a.Sign< -1)<;>cases decide (1<a.Sign)<;>rfl
  ·rw [List.concat_eq_append]at h0
   have hne:a.Digits≠ []:=by rw [h0];simp
   have e1:((a.Digits.length:Int)==0)=false:=by rw [h0];simp;omega
   have e2:isub .i64 (a.Digits.length:Int) 1=(p.length:Int):=by rw [a1f (by omega) (by omega),h0];simp
   have e3:ix a.Digits (p.length:Int)=some d:=by rw [h0];exact a4x p d [] rfl
   rw [e1,cond_false,if_neg hne,e2,e3]
   have e4:a.Digits.getLast?.getD 0=d:=by rw [h0];simp
   rw [e4]
   by_cases h1:a.Sign< -1
   ·rw [show decide (a.Sign< -1)=true by simpa using h1,show(a.Sign==1)=false by simp;omega,show(a.Sign==-1)=false by simp;omega];rfl
   ·rw [show decide (a.Sign< -1)=false by simpa using h1]
    by_cases h2:1<a.Sign
    ·rw [show decide (1<a.Sign)=true by simpa using h2,show(a.Sign==1)=false by simp;omega,show(a.Sign==-1)=false by simp;omega];rfl
    ·rw [show decide (1<a.Sign)=false by simpa using h2]
     have:a.Sign=-1∨a.Sign=0∨a.Sign=1:=by omega
     rcases this with h|h|h<;>rw [h]<;>rfl
end Go.Proofs.YthaegflpecbfgaaGreatDoor.D
namespace Go.Proofs.YthaegflpecbfgaaGreatDoor.D
open Go Rt M
theorem b0z(l:List Int)(i:Nat):val (l.drop i)=(l.drop i).headD 0+1048576*val (l.drop (i+1)):=by
 rw [<-List.drop_drop]
 cases l.drop i with
 |nil=>rfl
 |cons d l=>rfl
theorem b2f{l:List Int}{i:Nat}(h:l.length<=i):val (l.drop i)=0:=by rw [List.drop_of_length_le h];rfl
theorem d7d{a b:List Int}(ha:InR a)(hb:InR b)(i:Nat)(h:val (a.drop i)<val (b.drop i)):val a<val b:=by
 induction i with
 |zero=>simpa using h
 |succ i ih=>
  apply ih
  rw [b0z a i,b0z b i]
  have h1:=(InR.drop ha i).headD
  have h2:=(InR.drop hb i).headD
  omega
theorem d9n(n:Nat)(a b:List Int)(ha:InR a)(hb:InR b)(hla:a.length<1099511627776)(hlb:b.length<1099511627776):∀(i m:Nat),i<1099511627776->i<m->val (a.drop i)=val (b.drop i)->
 a7v n a b (some false) m ((i:Int)-1)=some (decide (val a<val b))
 |0,m+1,_,_,h=>by
  unfold a7v
  rw [show decide ((0:Int)<=((0:Nat):Int)-1)=false by decide,cond_false]
  simp only [List.drop_zero]at h
  rw [h];simp
 |i+1,m+1,hi,hm,h=>by
  unfold a7v
  rw [show((i+1:Nat):Int)-1=(i:Int) by omega,show decide (0<=(i:Int))=true by simp,cond_true,b9v,b9v,Option.bind_some,Option.bind_some]
  have e1:=b0z a i
  have e2:=b0z b i
  by_cases hd:(a.drop i).headD 0=(b.drop i).headD 0
  ·rw [show((a.drop i).headD 0 !=(b.drop i).headD 0)=false by simpa using hd,cond_false,a1f (by omega) (by omega)]
   exact d9n n a b ha hb hla hlb i m (by omega) (by omega) (by rw [e1,e2,hd,h])
  ·rw [show((a.drop i).headD 0 !=(b.drop i).headD 0)=true by simpa using hd,cond_true,Option.bind_some,Option.bind_some]
   congr 1
   by_cases hlt:(a.drop i).headD 0<(b.drop i).headD 0
   ·have:=d7d ha hb i (by omega)
    rw [decide_eq_true hlt,decide_eq_true this]
   ·have:=d7d hb ha i (by omega)
    have h3:¬val a<val b:=by omega
    rw [decide_eq_false hlt,decide_eq_false h3]
 |_,0,_,hm,_=>by omega
theorem e0b{a b:List Int}(ha:InR a)(hb:InR b)(hla:a.length<1099511627776)(hlb:b.length<1099511627776){n:Nat}(hn:max a.length b.length<n):a6a n a b=some (decide (val a<val b)):=by
 unfold a6a
 have e:isub .i64 (imax (a.length:Int) (b.length:Int)) 1=((max a.length b.length:Nat):Int)-1:=by
  have:imax (a.length:Int) (b.length:Int)=((max a.length b.length:Nat):Int):=by unfold imax;split<;>omega
  rw [this,a1f (by omega) (by omega)]
 rw [e]
 exact d9n n a b ha hb hla hlb _ n (by omega) hn (by rw [b2f (by omega),b2f (by omega)])
theorem d9z(n:Nat)(a b:List Int)(kont:List Int->Option (List Int))(ha:InR a)(hb:InR b)(hla:a.length<1073741824)(hlb:b.length<1073741824)(V:Int):∀(m i:Nat)(c:Int)(pre:List Int),
 pre.length=i->InR pre->0<=c->c<=1->val pre+pw i*(c+val (a.drop i)+val (b.drop i))=V->(i<=max a.length b.length∨(i=max a.length b.length+1/\c=0))->max a.length b.length+2<=i+m->
 ∃out,a9m n a b kont m c (i:Int) pre=kont out/\InR out/\val out=V/\out.length<=max a.length b.length+1
 |0,i,_,_,_,_,_,_,_,h,h2=>by omega
 |m+1,i,c,pre,hp,hpr,h0,h1,hv,hi,hm=>by
  unfold a9m
  have xr:=(InR.drop ha i).headD
  have yr:=(InR.drop hb i).headD
  have ea:=b0z a i
  have eb:=b0z b i
  by_cases hgo:i<a.length∨i<b.length∨0<c
  ·have e1:(((bif decide ((i:Int)<(a.length:Int))then some true else some (decide ((i:Int)<(b.length:Int)))):Option Bool).bind fun v2=>(bif v2 then some true else some (decide (0<c)):Option Bool))=some true:=by
    by_cases g1:i<a.length
    ·rw [show decide ((i:Int)<(a.length:Int))=true by simpa using g1];rfl
    ·rw [show decide ((i:Int)<(a.length:Int))=false by simpa using g1]
     by_cases g2:i<b.length
     ·rw [show decide ((i:Int)<(b.length:Int))=true by simpa using g2];rfl
     ·rw [show decide ((i:Int)<(b.length:Int))=false by simpa using g2,show decide (0<c)=true by simp;omega];rfl
   have es:iadd .i64 (iadd .i64 ((a.drop i).headD 0) ((b.drop i).headD 0)) c=(a.drop i).headD 0+(b.drop i).headD 0+c:=by rw [a2n (x:=(a.drop i).headD 0) (y:=(b.drop i).headD 0) (by omega) (by omega),a2n (by omega) (by omega)]
   generalize hx:(a.drop i).headD 0=x at*
   generalize hy:(b.drop i).headD 0=y at*
   have hnext:=d9z n a b kont ha hb hla hlb V m (i+1) ((x+y+c)/1048576) (pre++ [(x+y+c) %1048576]) (by simp [hp]) (hpr.append (InR.cons (by omega) (by omega) InR.nil)) (by omega) (by omega)
    (by
     rw [val_append,hp]
     have e3:val [(x+y+c) %1048576]=(x+y+c) %1048576:=by simp [val]
     rw [e3,show pw (i+1)=1048576*pw i from rfl,<-hv,ea,eb]
     have hdm:x+y+c=(x+y+c) %1048576+1048576*((x+y+c)/1048576):=by omega
     generalize (x+y+c) %1048576=r at*
     generalize (x+y+c)/1048576=q at*
     generalize val (a.drop (i+1))=A at*
     generalize val (b.drop (i+1))=B at*
     generalize pw i=p at*
     have hc:c=r+1048576*q-x-y:=by omega
     subst hc
     grind) (by
     by_cases g:i<max a.length b.length
     ·left;omega
     ·right
      rw [List.drop_of_length_le (by omega)]at hx hy
      simp at hx hy
      omega) (by omega)
   obtain⟨out,h3,h4,h5,h6⟩:=hnext
   refine⟨out,?_,h4,h5,h6⟩
   rw [<-h3]
   rw [<-Option.bind_assoc,e1,Option.bind_some,cond_true,b9v,b9v,Option.bind_some,Option.bind_some,hx,hy,es,c2c (by omega) (by decide),Option.bind_some,c0e (by simp;omega),Option.bind_some,c1h (by omega) (by omega) (by decide),Option.bind_some,inc64 (by omega)]
  ·refine⟨pre,?_,hpr,?_,by omega⟩
   ·rw [show decide ((i:Int)<(a.length:Int))=false by simp;omega,show decide ((i:Int)<(b.length:Int))=false by simp;omega,show decide (0<c)=false by simp;omega];rfl
   ·rw [b2f (by omega),b2f (by omega)]at hv
    rw [<-hv,show c=0 by omega];simp
theorem e2d{a b:List Int}(ha:InR a)(hb:InR b)(hla:a.length<1073741824)(hlb:b.length<1073741824):Ev (fun n=>a7j n a b) (dig (val a+val b).toNat):=by
 refine⟨max a.length b.length+3,fun n hn=> ?_⟩
 show a7j n a b=_
 unfold a7j
 obtain⟨out,h1,h2,h3,h4⟩:=d9z n a b (fun(l2:List Int)=>(a2d n l2).bind fun v1=>some v1) ha hb hla hlb (val a+val b) n 0 0 [] rfl InR.nil (by decide) (by decide) (by simp [val,pw]) (.inl (by omega)) (by omega)
 refine Eq.trans h1 ?_
 show(a2d n out).bind _=_
 rw [b4q h2 (by omega) (by omega),h3];rfl
end Go.Proofs.YthaegflpecbfgaaGreatDoor.D
namespace Go.Proofs.YthaegflpecbfgaaGreatDoor.D
open Go Rt M
theorem c9m(n:Nat)(a b:List Int)(kont:List Int->Option (List Int))(ha:InR a)(hb:InR b)(hla:a.length<1073741824)(hlb:b.length<=a.length)(V:Int)(hV:0<=V):∀(us:List Int)(m i:Nat)(c:Int)(pre:List Int),
 a.drop i=us->us.length<m->pre.length=i->InR pre->0<=c->c<=1->val pre+pw i*(val us-val (b.drop i)-c)=V->
 ∃out,a5o n a b kont m c (i:Int) pre=kont out/\InR out/\val out=V/\out.length<=max a.length i
 | [],m+1,i,c,pre,hd,_,hp,hpr,h0,h1,hv=>by
  have hi:=drop_nil hd
  refine⟨pre,?_,hpr,?_,by omega⟩
  ·unfold a5o
   rw [show decide ((i:Int)<(a.length:Int))=false by simp;omega];rfl
  ·rw [b2f (by omega)]at hv
   have h2:=val_lt hpr
   rw [hp]at h2
   have hc:c=0:=by
    rcases(show c=0∨c=1 by omega)with h|h
    ·exact h
    ·subst h;simp only [val]at hv;exfalso
     have:pw i*(0-0-1)=-pw i:=by grind
     omega
   rw [<-hv,hc];simp [val]
 |x::us,m+1,i,c,pre,hd,hm,hp,hpr,h0,h1,hv=>by
  obtain⟨f1,f2,f3⟩:=drop_cons hd
  have xr:=(show InR (x::us) by rw [<-hd];exact InR.drop ha i).head
  have yr:=(InR.drop hb i).headD
  have eb:=b0z b i
  unfold a5o
  rw [show decide ((i:Int)<(a.length:Int))=true by simpa using f3,cond_true,f1,Option.bind_some,b9v,Option.bind_some]
  generalize hy:(b.drop i).headD 0=y at*
  have es:isub .i64 (isub .i64 x y) c=x-y-c:=by rw [a1f (x:=x) (y:=y) (by omega) (by omega),a1f (by omega) (by omega)]
  rw [es]
  have key:∀(q r:Int),x-y-c=r-1048576*q->0<=q->q<=1->0<=r->r<1048576->∃out,((app 8 pre [r]).bind fun l3=>a5o n a b kont m q (iadd .i64 (i:Int) 1) l3)=kont out/\InR out/\val out=V/\out.length<=max a.length i:=by
   intro q r hqr hq0 hq1 hr0 hr1
   obtain⟨out,h3,h4,h5,h6⟩:=c9m n a b kont ha hb hla hlb V hV us m (i+1) q (pre++ [r]) f2 (by simpa using hm) (by simp [hp]) (hpr.append (InR.cons hr0 hr1 InR.nil)) hq0 hq1 (by
    rw [val_append,hp]
    have e3:val [r]=r:=by simp [val]
    rw [e3,show pw (i+1)=1048576*pw i from rfl,<-hv,eb]
    simp only [val]
    generalize val us=A at*
    generalize val (b.drop (i+1))=B at*
    generalize pw i=p at*
    have hc:c=x-y-r+1048576*q:=by omega
    subst hc
    grind)
   exact⟨out,by rw [c0e (by simp;omega),Option.bind_some,inc64 (by omega),h3],h4,h5,by omega⟩
  by_cases hn:x-y-c<0
  ·rw [show decide (x-y-c<0)=true by simpa using hn,cond_true,Option.bind_some,a2n (by omega) (by omega)]
   exact key 1 (x-y-c+1048576) (by omega) (by omega) (by omega) (by omega) (by omega)
  ·rw [show decide (x-y-c<0)=false by simpa using hn,cond_false,Option.bind_some]
   exact key 0 (x-y-c) (by omega) (by omega) (by omega) (by omega) (by omega)
 |_,0,_,_,_,_,h,_,_,_,_,_=>by omega
theorem d7q{a b:List Int}(ha:InR a)(hb:InR b)(hla:a.length<1073741824)(hlb:b.length<=a.length)(h:val b<=val a):Ev (fun n=>a3a n a b) (dig (val a-val b).toNat):=by
 refine⟨a.length+2,fun n hn=> ?_⟩
 show a3a n a b=_
 unfold a3a
 obtain⟨out,h1,h2,h3,h4⟩:=c9m n a b (fun(l2:List Int)=>(a2d n l2).bind fun v1=>some v1) ha hb hla hlb (val a-val b) (by omega) a n 0 0 [] rfl (by omega) rfl InR.nil (by decide) (by decide) (by simp [val,pw])
 refine Eq.trans h1 ?_
 show(a2d n out).bind _=_
 rw [b4q h2 (by omega) (by omega),h3];rfl
theorem d4t(P:List Int)(z:Int)(S:List Int):val (P++z::S)=val P+pw P.length*(z+1048576*val S):=by rw [val_append];rfl
theorem d1g(n:Nat)(a b:List Int)(i:Nat)(x:Int)(kont:List Int->Option (List Int))(hx:ix a (i:Int)=some x)(hxr:0<=x/\x<1048576)(hb:InR b)(hla:a.length<1073741824)(hlb:b.length<1073741824)(W:Int)(hi:i<a.length)
 (hW:W<pw (i+b.length+1)):∀(m k:Nat)(c:Int)(l:List Int),InR l->l.length=a.length+b.length->0<=c->c<1048576->val l+pw (i+k)*(c+x*val (b.drop k))=W->(k<=b.length∨(k=b.length+1/\c=0))->b.length+2<=k+m->
 ∃l',a8e n a b (i:Int) kont m c (k:Int) l=kont l'/\InR l'/\l'.length=a.length+b.length/\val l'=W
 |0,k,_,_,_,_,_,_,_,h,h2=>by omega
 |m+1,k,c,l,hl,hlen,h0,h1,hv,hk,hm=>by
  unfold a8e
  have yr:=(InR.drop hb k).headD
  have eb:=b0z b k
  by_cases hgo:k<b.length∨0<c
  ·have e1:((bif decide ((k:Int)<(b.length:Int))then some true else some (decide (0<c))):Option Bool)=some true:=by
    by_cases g1:k<b.length
    ·rw [show decide ((k:Int)<(b.length:Int))=true by simpa using g1];rfl
    ·rw [show decide ((k:Int)<(b.length:Int))=false by simpa using g1,show decide (0<c)=true by simp;omega];rfl
   have hj:i+k<l.length:=by omega
   have ej:iadd .i64 (i:Int) (k:Int)=((i+k:Nat):Int):=by rw [a2n (by omega) (by omega)];omega
   have hsp:l=l.take (i+k)++l[i+k]::l.drop (i+k+1):=by rw [<-List.drop_eq_getElem_cons hj,List.take_append_drop]
   have hPl:(l.take (i+k)).length=i+k:=by simp;omega
   have hzr:=hl l[i+k] (List.getElem_mem hj)
   have hPr:=InR.take hl (i+k)
   have hSr:=InR.drop hl (i+k+1)
   have hlen2:=congrArg List.length hsp
   simp only [List.length_append,List.length_cons]at hlen2
   generalize l[i+k]=z at*
   generalize l.take (i+k)=P at*
   generalize l.drop (i+k+1)=S at*
   generalize hy:(b.drop k).headD 0=y at*
   have hmul:=b7r (g:=x) hxr.1 yr.1 yr.2
   have em:imul .i64 x y=x*y:=a7p (by omega) (by omega)
   have es:iadd .i64 (iadd .i64 z (imul .i64 x y)) c=z+x*y+c:=by rw [em,a2n (x:=z) (y:=x*y) (by omega) (by omega),a2n (by omega) (by omega)]
   have hc':(z+x*y+c)/1048576<1048576:=by omega
   have hnv:val (P++(z+x*y+c) %1048576::S)+pw (i+(k+1))*((z+x*y+c)/1048576+x*val (b.drop (k+1)))=W:=by
    rw [hsp,d4t,hPl]at hv
    rw [d4t,hPl,show i+(k+1)=(i+k)+1 by omega,show pw (i+k+1)=1048576*pw (i+k)from rfl,<-hv,eb]
    have hdm:z+x*y+c=(z+x*y+c) %1048576+1048576*((z+x*y+c)/1048576):=by omega
    generalize (z+x*y+c) %1048576=r at*
    generalize (z+x*y+c)/1048576=q at*
    generalize val (b.drop (k+1))=B at*
    generalize pw (i+k)=p at*
    generalize val P=vP at*
    generalize val S=vS at*
    have hc:c=r+1048576*q-z-x*y:=by omega
    subst hc
    grind
   have hir:InR (P++(z+x*y+c) %1048576::S):=hPr.append (InR.cons (by omega) (by omega) hSr)
   obtain⟨l',h3,h4,h5,h6⟩:=d1g n a b i x kont hx hxr hb hla hlb W hi hW m (k+1) ((z+x*y+c)/1048576) (P++(z+x*y+c) %1048576::S) hir (by simp only [List.length_append,List.length_cons];omega) (by omega) hc' hnv (by
    by_cases g:k<b.length
    ·left;omega
    ·right
     refine⟨by omega,?_⟩
     have hk2:k=b.length:=by omega
     rw [b2f (l:=b) (by omega),Int.mul_zero,Int.add_zero]at hnv
     have hnn:=val_nonneg hir
     have hp2:=pw_pos (i+(k+1))
     rw [show i+b.length+1=i+(k+1) by omega]at hW
     generalize val (P++(z+x*y+c) %1048576::S)=vv at*
     have hq0:0<=(z+x*y+c)/1048576:=by omega
     generalize (z+x*y+c)/1048576=q at*
     rcases(show q=0∨1<=q by omega)with h|h
     ·exact h
     ·exfalso
      have:=Int.mul_le_mul_of_nonneg_left h (Int.le_of_lt hp2)
      rw [Int.mul_one]at this
      omega) (by omega)
   refine⟨l',?_,h4,h5,h6⟩
   rw [e1,Option.bind_some,cond_true,ej]
   have g1:ix l ((i+k:Nat):Int)=some z:=by rw [hsp];exact a4x _ _ _ (by omega)
   have g2:lset l ((i+k:Nat):Int) ((z+x*y+c) %1048576)=some (P++(z+x*y+c) %1048576::S):=by rw [hsp];exact a8y _ _ _ _ (by omega)
   rw [g1,Option.bind_some,hx,Option.bind_some,b9v,Option.bind_some,hy,es,c2c (by omega) (by decide),Option.bind_some,Option.bind_some,g2,Option.bind_some,c1h (by omega) (by omega) (by decide),Option.bind_some,inc64 (by omega)]
   exact h3
  ·refine⟨l,?_,hl,hlen,?_⟩
   ·rw [show decide ((k:Int)<(b.length:Int))=false by simp;omega,show decide (0<c)=false by simp;omega];rfl
   ·rw [b2f (by omega)]at hv
    rw [<-hv,show c=0 by omega];simp
end Go.Proofs.YthaegflpecbfgaaGreatDoor.D
namespace Go.Proofs.YthaegflpecbfgaaGreatDoor.D
open Go Rt M
theorem d1a(n:Nat)(a b:List Int)(kont:List Int->Option (List Int))(ha:InR a)(hb:InR b)(hla:a.length<1073741824)(hlb:b.length<1073741824)(hn:b.length+2<=n)(T:Int):∀(us:List Int)(i m:Nat)(l:List Int),
 a.drop i=us->us.length<m->InR l->l.length=a.length+b.length->val l<pw (i+b.length)->val l+pw i*(val us*val b)=T->
 ∃l',a4o n a b kont m (i:Int) l=kont l'/\InR l'/\l'.length=a.length+b.length/\val l'=T
 | [],i,m+1,l,hd,_,hl,hlen,_,hv=>by
  refine⟨l,?_,hl,hlen,?_⟩
  ·unfold a4o
   have:=drop_nil hd
   rw [show decide ((i:Int)<(a.length:Int))=false by simp;omega];rfl
  ·rw [<-hv];simp [val]
 |x::us,i,m+1,l,hd,hm,hl,hlen,hlt,hv=>by
  obtain⟨f1,f2,f3⟩:=drop_cons hd
  have xr:=(show InR (x::us) by rw [<-hd];exact InR.drop ha i).head
  unfold a4o
  rw [show decide ((i:Int)<(a.length:Int))=true by simpa using f3,cond_true]
  have hbv:=val_lt hb
  have hb0:=val_nonneg hb
  have hpi:=pw_pos i
  have hW:val l+pw i*(x*val b)<pw (i+b.length+1):=by
   have h1:x*val b<=1048575*pw b.length:=Int.le_trans (Int.mul_le_mul_of_nonneg_right (show x<=1048575 by omega) hb0) (Int.mul_le_mul_of_nonneg_left (Int.le_of_lt hbv) (by decide))
   have h2:=Int.mul_le_mul_of_nonneg_left h1 (Int.le_of_lt hpi)
   rw [d2b]at hlt
   rw [show pw (i+b.length+1)=1048576*pw (i+b.length)from rfl,d2b]
   have h3:pw i*(1048575*pw b.length)=1048575*(pw i*pw b.length):=by grind
   omega
  obtain⟨l',h1,h2,h3,h4⟩:=d1g n a b i x (fun(l5:List Int)=>a4o n a b kont m (iadd .i64 (i:Int) 1) l5) f1 xr hb hla hlb (val l+pw i*(x*val b)) f3 hW n 0 0 l hl hlen (by decide) (by decide) (by simp) (.inl (by omega)) (by omega)
  obtain⟨l2,h5,h6,h7,h8⟩:=d1a n a b kont ha hb hla hlb hn T us (i+1) m l' f2 (by simpa using hm) h2 h3 (by rw [h4,show i+1+b.length=i+b.length+1 by omega];exact hW) (by
   rw [h4,<-hv,show pw (i+1)=1048576*pw i from rfl]
   simp only [val]
   grind)
  refine⟨l2,?_,h6,h7,h8⟩
  refine Eq.trans h1 ?_
  show a4o n a b kont m (iadd .i64 (i:Int) 1) l'=_
  rw [inc64 (by omega)];exact h5
 |_,_,0,_,_,h,_,_,_,_=>by omega
theorem val_zeros:∀k,val (List.replicate k (0:Int))=0
 |0=>rfl
 |k+1=>by rw [List.replicate_succ];simp only [val,val_zeros k];rfl
theorem d4d(k:Nat):InR (List.replicate k (0:Int)):=fun e he=>by rw [(List.mem_replicate.1 he).2];decide
theorem d6o{a b:List Int}(ha:InR a)(hb:InR b)(hla:a.length<536870912)(hlb:b.length<536870912){n:Nat}(hn:a.length+b.length+2<n):a4j n a b=some (dig (val a*val b).toNat):=by
 unfold a4j
 obtain⟨l',h1,h2,h3,h4⟩:=d1a n a b (fun(l3:List Int)=>(a2d n l3).bind fun v1=>some v1) ha hb (by omega) (by omega) (by omega) (val a*val b) a 0 n (List.replicate (a.length+b.length) 0) rfl (by omega) (d4d _) (by simp) (by rw [val_zeros];exact pw_pos _) (by rw [val_zeros];simp [pw])
 rw [show iadd .i64 (a.length:Int) (b.length:Int)=((a.length+b.length:Nat):Int) by rw [a2n (by omega) (by omega)];omega,c4o (by omega),Option.bind_some]
 refine Eq.trans h1 ?_
 show(a2d n l').bind _=_
 rw [b4q h2 (by omega) (by omega),h4];rfl
theorem c7l{u v n:Nat}(hu:(dig u).length<536870912)(hv:(dig v).length<536870912)(hn:(dig u).length+(dig v).length+2<n):a4j n (dig u) (dig v)=some (dig (u*v)):=by
 rw [d6o (a2e u) (a2e v) hu hv hn,a1p,a1p,<-Int.natCast_mul,Int.toNat_natCast]
theorem c9p(n:Nat)(b r:Nat)(kont:Int->Option (List Int×List Int))(hb:0<b)(hlb:(dig b).length<536870900)(hlr:(dig r).length<536870900)(hn:(dig b).length+(dig r).length+8<n):∀(m:Nat)(lo hi:Nat),
 hi-lo<m->lo<hi->hi<=1048576->lo*b<=r->r<hi*b->a7o n (dig b) (dig r) kont m (lo:Int) (hi:Int)=kont ((r/b:Nat):Int)
 |0,_,_,h,_,_,_,_=>by omega
 |m+1,lo,hi,hm,hlt,hh,h1,h2=>by
  unfold a7o
  rw [a1f (by omega) (by omega)]
  by_cases hg:1<hi-lo
  ·rw [show decide (1<(hi:Int)-(lo:Int))=true by simp;omega,cond_true,a2n (by omega) (by omega),c1h (by omega) (by omega) (by decide),Option.bind_some]
   have e1:((lo:Int)+(hi:Int))/2=(((lo+hi)/2:Nat):Int):=by omega
   rw [e1]
   generalize hmid:(lo+hi)/2=mid at*
   have e2:a4j n (dig b) [(mid:Int)]=some (dig (b*mid)):=by
    rw [d6o (a2e b) (InR.cons (by omega) (by omega) InR.nil) (by omega) (by simp) (by simp;omega),a1p]
    have:val [(mid:Int)]=mid:=by simp [val]
    rw [this,<-Int.natCast_mul,Int.toNat_natCast]
   have hbm:(dig (b*mid)).length<=(dig b).length+1:=by
    have hs1:Sm (dig b).length (b:Int):=a4a (by rw [Int.natAbs_natCast];exact Nat.le_refl _)
    have hs2:Sm 1 (mid:Int):=by unfold Sm;rw [Int.natAbs_natCast,show pw 1=1048576 by decide];omega
    have:=a1k (hs1.mul hs2)
    rwa [<-Int.natCast_mul,Int.natAbs_natCast]at this
   rw [e2,Option.bind_some,e0b (a2e r) (a2e (b*mid)) (by omega) (by omega) (by omega),Option.bind_some,a1p,a1p]
   by_cases hl:r<b*mid
   ·rw [show decide ((r:Int)<((b*mid:Nat):Int))=true by rw [decide_eq_true_eq];omega,cond_true]
    exact c9p n b r kont hb hlb hlr hn m lo mid (by omega) (by omega) (by omega) h1 (by rw [Nat.mul_comm];exact hl)
   ·rw [show decide ((r:Int)<((b*mid:Nat):Int))=false by rw [decide_eq_false_iff_not];omega,cond_false]
    exact c9p n b r kont hb hlb hlr hn m mid hi (by omega) (by omega) hh (by rw [Nat.mul_comm];omega) h2
  ·rw [show decide (1<(hi:Int)-(lo:Int))=false by simp;omega,cond_false]
   have:hi=lo+1:=by omega
   subst this
   have:r/b=lo:=by
    apply Nat.div_eq_of_lt_le
    ·exact h1
    ·exact h2
   rw [this]
end Go.Proofs.YthaegflpecbfgaaGreatDoor.D
namespace Go.Proofs.YthaegflpecbfgaaGreatDoor.D
open Go Rt M
theorem e1o{a b:List Int}(ha:InR a)(hb:InR b)(hla:a.length<1073741824)(hlb:b.length<=a.length)(h:val b<=val a){n:Nat}(hn:a.length+2<=n):a3a n a b=some (dig (val a-val b).toNat):=by
 unfold a3a
 obtain⟨out,h1,h2,h3,h4⟩:=c9m n a b (fun(l2:List Int)=>(a2d n l2).bind fun v1=>some v1) ha hb hla hlb (val a-val b) (by omega) a n 0 0 [] rfl (by omega) rfl InR.nil (by decide) (by decide) (by simp [val,pw])
 refine Eq.trans h1 ?_
 show(a2d n out).bind _=_
 rw [b4q h2 (by omega) (by omega),h3];rfl
theorem d5m{x H b:Nat}(hb:0<b):(x+1048576*H)/b=1048576*(H/b)+(x+1048576*(H %b))/b/\(x+1048576*H) %b=(x+1048576*(H %b)) %b:=by
 have h1:=Nat.div_add_mod H b
 have e:x+1048576*H=(x+1048576*(H %b))+b*(1048576*(H/b)):=by
  generalize H/b=q at*
  generalize H %b=r at*
  rw [<-h1]
  grind
 rw [e,Nat.add_mul_div_left _ _ hb,Nat.add_mul_mod_self_left]
 omega
theorem d2y{v:Nat}(h:v<1048576):(dig v).length<=1:=by
 have h1:Sm 1 (v:Int):=by unfold Sm;rw [Int.natAbs_natCast,show pw 1=1048576 by decide];omega
 have:=a1k h1
 rwa [Int.natAbs_natCast]at this
theorem d5s(n:Nat)(a:List Int)(b:Nat)(kont:List Int->List Int->Option (List Int×List Int))(ha:InR a)(hb:0<b)(hla:a.length<536870800)(hlb:(dig b).length<536870800)(hn:a.length+2*(dig b).length+1048600<n):∀(i m:Nat)(H:Nat)(qs:List Int),
 i<=a.length->i<m->val (a.drop i)=H->InR qs->qs.length=a.length-i->val qs=((H/b:Nat):Int)->
 ∃out,a6i n a (dig b) kont m (dig (H %b)) ((i:Int)-1) (List.replicate i 0++qs)=kont (dig ((val a).toNat %b)) out/\InR out/\out.length=a.length/\val out=(((val a).toNat/b:Nat):Int)
 |0,m+1,H,qs,_,_,hH,hq,hql,hqv=>by
  refine⟨qs,?_,hq,by omega,?_⟩
  ·unfold a6i
   rw [show decide ((0:Int)<=((0:Nat):Int)-1)=false by decide,cond_false]
   rw [List.drop_zero]at hH
   rw [hH];rfl
  ·rw [List.drop_zero]at hH
   rw [hqv,hH];rfl
 |i+1,m+1,H,qs,hi,hm,hH,hq,hql,hqv=>by
  unfold a6i
  have hia:i<a.length:=by omega
  have hxr:=ha a[i] (List.getElem_mem hia)
  have hvd:=b0z a i
  rw [List.drop_eq_getElem_cons hia]at hvd
  simp only [List.headD_cons]at hvd
  rw [<-List.drop_eq_getElem_cons hia]at hvd
  rw [show((i+1:Nat):Int)-1=(i:Int) by omega,show decide (0<=(i:Int))=true by simp,cond_true,b4l,List.getElem?_eq_getElem hia,Option.bind_some]
  generalize a[i]=x at*
  obtain⟨X,rfl⟩:=Int.eq_ofNat_of_zero_le hxr.1
  have hmod:=Nat.mod_lt H hb
  have hlr:=a4k (Nat.le_of_lt hmod)
  obtain⟨s1,s2⟩:=d5m (x:=X) (H:=H) hb
  have hr':X+1048576*(H %b)<1048576*b:=by omega
  have hvl:val ((X:Int)::dig (H %b))=((X+1048576*(H %b):Nat):Int):=by simp only [val,a1p];omega
  rw [c0e (by simp;omega),Option.bind_some,List.singleton_append,b4q (InR.cons hxr.1 hxr.2 (a2e _)) (by simp;omega) (by simp;omega),Option.bind_some,hvl,Int.toNat_natCast]
  have hlr':(dig (X+1048576*(H %b))).length<=(dig b).length+1:=by
   have h1:=b9w (l:=(X:Int)::dig (H %b)) (InR.cons hxr.1 hxr.2 (a2e _))
   rw [hvl,Int.toNat_natCast]at h1
   simp only [List.length_cons]at h1
   omega
  generalize hR:X+1048576*(H %b)=R at*
  have hlo:R/b<1048576:=by rw [Nat.div_lt_iff_lt_mul hb];omega
  have hlob:b*(R/b)<=R:=Nat.mul_div_le R b
  have h2:=c9p n b R (fun(lo2:Int)=>
   (ix (List.replicate (i+1) 0++qs) (i:Int)).bind fun _=>
   (lset (List.replicate (i+1) 0++qs) (i:Int) lo2).bind fun l5=>
   (a2d n [lo2]).bind fun v3=>
   (a4j n (dig b) v3).bind fun v4=>
   (a3a n (dig R) v4).bind fun v5=>
   a6i n a (dig b) kont m v5 (isub .i64 (i:Int) 1) l5) hb (by omega) (by omega) (by omega) n 0 1048576 (by omega) (by omega) (by omega) (by omega) (by omega)
  generalize hL:R/b=L at*
  have e1:List.replicate (i+1) (0:Int)++qs=List.replicate i 0++0::qs:=by rw [List.replicate_succ',List.append_assoc];rfl
  have e2:ix (List.replicate (i+1) (0:Int)++qs) (i:Int)=some 0:=by rw [e1];exact a4x _ _ _ (by simp)
  have e3:lset (List.replicate (i+1) (0:Int)++qs) (i:Int) ((L:Nat):Int)=some (List.replicate i 0++((L:Nat):Int)::qs):=by rw [e1];exact a8y _ _ _ _ (by simp)
  have e4:a2d n [((L:Nat):Int)]=some (dig (L)):=by
   rw [b4q (InR.cons (by omega) (by omega) InR.nil) (by simp) (by simp;omega)]
   simp [val]
  have hl1:=d2y hlo
  have e5:a4j n (dig b) (dig (L))=some (dig (b*(L))):=c7l (by omega) (by omega) (by omega)
  have e6:a3a n (dig R) (dig (b*(L)))=some (dig (R %b)):=by
   have h3:=a4k hlob
   rw [e1o (a2e _) (a2e _) (by omega) h3 (by rw [a1p,a1p];omega) (by omega),a1p,a1p]
   congr 2
   have:=Nat.div_add_mod R b
   rw [hL]at this
   omega
  have hnext:=d5s n a b kont ha hb hla hlb hn i m (X+1048576*H) (((L:Nat):Int)::qs) (by omega) (by omega) (by rw [hvd,hH];omega) (InR.cons (by omega) (by omega) hq) (by simp;omega) (by
   rw [s1];simp only [val];rw [hqv];omega)
  obtain⟨out,h4,h5,h6,h7⟩:=hnext
  refine⟨out,?_,h5,h6,h7⟩
  refine Eq.trans h2 ?_
  show(ix (List.replicate (i+1) 0++qs) (i:Int)).bind _=_
  rw [e2,Option.bind_some,e3,Option.bind_some,e4,Option.bind_some,e5,Option.bind_some,e6,Option.bind_some,a1f (by omega) (by omega),<-h4,s2]
 |_,0,_,_,_,h,_,_,_,_=>by omega
theorem e4l{A b:Nat}(hb:0<b)(hla:(dig A).length<536870800)(hlb:(dig b).length<536870800){n:Nat}(hn:(dig A).length+2*(dig b).length+1048600<n):a8v n (dig A) (dig b)=some (dig (A/b),dig (A %b)):=by
 unfold a8v
 obtain⟨out,h1,h2,h3,h4⟩:=d5s n (dig A) b (fun(rx2:List Int)(l3:List Int)=>(a2d n l3).bind fun v1=>some (v1,rx2)) (a2e A) hb hla hlb hn (dig A).length n 0 [] (Nat.le_refl _) (by omega) (by rw [b2f (Nat.le_refl _)];rfl) InR.nil (by simp) (by rw [Nat.zero_div];rfl)
 rw [Nat.zero_mod,dig_zero,List.append_nil]at h1
 rw [c4o (by omega),Option.bind_some,a1f (by omega) (by omega)]
 refine Eq.trans h1 ?_
 show(a2d n out).bind _=_
 rw [b4q h2 (by omega) (by omega),h4,a1p,Int.toNat_natCast,Int.toNat_natCast];rfl
end Go.Proofs.YthaegflpecbfgaaGreatDoor.D
namespace Go.Proofs.YthaegflpecbfgaaGreatDoor.D
open Go Rt M
theorem c8n{a:Big}(hl:a.Digits.length<1099511627776):Ev (fun n=>a1x n a) (a9h a):=⟨a.Digits.length+1,fun _ hn=>d8u hl hn⟩
theorem a4r{x:Int}{k:Nat}(h:Sm k x)(hk:k<1099511627776):Ev (fun n=>a1x n (toB x)) true:=by
 have:=a1k h
 exact(c8n (a:=toB x) (by simp only [toB];omega)).eq (b6a x)
theorem e2y(s:Int){v:Nat}(h:(dig v).length<1099511627776):Ev (fun n=>a1z n s (dig v)) (if v=0 then⟨0,[]⟩else⟨s,dig v⟩):=by
 refine⟨(dig v).length+1,fun n hn=> ?_⟩
 have h1:=e4v s (a2e v) h (n:=n) (by omega)
 rw [a1p,Int.toNat_natCast]at h1
 exact h1
theorem a8w{s:Int}{v:Nat}(h:(dig v).length<1099511627776)(z:Int)(hz:z.natAbs=v)(hs:v≠0->s=sg z):Ev (fun n=>a1z n s (dig v)) (toB z):=(e2y s h).eq (a5y z hz hs)
theorem d1i(u v:Nat)(hu:(dig u).length<1073741824)(hv:(dig v).length<1073741824):Ev (fun n=>a7j n (dig u) (dig v)) (dig (u+v)):=
 (e2d (a2e u) (a2e v) hu hv).eq (by rw [a1p,a1p,<-Int.natCast_add,Int.toNat_natCast])
theorem c1f(u v:Nat)(hu:(dig u).length<1073741824)(h:v<=u):Ev (fun n=>a3a n (dig u) (dig v)) (dig (u-v)):=
 (d7q (a2e u) (a2e v) hu (a4k h) (by rw [a1p,a1p];omega)).eq (by rw [a1p,a1p];congr 1;omega)
theorem d1q(u v:Nat)(hu:(dig u).length<1099511627776)(hv:(dig v).length<1099511627776):Ev (fun n=>a6a n (dig u) (dig v)) (decide (u<v)):=
 ⟨max (dig u).length (dig v).length+1,fun n hn=>by
  show a6a n (dig u) (dig v)=_
  rw [e0b (a2e u) (a2e v) hu hv (by omega),a1p,a1p]
  congr 1
  by_cases h:u<v<;>simp [h]⟩
theorem d4y(u v:Nat)(hu:(dig u).length<536870912)(hv:(dig v).length<536870912):Ev (fun n=>a4j n (dig u) (dig v)) (dig (u*v)):=
 ⟨(dig u).length+(dig v).length+3,fun n hn=>c7l hu hv (by omega)⟩
theorem d0s(u v:Nat)(h:v≠0)(hu:(dig u).length<536870800)(hv:(dig v).length<536870800):Ev (fun n=>a8v n (dig u) (dig v)) (dig (u/v),dig (u %v)):=
 ⟨(dig u).length+2*(dig v).length+1048601,fun n hn=>e4l (by omega) hu hv (by omega)⟩
theorem d3s{x:Int}{k:Nat}(h:Sm k x)(hk:k<1073741824):Ev (fun n=>b2w n (toB x)) (toB (-x)):=by
 have hl:=a1k h
 unfold b2w
 refine Ev.bind (a4r h (by omega)) ?_
 refine Ev.else rfl ?_
 refine Ev.bind (a8w (v:=x.natAbs) (by omega) (-x) (by omega) (fun hne=> ?_)) (Ev.pure _)
 show IntKind.i64.wrap (0-sg x)=sg (-x)
 rcases a1d x with⟨a,b⟩|⟨a,b⟩|⟨a,b⟩<;>rw [b]
 ·rw [a3r (by omega)];decide
 ·omega
 ·rw [a3z (by omega)];decide
theorem d0j{x y:Int}{k:Nat}(hx:Sm k x)(hy:Sm k y)(hk:k<268435456):Ev (fun n=>a5g n (toB x) (toB y)) (toB (x*y),0):=by
 have lx:=a1k hx
 have ly:=a1k hy
 unfold a5g
 refine Ev.bind (a4r hx (by omega)) ?_
 refine Ev.bind (a:=false) (Ev.else rfl (Ev.bind (a4r hy (by omega)) (Ev.pure _))) ?_
 refine Ev.else rfl ?_
 refine Ev.bind (d4y x.natAbs y.natAbs (by omega) (by omega)) ?_
 have lm:(dig (x.natAbs*y.natAbs)).length<=k+k:=by
  have:=a1k (hx.mul hy)
  rwa [Int.natAbs_mul]at this
 refine Ev.bind (a8w (by omega) (x*y) (Int.natAbs_mul x y) (fun _=> ?_)) (Ev.pure _)
 exact b5q x y
theorem e2v{x y:Int}{k:Nat}(hx:Sm k x)(hy:Sm k y)(hk:k<536870912):Ev (fun n=>b5b n (toB x) (toB y)) (toB (x+y),0):=by
 have lx:=a1k hx
 have ly:=a1k hy
 unfold b5b
 refine Ev.bind (a4r hx (by omega)) ?_
 refine Ev.bind (a:=false) (Ev.else rfl (Ev.bind (a4r hy (by omega)) (Ev.pure _))) ?_
 refine Ev.else rfl ?_
 have hplus:∀s,(x.natAbs+y.natAbs≠0->s=sg (x+y))->(x+y).natAbs=x.natAbs+y.natAbs->Ev (fun n=>(a7j n (dig x.natAbs) (dig y.natAbs)).bind fun v5=>(a1z n s v5).bind fun v6=>some ((⟨v6.Sign,v6.Digits⟩:Big),(0:Int))) (toB (x+y),0):=by
  intro s hs hz
  have lp:(dig (x.natAbs+y.natAbs)).length<=k+1:=by
   have:=a1k (hx.add hy)
   rwa [hz]at this
  refine Ev.bind (d1i x.natAbs y.natAbs (by omega) (by omega)) ?_
  exact Ev.bind (a8w (by omega) (x+y) hz hs) (Ev.pure _)
 have hless:(0<x/\y<0)∨(x<0/\0<y)->Ev (fun n=>(a6a n (dig x.natAbs) (dig y.natAbs)).bind fun v7=>
  bif v7 then
   (a3a n (dig y.natAbs) (dig x.natAbs)).bind fun v8=>
   (a1z n (sg y) v8).bind fun v9=>
   some ((⟨v9.Sign,v9.Digits⟩:Big),(0:Int))
  else
   (a3a n (dig x.natAbs) (dig y.natAbs)).bind fun v10=>
   (a1z n (sg x) v10).bind fun v11=>
   some ((⟨v11.Sign,v11.Digits⟩:Big),0)) (toB (x+y),0):=by
  intro hs
  refine Ev.bind (d1q x.natAbs y.natAbs (by omega) (by omega)) ?_
  by_cases hl:x.natAbs<y.natAbs
  ·have l1:=a4k (Nat.sub_le y.natAbs x.natAbs)
   refine Ev.then (by simpa using hl) ?_
   refine Ev.bind (c1f y.natAbs x.natAbs (by omega) (by omega)) ?_
   refine Ev.bind (a8w (by omega) (x+y) (by omega) (fun _=> ?_)) (Ev.pure _)
   rcases hs with⟨h1,h2⟩|⟨h1,h2⟩
   ·rw [a3z h2,a3z (by omega)]
   ·rw [a3r h2,a3r (by omega)]
  ·have l1:=a4k (Nat.sub_le x.natAbs y.natAbs)
   refine Ev.else (by simpa using hl) ?_
   refine Ev.bind (c1f x.natAbs y.natAbs (by omega) (by omega)) ?_
   refine Ev.bind (a8w (by omega) (x+y) (by omega) (fun hne=> ?_)) (Ev.pure _)
   rcases hs with⟨h1,h2⟩|⟨h1,h2⟩
   ·rw [a3r h1,a3r (by omega)]
   ·rw [a3z h1,a3z (by omega)]
 rcases a1d x with⟨a,b⟩|⟨a,b⟩|⟨a,b⟩<;>rcases a1d y with⟨c,d⟩|⟨c,d⟩|⟨c,d⟩
 ·refine Ev.bind (a:=false) (Ev.else (by show(sg x==0)=false;rw [b];rfl) ((Ev.pure _).eq (by show(sg y==0)=false;rw [d];rfl))) ?_
  refine Ev.bind (a:=true) (Ev.else rfl ((Ev.pure _).eq (by show(sg x==sg y)=true;rw [b,d];rfl))) ?_
  exact Ev.then rfl (hplus _ (fun _=>by show ior .i64 (sg x) (sg y)=_;rw [b,d,a3z (by omega)];decide) (by omega))
 ·refine Ev.bind (a:=true) (Ev.else (by show(sg x==0)=false;rw [b];rfl) ((Ev.pure _).eq (by show(sg y==0)=true;rw [d];rfl))) ?_
  refine Ev.bind (a:=true) (Ev.then rfl (Ev.pure _)) ?_
  exact Ev.then rfl (hplus _ (fun _=>by show ior .i64 (sg x) (sg y)=_;rw [b,d,a3z (by omega)];decide) (by omega))
 ·refine Ev.bind (a:=false) (Ev.else (by show(sg x==0)=false;rw [b];rfl) ((Ev.pure _).eq (by show(sg y==0)=false;rw [d];rfl))) ?_
  refine Ev.bind (a:=false) (Ev.else rfl ((Ev.pure _).eq (by show(sg x==sg y)=false;rw [b,d];rfl))) ?_
  exact Ev.else rfl (hless (.inr ⟨a,c⟩))
 ·refine Ev.bind (a:=true) (Ev.then (by show(sg x==0)=true;rw [b];rfl) (Ev.pure _)) ?_
  refine Ev.bind (a:=true) (Ev.then rfl (Ev.pure _)) ?_
  exact Ev.then rfl (hplus _ (fun _=>by show ior .i64 (sg x) (sg y)=_;rw [b,d,a3z (by omega)];decide) (by omega))
 ·refine Ev.bind (a:=true) (Ev.then (by show(sg x==0)=true;rw [b];rfl) (Ev.pure _)) ?_
  refine Ev.bind (a:=true) (Ev.then rfl (Ev.pure _)) ?_
  exact Ev.then rfl (hplus _ (fun h=>by omega) (by omega))
 ·refine Ev.bind (a:=true) (Ev.then (by show(sg x==0)=true;rw [b];rfl) (Ev.pure _)) ?_
  refine Ev.bind (a:=true) (Ev.then rfl (Ev.pure _)) ?_
  exact Ev.then rfl (hplus _ (fun _=>by show ior .i64 (sg x) (sg y)=_;rw [b,d,a3r (by omega)];decide) (by omega))
 ·refine Ev.bind (a:=false) (Ev.else (by show(sg x==0)=false;rw [b];rfl) ((Ev.pure _).eq (by show(sg y==0)=false;rw [d];rfl))) ?_
  refine Ev.bind (a:=false) (Ev.else rfl ((Ev.pure _).eq (by show(sg x==sg y)=false;rw [b,d];rfl))) ?_
  exact Ev.else rfl (hless (.inl ⟨a,c⟩))
 ·refine Ev.bind (a:=true) (Ev.else (by show(sg x==0)=false;rw [b];rfl) ((Ev.pure _).eq (by show(sg y==0)=true;rw [d];rfl))) ?_
  refine Ev.bind (a:=true) (Ev.then rfl (Ev.pure _)) ?_
  exact Ev.then rfl (hplus _ (fun _=>by show ior .i64 (sg x) (sg y)=_;rw [b,d,a3r (by omega)];decide) (by omega))
 ·refine Ev.bind (a:=false) (Ev.else (by show(sg x==0)=false;rw [b];rfl) ((Ev.pure _).eq (by show(sg y==0)=false;rw [d];rfl))) ?_
  refine Ev.bind (a:=true) (Ev.else rfl ((Ev.pure _).eq (by show(sg x==sg y)=true;rw [b,d];rfl))) ?_
  exact Ev.then rfl (hplus _ (fun _=>by show ior .i64 (sg x) (sg y)=_;rw [b,d,a3r (by omega)];decide) (by omega))
theorem d3n{x y:Int}{k:Nat}(hx:Sm k x)(hy:Sm k y)(hk:k<8388608)(hy0:y≠0):Ev (fun n=>b0m n (toB x) (toB y)) (toB (dq x y),toB (dr x y),0):=by
 have lx:=a1k hx
 have ly:=a1k hy
 have hyn:y.natAbs≠0:=by omega
 have hmod:=Nat.mod_lt x.natAbs (show y.natAbs>0 by omega)
 have hdivle:x.natAbs/y.natAbs<=x.natAbs:=Nat.div_le_self _ _
 have lq:=a4k hdivle
 have lr:=a4k (Nat.le_of_lt hmod)
 have lq1:(dig (x.natAbs/y.natAbs+1)).length<=k+1:=by
  have h:Sm (k+1) ((x.natAbs/y.natAbs+1:Nat):Int):=by
   generalize x.natAbs/y.natAbs=q at*
   unfold Sm at*
   rw [Int.natAbs_natCast]
   simp only [pw];have:=pw_pos k;omega
  have:=a1k h
  rwa [Int.natAbs_natCast]at this
 have ls:=a4k (show y.natAbs-x.natAbs %y.natAbs<=y.natAbs by omega)
 unfold b0m
 refine Ev.bind (a4r hx (by omega)) ?_
 refine Ev.bind (a:=false) (Ev.else rfl (Ev.bind (a4r hy (by omega)) (Ev.pure _))) ?_
 refine Ev.else rfl ?_
 refine Ev.else (by show(sg y==0)=false;rcases a1d y with h|h|h<;>first|(rw [h.2];rfl)|omega) ?_
 refine Ev.bind (d0s x.natAbs y.natAbs hyn (by omega) (by omega)) ?_
 refine Ev.step (a:= !odd x y) (by
  show(bif decide (0<=imul .i64 (sg x) (sg y))then some true else some (((dig (x.natAbs %y.natAbs)).length:Int)==0))=_
  rw [b5q]
  unfold odd
  have e1:decide (0<=sg (x*y))= !decide (x*y<0):=by
   rcases a1d (x*y)with⟨h1,h2⟩|⟨h1,h2⟩|⟨h1,h2⟩<;>rw [h2]<;>simp<;>omega
  have e2:(((dig (x.natAbs %y.natAbs)).length:Int)==0)= !decide (x.natAbs %y.natAbs≠0):=by
   by_cases h:x.natAbs %y.natAbs=0
   ·rw [h,dig_zero];rfl
   ·have:=b6s h
    have h3:0<(dig (x.natAbs %y.natAbs)).length:=List.length_pos_iff.2 this
    rw [beq_false_of_ne (by omega),decide_eq_true h];rfl
  rw [e1,e2]
  cases decide (x*y<0)<;>rfl) ?_
 by_cases ho:odd x y=true
 ·refine Ev.else (by rw [ho];rfl) ?_
  refine Ev.bind (a:=dig (x.natAbs/y.natAbs+1)) (by
   have:=d1i (x.natAbs/y.natAbs) 1 (by omega) (by rw [dig_one];simp)
   rwa [dig_one]at this) ?_
  refine Ev.bind (a8w (by omega) (dq x y) (d1o ho).1 (fun _=>(d1o ho).2.symm)) ?_
  refine Ev.bind (c1f y.natAbs (x.natAbs %y.natAbs) (by omega) (by omega)) ?_
  exact Ev.bind (a8w (by omega) (dr x y) (d1c hy0 ho).1 (fun _=>(d1c hy0 ho).2.symm)) (Ev.pure _)
 ·refine Ev.then (by simpa using ho) ?_
  refine Ev.bind (a8w (by omega) (dq x y) (c5w hy0 ho).1 (fun h=>by show imul .i64 (sg x) (sg y)=_;rw [b5q];exact(c5w hy0 ho).2 h)) ?_
  exact Ev.bind (a8w (by omega) (dr x y) (c6u ho).1 (c6u ho).2) (Ev.pure _)
end Go.Proofs.YthaegflpecbfgaaGreatDoor.D
namespace Go.Proofs.YthaegflpecbfgaaGreatDoor.D
open Go Rt M
theorem d6k(n:Nat)(a b:Big)(kont:Option Bool)(hl:a.Digits.length=b.Digits.length)(hla:a.Digits.length<1099511627776):∀(us:List Int)(i m:Nat),a.Digits.drop i=us->us.length<m->ref04_Same_L1 n a b kont m (i:Int)=bif decide (us=b.Digits.drop i)then kont else some false
 | [],i,m+1,hd,_=>by
  rw [ref04_Same_L1_s]
  have:=drop_nil hd
  have hb:b.Digits.drop i= []:=List.drop_eq_nil_of_le (by omega)
  rw [show decide ((i:Int)<(a.Digits.length:Int))=false by simp;omega,hb];rfl
 |x::xs,i,m+1,hd,hm=>by
  rw [ref04_Same_L1_s]
  obtain⟨f1,f2,f3⟩:=drop_cons hd
  have hdb:b.Digits.drop i=b.Digits[i]::b.Digits.drop (i+1):=List.drop_eq_getElem_cons (by omega)
  rw [show decide ((i:Int)<(a.Digits.length:Int))=true by simp;omega,cond_true,f1,Option.bind_some,(drop_cons hdb).1,Option.bind_some,hdb]
  by_cases h:x=b.Digits[i]
  ·rw [show(x !=b.Digits[i])=false by simp [h],cond_false,inc64 (by omega),d6k n a b kont hl hla xs (i+1) m f2 (by simpa using hm),d9h,show decide (x=b.Digits[i])=true by simpa using h,Bool.true_and]
  ·rw [show(x !=b.Digits[i])=true by simpa using h,cond_true,d9h,show decide (x=b.Digits[i])=false by simpa using h];rfl
 |_,_,0,_,h=>by omega
theorem d8h{a b:Big}(hl:a.Digits.length<1099511627776):Ev (fun n=>b1b n a b) (decide (a=b)):=by
 unfold b1b
 obtain⟨s,l⟩:=a
 obtain⟨t,k⟩:=b
 by_cases h:s=t
 ·subst h
  by_cases hlen:l.length=k.length
  ·refine Ev.step (a:=false) (by simp [hlen]) ?_
   refine Ev.else rfl ⟨l.length+1,fun n hn=> ?_⟩
   have h1:=d6k n ⟨s,l⟩ ⟨s,k⟩ (some true) hlen hl l 0 n rfl (by omega)
   rw [show((0:Nat):Int)=0 from rfl,List.drop_zero]at h1
   dsimp only at h1⊢
   rw [h1]
   by_cases h2:l=k
   ·simp [h2]
   ·simp [h2]
  ·refine Ev.step (a:=true) (by simp;omega) ?_
   have:l≠k:=fun e=>hlen (by rw [e])
   exact Ev.then rfl ((Ev.pure _).eq (by simp [this]))
 ·refine Ev.step (a:=true) (by rw [show(s !=t)=true by simpa using h,cond_true]) ?_
  exact Ev.then rfl ((Ev.pure _).eq (by simp [h]))
theorem d3t{x y:Int}{k:Nat}(h:Sm k x)(hk:k<1099511627776):Ev (fun n=>b1b n (toB x) (toB y)) (decide (x=y)):=by
 have h1:=d8h (a:=toB x) (b:=toB y) (by have:=a1k h;simp only [toB];omega)
 refine h1.eq ?_
 by_cases hxy:x=y
 ·simp [hxy]
 ·have:toB x≠toB y:=fun e=>hxy (e1j e)
  simp [hxy,this]
end Go.Proofs.YthaegflpecbfgaaGreatDoor.D
namespace Go.Proofs.YthaegflpecbfgaaGreatDoor.D
open Go Rt M
theorem e4z(v:Nat):∀(u:Nat),(dig u).length<16777216->(dig v).length<16777216->∃N,∀n,N<=n->∀(kont:List Int->Option (Big×Int))m,v<m->a8q n kont m (dig u) (dig v)=kont (dig (Nat.gcd u v)):=by
 induction v using Nat.strongRecOn with
 |ind v ih=>
  intro u hu hv
  by_cases h:v=0
  ·subst h
   refine⟨0,fun n _ kont m hm=> ?_⟩
   obtain⟨m,rfl⟩:∃m',m=m'+1:=⟨m-1,by omega⟩
   rw [dig_zero,Nat.gcd_zero_right];rfl
  ·have hlt:=Nat.mod_lt u (show v>0 by omega)
   obtain⟨N1,h1⟩:=d0s u v h (by omega) (by omega)
   obtain⟨N2,h2⟩:=ih (u %v) hlt v hv (by have:=a4k (Nat.le_of_lt hlt);omega)
   refine⟨max N1 N2,fun n hn kont m hm=> ?_⟩
   obtain⟨m,rfl⟩:∃m',m=m'+1:=⟨m-1,by omega⟩
   have h3:0<(dig v).length:=List.length_pos_iff.2 (b6s h)
   unfold a8q
   rw [show decide (0<((dig v).length:Int))=true by simp;omega,cond_true,(show a8v n (dig u) (dig v)=_ from h1 n (by omega)),Option.bind_some]
   show a8q n kont m (dig v) (dig (u %v))=_
   rw [h2 n (by omega) kont m (by omega),Nat.gcd_comm v,<-Nat.gcd_rec,Nat.gcd_comm]
theorem d7g{x y:Int}{k:Nat}(hx:Sm k x)(hy:Sm k y)(hk:k<8388608):Ev (fun n=>b1h n (toB x) (toB y)) (toB (Nat.gcd x.natAbs y.natAbs:Nat),0):=by
 have lx:=a1k hx
 have ly:=a1k hy
 unfold b1h
 refine Ev.bind (a4r hx (by omega)) ?_
 refine Ev.bind (a:=false) (Ev.else rfl (Ev.bind (a4r hy (by omega)) (Ev.pure _))) ?_
 refine Ev.else rfl ?_
 obtain⟨N,hN⟩:=e4z y.natAbs x.natAbs (by omega) (by omega)
 have lg:(dig (Nat.gcd x.natAbs y.natAbs)).length<=k:=by
  rcases Nat.eq_zero_or_pos x.natAbs with h|h
  ·rw [h,Nat.gcd_zero_left];exact ly
  ·exact Nat.le_trans (a4k (Nat.gcd_le_left _ h)) lx
 refine Ev.from (g:=fun n=>(a1z n 1 (dig (Nat.gcd x.natAbs y.natAbs))).bind fun v3=>some ((⟨v3.Sign,v3.Digits⟩:Big),(0:Int))) (max N (y.natAbs+1)) (fun n hn=>hN n (by omega) _ n (by omega)) ?_
 exact Ev.bind (a8w (by omega) ((Nat.gcd x.natAbs y.natAbs:Nat):Int) (Int.natAbs_natCast _) (fun h=>(a3r (by omega)).symm)) (Ev.pure _)
theorem c3e{x y:Int}{k:Nat}(hx:Sm k x)(hy:Sm k y)(hk:k<536870912):Ev (fun n=>a7s n (toB x) (toB y)) (sg (x-y)):=by
 have lx:=a1k hx
 have ly:=a1k hy
 unfold a7s
 refine Ev.bind (a4r hx (by omega)) ?_
 refine Ev.bind (a:=false) (Ev.else rfl (Ev.bind (a4r hy (by omega)) (Ev.pure _))) ?_
 refine Ev.bind (Ev.else rfl (Ev.bind (d3t (y:=y) hx (by omega)) (Ev.pure _))) ?_
 by_cases hxy:x=y
 ·exact Ev.then (by simpa using hxy) ((Ev.pure _).eq (by rw [hxy,Int.sub_self];rfl))
 refine Ev.else (by simpa using hxy) ?_
 show Ev (fun n=>bif sg x !=sg y then(bif decide (sg x<sg y)then some (-1)else some 1)else(a6a n (dig x.natAbs) (dig y.natAbs)).bind fun v4=>bif v4==decide (0<sg x)then some (-1)else some 1) (sg (x-y))
 have hless:=d1q x.natAbs y.natAbs (by omega) (by omega)
 rcases a1d x with⟨a,b⟩|⟨a,b⟩|⟨a,b⟩<;>rcases a1d y with⟨c,d⟩|⟨c,d⟩|⟨c,d⟩<;>rw [b,d]
 ·refine Ev.else rfl (Ev.bind hless ?_)
  by_cases h:x.natAbs<y.natAbs
  ·rw [decide_eq_true h,a3r (by omega)];exact Ev.pure _
  ·rw [decide_eq_false h,a3z (by omega)];exact Ev.pure _
 ·rw [a3z (by omega)];exact Ev.pure _
 ·rw [a3z (by omega)];exact Ev.pure _
 ·rw [a3r (by omega)];exact Ev.pure _
 ·omega
 ·rw [a3z (by omega)];exact Ev.pure _
 ·rw [a3r (by omega)];exact Ev.pure _
 ·rw [a3r (by omega)];exact Ev.pure _
 ·refine Ev.else rfl (Ev.bind hless ?_)
  by_cases h:x.natAbs<y.natAbs
  ·rw [decide_eq_true h,a3z (by omega)];exact Ev.pure _
  ·rw [decide_eq_false h,a3r (by omega)];exact Ev.pure _
end Go.Proofs.YthaegflpecbfgaaGreatDoor.D
namespace Go.Proofs.YthaegflpecbfgaaGreatDoor.D
open Go Rt M
theorem e5y{s:Int}(hs:s=1∨s=-1)(u:Nat):rem (s*u) 1048576=some (s*((u %1048576:Nat):Int)):=by
 have h:=c2c (x:=(u:Int)) (y:=1048576) (by omega) (by decide)
 rcases hs with rfl|rfl
 ·rw [Int.one_mul,Int.one_mul,h];congr 1
 ·unfold rem at h⊢
  rw [if_neg (by decide)]at h⊢
  have h2:=Option.some.inj h
  rw [show(-1:Int)*(u:Int)=-(u:Int) by omega,Int.neg_tmod,h2]
  congr 1;omega
theorem e5r{s:Int}(hs:s=1∨s=-1){u:Nat}(hu:u<=9223372036854775808):quo .i64 (s*u) 1048576=some (s*((u/1048576:Nat):Int)):=by
 have h:(u:Int).tdiv 1048576=((u/1048576:Nat):Int):=by rw [Int.tdiv_eq_ediv_of_nonneg (by omega)];omega
 unfold quo
 rw [if_neg (by decide)]
 rcases hs with rfl|rfl
 ·rw [Int.one_mul,Int.one_mul,h,a5k (by omega) (by omega)]
 ·rw [show(-1:Int)*(u:Int)=-(u:Int) by omega,Int.neg_tdiv,h,a5k (by omega) (by omega)]
  congr 1;omega
theorem e4p(n:Nat)(kont:List Int->Option Big){s:Int}(hs:s=1∨s=-1):∀(u m:Nat)(acc:List Int),u<=9223372036854775808->(dig u).length<m->acc.length+(dig u).length<1099511627776->b0e n kont m (s*(u:Int)) acc=kont (acc++dig u):=by
 intro u
 induction u using Nat.strongRecOn with
 |ind u ih=>
  intro m acc hu hm ha
  obtain⟨m,rfl⟩:∃m',m=m'+1:=⟨m-1,by omega⟩
  unfold b0e
  by_cases h:u=0
  ·subst h
   rw [dig_zero,List.append_nil,show(s*((0:Nat):Int) !=0)=false by simp];rfl
  ·have hd:=b4w h
   rw [hd]at hm ha
   simp only [List.length_cons]at hm ha
   have hne:(s*(u:Int) !=0)=true:=by
    rw [bne_iff_ne];rcases hs with rfl|rfl<;>omega
   rw [hne,cond_true,e5y hs,Option.bind_some]
   have e1:(bif decide (s*((u %1048576:Nat):Int)<0)then some (IntKind.i64.wrap (0-s*((u %1048576:Nat):Int)))else some (s*((u %1048576:Nat):Int)))=some ((u %1048576:Nat):Int):=by
    have hlt:=Nat.mod_lt u (show 1048576>0 by decide)
    generalize u %1048576=r at*
    by_cases hn:s*(r:Int)<0
    ·rw [decide_eq_true hn,cond_true]
     congr 1
     rcases hs with rfl|rfl
     ·omega
     ·rw [a5k (by omega) (by omega)];omega
    ·rw [decide_eq_false hn,cond_false]
     congr 1
     rcases hs with rfl|rfl<;>omega
   rw [e1,Option.bind_some,c0e (by simp;omega),Option.bind_some,e5r hs hu,Option.bind_some,ih (u/1048576) (by omega) m _ (by omega) (by omega) (by simp;omega),hd]
   simp
theorem d4h{x:Int}(h1:-9223372036854775808<=x)(h2:x<=9223372036854775807):Ev (fun n=>b2a n x) (toB x):=by
 have hl:=c0h (u:=x.natAbs) (by omega)
 by_cases h0:x=0
 ·subst h0
  exact(Ev.pure _).eq toB_zero.symm
 have hm:∀s:Int,s=sg x->Ev (fun n=>(a1z n s (dig x.natAbs)).bind fun v1=>some (⟨v1.Sign,v1.Digits⟩:Big)) (toB x):=fun s hs=>Ev.bind (a8w (by omega) x rfl (fun _=>hs)) (Ev.pure _)
 refine Ev.from (g:=fun n=>(a1z n (sg x) (dig x.natAbs)).bind fun v1=>some (⟨v1.Sign,v1.Digits⟩:Big)) 5 (fun n hn=> ?_) (hm _ rfl)
 show b2a n x=_
 unfold b2a
 rw [show(x==0)=false from beq_false_of_ne h0,cond_false]
 by_cases hx:x<0
 ·rw [decide_eq_true hx,cond_true,Option.bind_some,a3z hx]
  have h3:=e4p n (fun(l2:List Int)=>(a1z n (-1) l2).bind fun v1=>some (⟨v1.Sign,v1.Digits⟩:Big)) (s:=-1) (.inr rfl) x.natAbs n [] (by omega) (by omega) (by simp;omega)
  rw [show(-1:Int)*(x.natAbs:Int)=x by omega,List.nil_append]at h3
  exact h3
 ·rw [decide_eq_false hx,cond_false,Option.bind_some,a3r (by omega)]
  have h3:=e4p n (fun(l2:List Int)=>(a1z n 1 l2).bind fun v1=>some (⟨v1.Sign,v1.Digits⟩:Big)) (s:=1) (.inl rfl) x.natAbs n [] (by omega) (by omega) (by simp;omega)
  rw [show(1:Int)*(x.natAbs:Int)=x by omega,List.nil_append]at h3
  exact h3
end Go.Proofs.YthaegflpecbfgaaGreatDoor.D
namespace Go.Proofs.YthaegflpecbfgaaGreatDoor.D
open Go Rt M
theorem d2k{f:Big}{k:Nat}(h:f.Digits.length<=k)(hk:k<8388608):Ev (fun n=>a1x n f) (a9h f):=c8n (by omega)
theorem b5g{f:Frac}{k:Nat}(hp:f.P.Digits.length<=k)(hq:f.Q.Digits.length<=k)(hk:k<8388608):Ev (fun n=>a2j n f) (a5r f):=by
 unfold a2j
 refine Ev.bind (d2k (f:=f.P) hp hk) ?_
 cases hP:a9h f.P with
 |false=>exact Ev.bind (a:=true) (Ev.then rfl (Ev.pure _)) (Ev.bind (a:=true) (Ev.then rfl (Ev.pure _)) (Ev.then rfl ((Ev.pure _).eq (by unfold a5r;rw [hP];rfl))))
 |true=>
  refine Ev.bind (a:= !a9h f.Q) (Ev.else rfl (Ev.bind (d2k (f:=f.Q) hq hk) (Ev.pure _))) ?_
  cases hQ:a9h f.Q with
  |false=>exact Ev.bind (a:=true) (Ev.then rfl (Ev.pure _)) (Ev.then rfl ((Ev.pure _).eq (by unfold a5r;rw [hP,hQ];rfl)))
  |true=>
   obtain⟨P,Q⟩:=f
   obtain⟨p,rfl⟩:=a8s hP
   obtain⟨q,rfl⟩:=a8s hQ
   have hp':Sm k p:=a4a hp
   have hq':Sm k q:=a4a hq
   refine Ev.bind (a:=decide (sg q<1)) (Ev.else rfl (Ev.pure _)) ?_
   by_cases hs:0<q
   ·refine Ev.else (by rw [a3r hs];rfl) ?_
    have hg:=c6r hp' hq'
    refine Ev.bind (d7g hp' hq' hk) ?_
    refine Ev.bind (d4h (x:=1) (by decide) (by decide)) ?_
    refine Ev.bind (c3e (k:=k+1) (hg.mono (by omega)) (sm01 (by decide) (by decide) (by omega)) (by omega)) ((Ev.pure _).eq ?_)
    unfold a5r
    have hs1:(toB q).Sign=1:=a3r hs
    rw [hP,hQ,b2t,b2t,hs1]
    have e:(sg ((Nat.gcd p.natAbs q.natAbs:Nat)-1:Int)==0)=decide (((Nat.gcd p.natAbs q.natAbs:Nat):Int)-1=0):=b7b _
    rw [e]
    by_cases hg:Nat.gcd p.natAbs q.natAbs=1
    ·rw [hg];rfl
    ·rw [decide_eq_false (by omega)];simp [hg]
   ·refine Ev.then (by
     have:=a1d q
     exact decide_eq_true (by omega)) ((Ev.pure _).eq ?_)
    unfold a5r
    have hs1:((toB q).Sign==1)=false:=by
     have h1:(toB q).Sign=sg q:=rfl
     have:=a1d q
     rw [h1,beq_eq_false_iff_ne];omega
    rw [hP,hQ,hs1];rfl
theorem a9u{r:Rat}{k:Nat}(h:SmF k r)(hk:k<8388608):Ev (fun n=>a2j n (toF r)) true:=(b5g (b9m h).1 (b9m h).2 hk).eq (b9s r)
section
variable{p q:Int}{k:Nat}(hp:Sm k p)(hq:Sm k q)(hk:k<8388608)
include hp hq hk
theorem c7x(h0:0<q):Ev (fun n=>
 (b1h n (⟨(toB p).Sign,(toB p).Digits⟩:Big) (⟨(toB q).Sign,(toB q).Digits⟩:Big)).bind fun v3=>
 (b0m n (⟨(toB p).Sign,(toB p).Digits⟩:Big) (⟨v3.1.Sign,v3.1.Digits⟩:Big)).bind fun v4=>
 (b0m n (⟨(toB q).Sign,(toB q).Digits⟩:Big) (⟨v3.1.Sign,v3.1.Digits⟩:Big)).bind fun v5=>
 some ((⟨(⟨v4.1.Sign,v4.1.Digits⟩:Big),(⟨v5.1.Sign,v5.1.Digits⟩:Big)⟩:Frac),(0:Int))) (toF (Rat.divInt p q),0):=by
 have hg:0<Nat.gcd p.natAbs q.natAbs:=Nat.gcd_pos_of_pos_right _ (by omega)
 have hgs:=c6r hp hq
 obtain⟨e1,e2⟩:=b6d (p:=p) h0
 refine Ev.bind (d7g hp hq hk) ?_
 refine Ev.bind (d3n hp hgs hk (by omega)) ?_
 refine Ev.bind (d3n hq hgs hk (by omega)) ((Ev.pure _).eq ?_)
 unfold toF
 rw [e1,e2,<-d2o (by omega),<-d2o (by omega)]
theorem c9w(h0:q≠0):Ev (fun n=>b1g n (toB p) (toB q)) (toF (Rat.divInt p q),0):=by
 unfold b1g
 refine Ev.bind (a4r hp (by omega)) ?_
 refine Ev.bind (a:=false) (Ev.else rfl (Ev.bind (a4r hq (by omega)) (Ev.pure _))) ?_
 refine Ev.else rfl ?_
 refine Ev.else (by show(sg q==0)=false;rw [b7b];simpa using h0) ?_
 by_cases hn:q<0
 ·refine Ev.bind (Ev.then (by show decide (sg q<0)=true;rw [a3z hn];rfl) (Ev.bind (d3s hp (by omega)) (Ev.bind (d3s hq (by omega)) (Ev.pure _)))) ?_
  rw [b7k]
  exact c7x hp.neg hq.neg hk (by omega)
 ·refine Ev.bind (Ev.else (by show decide (sg q<0)=false;rw [a3r (by omega)];rfl) (Ev.pure _)) ?_
  exact c7x hp hq hk (by omega)
end
section
variable{a b:Rat}{j k:Nat}(ha:SmF j a)(hb:SmF k b)(hk:j+k<4000000)
include ha hb hk
theorem rmul_PQ:Ev (fun n=>a5g n (⟨(toF a).P.Sign,(toF a).P.Digits⟩:Big) (⟨(toF b).Q.Sign,(toF b).Q.Digits⟩:Big)) (toB (a.num*b.den),0):=
 d0j (ha.1.mono (by omega:j<=j+k)) (hb.2.mono (by omega:k<=j+k)) (by omega)
theorem rmul_PP:Ev (fun n=>a5g n (⟨(toF a).P.Sign,(toF a).P.Digits⟩:Big) (⟨(toF b).P.Sign,(toF b).P.Digits⟩:Big)) (toB (a.num*b.num),0):=
 d0j (ha.1.mono (by omega:j<=j+k)) (hb.1.mono (by omega:k<=j+k)) (by omega)
theorem rmul_QQ:Ev (fun n=>a5g n (⟨(toF a).Q.Sign,(toF a).Q.Digits⟩:Big) (⟨(toF b).Q.Sign,(toF b).Q.Digits⟩:Big)) (toB ((a.den:Int)*b.den),0):=
 d0j (ha.2.mono (by omega:j<=j+k)) (hb.2.mono (by omega:k<=j+k)) (by omega)
theorem QAdd_ev:Ev (fun n=>a7h n (toF a) (toF b)) (toF (a+b),0):=by
 have m1:Sm (j+k+1) (a.num*b.den):=(ha.1.mul hb.2).mono (by omega)
 have m2:Sm (j+k+1) (b.num*a.den):=(hb.1.mul ha.2).mono (by omega)
 have m3:Sm (j+k+1) ((a.den:Int)*b.den):=(ha.2.mul hb.2).mono (by omega)
 have m4:Sm (j+k+1) (a.num*b.den+b.num*a.den):=(ha.1.mul hb.2).add ((hb.1.mul ha.2).mono (by omega))
 unfold a7h
 refine Ev.bind (a9u ha (by omega)) ?_
 refine Ev.bind (a:=false) (Ev.else rfl (Ev.bind (a9u hb (by omega)) (Ev.pure _))) ?_
 refine Ev.else rfl ?_
 refine Ev.bind (rmul_PQ ha hb hk) (Ev.bind (rmul_PQ hb ha (by omega)) (Ev.bind (rmul_QQ ha hb hk) ?_))
 refine Ev.bind (e2v m1 m2 (by omega)) ?_
 refine Ev.bind (c9w m4 m3 (by omega) (c4t (b4n a) (b4n b))) ((Ev.pure _).eq ?_)
 rw [c9k]
theorem QMul_ev:Ev (fun n=>a8g n (toF a) (toF b)) (toF (a*b),0):=by
 unfold a8g
 refine Ev.bind (a9u ha (by omega)) ?_
 refine Ev.bind (a:=false) (Ev.else rfl (Ev.bind (a9u hb (by omega)) (Ev.pure _))) ?_
 refine Ev.else rfl ?_
 refine Ev.bind (rmul_PP ha hb hk) (Ev.bind (rmul_QQ ha hb hk) ?_)
 refine Ev.bind (c9w (ha.1.mul hb.1) (ha.2.mul hb.2) (by omega) (c4t (b4n a) (b4n b))) ((Ev.pure _).eq ?_)
 rw [c9q]
theorem QCompare_ev:Ev (fun n=>a3l n (toF a) (toF b)) (cmpQ a b):=by
 unfold a3l
 refine Ev.bind (a9u ha (by omega)) ?_
 refine Ev.bind (a:=false) (Ev.else rfl (Ev.bind (a9u hb (by omega)) (Ev.pure _))) ?_
 refine Ev.else rfl ?_
 refine Ev.bind (rmul_PQ ha hb hk) (Ev.bind (rmul_PQ hb ha (by omega)) ?_)
 exact Ev.bind (c3e (ha.1.mul hb.2) ((hb.1.mul ha.2).mono (by omega)) (by omega)) (Ev.pure _)
end
section
variable{a:Rat}{k:Nat}(ha:SmF k a)(hk:k<1000000)
include ha hk
end
theorem d9q{x y:Int}(h1:-9223372036854775808<=x)(h2:x<=9223372036854775807)(h3:-9223372036854775808<=y)(h4:y<=9223372036854775807)(h0:y≠0):Ev (fun n=>b3t n x y) (toF (Rat.divInt x y),0):=by
 have s1:Sm 4 x:=a4a (c0h (by omega))
 have s2:Sm 4 y:=a4a (c0h (by omega))
 unfold b3t
 exact Ev.bind (d4h h1 h2) (Ev.bind (d4h h3 h4) (Ev.bind (c9w s1 s2 (by decide) h0) (Ev.pure _)))
end Go.Proofs.YthaegflpecbfgaaGreatDoor.D
namespace Go.Proofs.YthaegflpecbfgaaGreatDoor.Fm
open Go Rt M Ta Tp D Fe
theorem d4v{i:Nat}(h:i<9223372036854775807):iadd .i64 (i:Int) 1=((i+1:Nat):Int):=by rw [a2n (by omega) (by omega)];omega
def e4c(k:Nat):Nat->RFm->Bool
 |_,[]=>true
 |c,l::f=>decide (c*l.length*k<=200)&&e4c k (c*l.length) f
def oppB(f:RFm):Option RFm:=if e4c f.length 1 f=true then some (opp f)else none
def e4b(n:Nat)(f:RFm)(c:Rat):Option RFm:=if c=0 then some (cst n 0)else if 0<c then some (scl c f)else(oppB f).map (scl (-c))
def e5z(o:Int)(f g:RFm):Nat:=if o=9 then sz f+sz g else if o=10 then sz f*g.length+sz g*f.length else sz f*sz g
def e6f(o:Int)(f g:RFm):RFm:=if o=9 then f++g else if o=10 then join (·++·) f g else join sums f g
def e6i(o:Int)(f g:RFm):Option RFm:=(if o=6 then oppB g else some g).bind fun g=>if e5z o f g<=200 then some (e6f o f g)else none
def mkN(names:List Rt.Bs)(o:Int)(s:Rt.Bs)(v:Rat):List (Rat×Bool)->List (Bool×Option RFm)->Bool×Option RFm
 | [va,vb],[a,b]=>if(a.1||b.1)=true then(true,if o=7 then(if a.1=true then a.2.bind fun f=>e4b names.length f vb.1 else b.2.bind fun f=>e4b names.length f va.1)else if o=8 then a.2.map (scl (1/vb.1))else a.2.bind fun f=>b.2.bind fun g=>e6i o f g)else(false,some (cst names.length v))
 | [vc,_,_],[_,a,b]=>if(a.1||b.1)=true then(true,if vc.2=true then a.2 else b.2)else(false,some (cst names.length v))
 |_,_=>if o=4 then(true,some (wgt names.length (names.idxOf s)))else(false,some (cst names.length v))
mutual
def mk(names:List Rt.Bs)(E:Fe.Env):M.Expr->Bool×Option RFm
 |⟨o,m,s,l⟩=>mkN names o s (num E ⟨o,m,s,l⟩) (vls E l) (mks names E l)
def mks(names:List Rt.Bs)(E:Fe.Env):List M.Expr->List (Bool×Option RFm)
 | []=> []
 |x::l=>mk names E x::mks names E l
 end
structure Gd(n B:Nat)(f:RFm):Prop where
 wide:Wide n f
 sm:∀p,p∈f->∀a,a∈p->SmF B a.1/\∀c,c∈a.2->SmF B c
section
variable{n A B:Nat}{f g:RFm}
theorem Gd.mono(h:Gd n A f)(hk:A<=B):Gd n B f:=⟨h.wide,fun p hp a ha=>⟨(h.sm p hp a ha).1.mono hk,fun c hc=>((h.sm p hp a ha).2 c hc).mono hk⟩⟩
theorem d6w{α:Type}{op:α->α->α}{c:α}:∀{a b:List α},c∈List.zipWith op a b->∃x y,x∈a/\y∈b/\c=op x y
 | [],_,h=>by simp at h
 |_::_,[],h=>by simp at h
 |x::a,y::b,h=>by
  rcases List.mem_cons.1 h with rfl|h
  ·exact⟨x,y,by simp,by simp,rfl⟩
  ·obtain⟨p,q,hp,hq,e⟩:=d6w h
   exact⟨p,q,by simp [hp],by simp [hq],e⟩
end
structure Is(n B:Nat)(f:RFm)(V:List Rat->Rat):Prop where
 gd:Gd n B f
 sz:sz f<=200
 val:∀ws:List Rat,ws.length=n->IsV f ws (V ws)
section
variable{n A B:Nat}{f g:RFm}{U V:List Rat->Rat}
theorem Is.ne(h:Is n B f V):f≠ []/\∀p,p∈f->p≠ []:=by
 obtain⟨h1,p,hp,_⟩:=h.val (List.replicate n 0) (by simp)
 refine⟨fun e=>(by subst e;cases hp),fun p hp e=> ?_⟩
 obtain⟨a,ha,_⟩:=h1 p hp
 subst e;cases ha
theorem len_sz:∀{f:RFm},(∀p,p∈f->p≠ [])->f.length<=Fm.sz f
 | [],_=>Nat.le_refl _
 |p::f,h=>by
  have h1:0<p.length:=List.length_pos_iff.2 (h p (by simp))
  have:=len_sz (f:=f) (fun q hq=>h q (by simp [hq]))
  show f.length+1<=p.length+Fm.sz f
  omega
theorem Is.len(h:Is n B f V):f.length<=200:=Nat.le_trans (len_sz h.ne.2) h.sz
theorem Is.mono(h:Is n A f V)(hk:A<=B):Is n B f V:=⟨h.gd.mono hk,h.sz,h.val⟩
theorem Is.to(h:Is n A f U)(hV:∀ws:List Rat,ws.length=n->V ws=U ws):Is n A f V:=⟨h.gd,h.sz,fun ws hl=>by rw [hV ws hl];exact h.val ws hl⟩
end
section
variable{names:List Rt.Bs}{fc:Facts}(hf:RF names fc (List.replicate names.length 0))(hn:names.length<4611686018427387904)
include hf hn
end
end Go.Proofs.YthaegflpecbfgaaGreatDoor.Fm
namespace Go.Proofs.YthaegflpecbfgaaGreatDoor.Rt
open Go
section
variable{α β σ ρ κ:Type}{xs:List α}{h:α->β}
theorem d3e{L:Nat->κ->Nat->Int->σ->Option ρ}(fin:κ->σ->Option ρ)(Inv:List α->σ->Prop)(Ex:ρ->Prop)
 (hb:∀p x q s,xs=p++x::q->Inv p s->(∃s',Inv (p++ [x]) s'/\∃N,∀n K m,N<=n->L n K (m+1) (p.length:Int) s=L n K m ((p.length+1:Nat):Int) s')∨(∃r,Ex r/\∃N,∀n K m,N<=n->L n K (m+1) (p.length:Int) s=some r))
 (he:∀s,Inv xs s->∃N,∀n K m,N<=n->L n K (m+1) (xs.length:Int) s=fin K s) {s0:σ} (h0:Inv [] s0):(∃s',Inv xs s'/\∃N,∀n K,N<=n->L n K n 0 s0=fin K s')∨(∃r,Ex r/\∃N,∀n K,N<=n->L n K n 0 s0=some r):=by
 have go:∀q p s,xs=p++q->Inv p s->(∃s',Inv xs s'/\∃N,∀n K m,N<=n->q.length<m->L n K m (p.length:Int) s=fin K s')∨(∃r,Ex r/\∃N,∀n K m,N<=n->q.length<m->L n K m (p.length:Int) s=some r):=by
  intro q
  induction q with
  |nil=>
   intro p s hx hp
   rw [List.append_nil]at hx
   subst hx
   obtain⟨N,e⟩:=he s hp
   refine .inl ⟨s,hp,N,fun n K m hn hm=> ?_⟩
   obtain⟨m,rfl⟩:∃j,m=j+1:=⟨m-1,by simp only [List.length_nil]at hm;omega⟩
   exact e n K m hn
  |cons x q ih=>
   intro p s hx hp
   rcases hb p x q s hx hp with⟨s',hi,N1,e1⟩|⟨r,hr,N1,e1⟩
   ·rcases ih (p++ [x]) s' (by rw [hx];simp) hi with⟨s2,hi2,N2,e2⟩|⟨r,hr,N2,e2⟩
    ·refine .inl ⟨s2,hi2,max N1 N2,fun n K m hn hm=> ?_⟩
     obtain⟨m,rfl⟩:∃j,m=j+1:=⟨m-1,by simp only [List.length_cons]at hm;omega⟩
     rw [e1 n _ _ (by omega)]
     have:=e2 n K m (by omega) (by simp only [List.length_cons]at hm;omega)
     rwa [List.length_append,List.length_singleton]at this
    ·refine .inr ⟨r,hr,max N1 N2,fun n K m hn hm=> ?_⟩
     obtain⟨m,rfl⟩:∃j,m=j+1:=⟨m-1,by simp only [List.length_cons]at hm;omega⟩
     rw [e1 n _ _ (by omega)]
     have:=e2 n K m (by omega) (by simp only [List.length_cons]at hm;omega)
     rwa [List.length_append,List.length_singleton]at this
   ·refine .inr ⟨r,hr,N1,fun n K m hn hm=> ?_⟩
    obtain⟨m,rfl⟩:∃j,m=j+1:=⟨m-1,by simp only [List.length_cons]at hm;omega⟩
    rw [e1 n _ _ (by omega)]
 rcases go xs [] s0 rfl h0 with⟨s',hi,N,e⟩|⟨r,hr,N,e⟩
 ·exact .inl ⟨s',hi,N+xs.length+1,fun n K hn=>e n K n (by omega) (by omega)⟩
 ·exact .inr ⟨r,hr,N+xs.length+1,fun n K hn=>e n K n (by omega) (by omega)⟩
theorem lpR(hl:xs.length<=9223372036854775807){L:Nat->(σ->Option ρ)->Nat->Int->σ->Option ρ}{B:Nat->Int->β->σ->(σ->Option ρ)->Option ρ}
 (hs:∀n K m i s,L n K (m+1) i s=bif decide (i<(xs.length:Int))then(ix (xs.map h) i).bind fun x=>B n i x s (L n K m (iadd .i64 i 1))else K s)
 (Inv:List α->σ->Prop) (Ex:ρ->Prop)
 (hb:∀p x q s,xs=p++x::q->Inv p s->(∃s',Inv (p++ [x]) s'/\∃N,∀n k,N<=n->B n (p.length:Int) (h x) s k=k s')∨(∃r,Ex r/\∃N,∀n k,N<=n->B n (p.length:Int) (h x) s k=some r))
 {s0:σ} (h0:Inv [] s0):(∃s',Inv xs s'/\∃N,∀n K,N<=n->L n K n 0 s0=K s')∨(∃r,Ex r/\∃N,∀n K,N<=n->L n K n 0 s0=some r):=by
 refine d3e (κ:=σ->Option ρ) (fun K s=>K s) Inv Ex (fun p x q s hx hp=> ?_) (fun s _=>⟨0,fun n K m _=>by rw [hs,decide_eq_false (by omega)];rfl⟩) h0
 have hlen:xs.length=p.length+(q.length+1):=by rw [hx,List.length_append,List.length_cons]
 have hix:ix (xs.map h) (p.length:Int)=some (h x):=by
  rw [hx,List.map_append,List.map_cons]
  exact a4x _ _ _ (by rw [List.length_map])
 have one:∀n K m,L n K (m+1) (p.length:Int) s=B n (p.length:Int) (h x) s (L n K m ((p.length+1:Nat):Int)):=by
  intro n K m
  rw [hs,decide_eq_true (by omega),hix,show iadd .i64 (p.length:Int) 1=((p.length+1:Nat):Int)from(a2n (by omega) (by omega)).trans (by omega)];rfl
 rcases hb p x q s hx hp with⟨s',hi,N1,e1⟩|⟨r,hr,N1,e1⟩
 ·exact .inl ⟨s',hi,N1,fun n K m hn=>by rw [one,e1 n _ hn]⟩
 ·exact .inr ⟨r,hr,N1,fun n K m hn=>by rw [one,e1 n _ hn]⟩
theorem d8y(hl:xs.length<=9223372036854775807){L:Nat->(σ->Option ρ)->Nat->Int->σ->Option ρ}{B:Nat->Int->β->σ->(σ->Option ρ)->Option ρ}
 (hs:∀n K m i s,L n K (m+1) i s=bif decide (i<(xs.length:Int))then(ix (xs.map h) i).bind fun x=>B n i x s (L n K m (iadd .i64 i 1))else K s)
 (F:List α->σ) (hb:∀p x q,xs=p++x::q->∃N,∀n k,N<=n->B n (p.length:Int) (h x) (F p) k=k (F (p++ [x]))) {s0:σ} (h0:F []=s0):∃N,∀n K,N<=n->L n K n 0 s0=K (F xs):=by
 subst h0
 rcases lpR hl hs (fun p s=>s=F p) (fun _=>False) (fun p x q s hx hp=> .inl ⟨_,rfl,by subst hp;exact hb p x q hx⟩) rfl with⟨s',rfl,h⟩|⟨r,hr,_⟩
 ·exact h
 ·exact hr.elim
end
section
variable{σ ρ:Type}
theorem e1t{L:Nat->(σ->Option ρ)->Option ρ}{s:σ}{K:Nat->σ->Option ρ}{r:ρ}(h:∃N,∀n k,N<=n->L n k=k s)(hk:Ev (fun n=>K n s) r):Ev (fun n=>L n (K n)) r:=by
 obtain⟨N,e⟩:=h
 exact Ev.from N (fun n hn=>e n _ hn) hk
end
end Go.Proofs.YthaegflpecbfgaaGreatDoor.Rt
namespace Go.Proofs.YthaegflpecbfgaaGreatDoor.Fm
open Go Rt M Ta Tp D Fe
def toA(a:RA):Affine:=⟨toF a.1,a.2.map toF⟩
def toP(p:List RA):List Affine:=p.map toA
def toFm(f:RFm):M.Form:=⟨f.map toP⟩
def SmA(B:Nat)(a:RA):Prop:=SmF B a.1/\∀c,c∈a.2->SmF B c
theorem d5g{a:RA}(hl:a.2.length<=1000000){F:Nat->Int->Frac->Option Frac}{c:Rat}(hc:Ev (fun n=>F n (-1) (toF a.1)) (toF c))(G:List Rat->List Rat)(h0:G []= [])
 (hG:∀p x q,a.2=p++x::q->∃y,Ev (fun n=>F n (p.length:Int) (toF x)) (toF y)/\G (p++ [x])=G p++ [y]/\(G p).length<=p.length):Ev (fun n=>a7i n (toA a) (F n)) (toA (c,G a.2)):=by
 unfold a7i
 refine Ev.bind hc ?_
 refine e1t (L:=fun n K=>minmax_affine_L1 n (toA a) (F n) K n 0 ([]:List Frac)) (s:=(G a.2).map toF) (K:=fun _ l2=>some (⟨toF c,l2⟩:Affine)) ?_ (Ev.pure _)
 refine d8y (xs:=a.2) (h:=toF) (by omega) (L:=fun n K m i s=>minmax_affine_L1 n (toA a) (F n) K m i s) (B:=fun n i x s k=>(F n i x).bind fun v2=>(app 64 s [v2]).bind k) (fun n K m i s=> ?_) (fun p=>(G p).map toF) (fun p x q hx=> ?_) (by rw [h0];rfl)
 ·rw [minmax_affine_L1_s];simp only [toA,List.length_map]
 ·obtain⟨y,⟨N,hN⟩,hy,hlen⟩:=hG p x q hx
  dsimp only at hN
  have h5:p.length<=1000000:=by rw [hx,List.length_append]at hl;omega
  refine⟨N,fun n k hn=> ?_⟩
  rw [hN n hn,Option.bind_some,c4h (by simp only [List.length_map,List.length_singleton];omega),Option.bind_some,hy,List.map_append];rfl
theorem c8g{j k:Nat}{a b:Rat}(ha:SmF j a)(hb:SmF k b)(hk:j+k<4000000)(i:Int):Ev (fun n=>a5l n i (toF a) (toF b)) (toF (a*b)):=by
 unfold a5l
 exact Ev.bind (FMul_ev ha hb hk) (Ev.pure _)
theorem c0u{A B:Nat}{a:RA}{b:Rat}(ha:SmA A a)(hb:SmF B b)(hk:A+B<4000000)(hl:a.2.length<=1000000):Ev (fun n=>a8r n (toA a) (toF b)) (toA (mulA b a)):=by
 unfold a8r
 refine Ev.bind (d5g hl (F:=fun n q0 q1=>a5l n q0 q1 (toF b)) (c:=a.1*b) (c8g ha.1 hb hk _) (fun p=>p.map (·*b)) rfl (fun p x q hx=>⟨x*b,c8g (ha.2 x (by rw [hx];simp)) hb hk _,by simp,by simp⟩)) (Ev.pure _)
theorem d1k{α:Type}{l:List α}{k:Nat}(h:k<l.length):∃p y q,l=p++y::q/\p.length=k:=by
 refine⟨l.take k,l[k],l.drop (k+1),?_,by rw [List.length_take];omega⟩
 rw [<-List.drop_eq_getElem_cons h,List.take_append_drop]
theorem d1w{α:Type}{op:α->α->α}:∀{p p2:List α}{x y:α}{q2:List α},p2.length=p.length->List.zipWith op (p++ [x]) (p2++y::q2)=List.zipWith op p (p2++y::q2)++ [op x y]
 | [],[],x,y,q2,_=>rfl
 |a::p,b::p2,x,y,q2,h=>by
  show op a b::List.zipWith op (p++ [x]) (p2++y::q2)=op a b::(List.zipWith op p (p2++y::q2)++ [op x y])
  rw [d1w (by simpa using h)]
 | [],_::_,_,_,_,h=>by simp at h
 |_::_,[],_,_,_,h=>by simp at h
theorem gdA{n B:Nat}{f:RFm}(h:Gd n B f){p:List RA}(hp:p∈f){a:RA}(ha:a∈p):SmA B a:=h.sm p hp a ha
end Go.Proofs.YthaegflpecbfgaaGreatDoor.Fm
namespace Go.Proofs.YthaegflpecbfgaaGreatDoor.Fm
open Go Rt M Ta Tp D Fe
section
variable{f g:RFm}{op:List RA->List RA->List RA}{P:Nat->List Affine->List Affine->Option (List Affine)}
theorem d4z(x:List RA)(hg:g.length<=1000)(hP:∀y,y∈g->Ev (fun n=>P n (toP x) (toP y)) (toP (op x y))){s0:RFm}(hs0:s0.length<=1000000):
 ∃N,∀n K,N<=n->minmax_join_L2 n (P n) (g.map toP) (toP x) K n 0 (s0.map toP)=K ((s0++g.map (op x)).map toP):=by
 refine d8y (xs:=g) (h:=toP) (by omega) (L:=fun n K m i s=>minmax_join_L2 n (P n) (g.map toP) (toP x) K m i s) (B:=fun n i y s k=>(P n (toP x) y).bind fun v1=>(app 24 s [v1]).bind k) (fun n K m i s=> ?_) (fun p=>(s0++p.map (op x)).map toP) (fun p y q hx=> ?_) (by simp)
 ·rw [minmax_join_L2_s];simp only [List.length_map]
 ·have h5:p.length<=1000:=by rw [hx,List.length_append]at hg;omega
  obtain⟨N,hN⟩:=hP y (by rw [hx];simp)
  dsimp only at hN
  refine⟨N,fun n k hn=> ?_⟩
  rw [hN n hn,Option.bind_some,c4h (by simp only [List.length_map,List.length_append,List.length_singleton];omega),Option.bind_some]
  simp only [List.map_append,List.map_cons,List.map_nil,List.append_assoc]
theorem b5s(hf:f.length<=1000)(hg:g.length<=1000)(hP:∀x,x∈f->∀y,y∈g->Ev (fun n=>P n (toP x) (toP y)) (toP (op x y))):Ev (fun n=>a5p n (toFm f) (toFm g) (P n)) (toFm (join op f g)):=by
 unfold a5p
 refine e1t (L:=fun n K=>minmax_join_L1 n (toFm f) (P n) (fun l _=>K l) n 0 ([]:List (List Affine)) [] (g.map toP)) (s:=(join op f g).map toP) (K:=fun _ l2=>some (⟨l2⟩:M.Form)) ?_ (Ev.pure _)
 refine d8y (xs:=f) (h:=toP) (by omega) (L:=fun n K m i s=>minmax_join_L1 n (toFm f) (P n) (fun l _=>K l) m i s [] (g.map toP)) (B:=fun n i x s k=>minmax_join_L2 n (P n) (g.map toP) x k n 0 s) (fun n K m i s=> ?_) (fun p=>(join op p g).map toP) (fun p x q hx=> ?_) rfl
 ·rw [minmax_join_L1_s];simp only [toFm,List.length_map]
 ·have h5:p.length<=1000:=by rw [hx,List.length_append]at hf;omega
  have h6:(join op p g).length<=1000000:=by rw [d0w];exact Nat.le_trans (Nat.mul_le_mul h5 hg) (by decide)
  obtain⟨N,hN⟩:=d4z (op:=op) x hg (hP x (by rw [hx];simp)) h6
  refine⟨N,fun n k hn=> ?_⟩
  rw [hN n _ hn]
  unfold join
  simp only [List.flatMap_append,List.flatMap_cons,List.flatMap_nil,List.append_nil]
end
structure Gb(nn B:Nat)(g:RFm):Prop where
 gd:Gd nn B g
 sz:Fm.sz g<=200
 len:g.length<=200
theorem Gb.mono{nn A B:Nat}{g:RFm}(h:Gb nn A g)(hk:A<=B):Gb nn B g:=⟨h.gd.mono hk,h.sz,h.len⟩
theorem Is.gb{nn B:Nat}{g:RFm}{V:List Rat->Rat}(h:Is nn B g V):Gb nn B g:=⟨h.gd,h.sz,h.len⟩
section
variable{names:List Rt.Bs}{fc:Facts}{A B:Nat}{f g:RFm}
theorem a1d(c:Rat):(c=0/\sg c.num=0)∨(0<c/\sg c.num=1)∨(c<0/\sg c.num=-1):=by
 rw [e4x]
 rcases b2z c 0 with⟨h1,h2⟩|⟨h1,h2⟩|⟨h1,h2⟩
 ·exact .inr (.inr ⟨h1,h2⟩)
 ·exact .inl ⟨h1,h2⟩
 ·exact .inr (.inl ⟨h1,h2⟩)
end
end Go.Proofs.YthaegflpecbfgaaGreatDoor.Fm
namespace Go.Proofs.YthaegflpecbfgaaGreatDoor.Fm
open Go Rt M Ta Tp D Fe
def rat(f:Frac):Rat:=Rat.divInt (ofB f.P) (ofB f.Q)
theorem d0l(r:Rat):rat (toF r)=r:=by
 unfold rat toF
 rw [b2t,b2t]
 exact Rat.num_divInt_den r
theorem b7p{f:Frac}(h:a5r f=true):toF (rat f)=f:=by
 obtain⟨r,rfl⟩:=b8u h
 rw [d0l]
def LimF(k:Nat)(w:Frac):Prop:=w.P.Digits.length<=k/\w.Q.Digits.length<=k
theorem b6w{f:Frac}{k:Nat}(hl:LimF k f)(h:a5r f=true):SmF k (rat f):=by
 obtain⟨r,rfl,hs⟩:=d9l hl h
 rw [d0l];exact hs
def decA(a:Affine):RA:=(rat a.Const,a.Coefs.map rat)
def decX(x:M.Form):RFm:=x.Pieces.map (·.map decA)
theorem ratW(ws:List Rat):(ws.map toF).map rat=ws:=by rw [List.map_map,show rat∘toF=id from funext fun x=>d0l x,List.map_id]
def badC(c:Frac):Bool:= !a5r c
def oddA(k:Int)(a:Affine):Bool:=(badC a.Const||((a.Coefs.length:Int) !=k))||a.Coefs.any badC
def badL(k:Int)(l:List Affine):Bool:=((l.length:Int)==0)||l.any (oddA k)
def c4g(x:M.Form)(k:Int):Bool:=decide (0<(x.Pieces.length:Int))&& !(x.Pieces.any (badL k))
def b4u(x:M.Form)(weights:List Frac):Bool:=weights.any badC|| !c4g x (weights.length:Int)
structure LimX(k:Nat)(x:M.Form):Prop where
 len:x.Pieces.length<=1000
 lens:∀l,l∈x.Pieces->l.length<=9223372036854775807
 coefs:∀l,l∈x.Pieces->∀a,a∈l->a.Coefs.length<=1000
 con:∀l,l∈x.Pieces->∀a,a∈l->LimF k a.Const
 lim:∀l,l∈x.Pieces->∀a,a∈l->Lim k a.Coefs
theorem orE{c d:Bool}{x:Nat->Option Bool}(h:c=false->Ev x d):Ev (fun n=>bif c then some true else x n) (c||d):=by
 cases c
 ·exact Ev.else rfl (h rfl)
 ·exact Ev.then rfl (Ev.pure _)
section
variable{k:Nat}(hk:k<4000000)
include hk
theorem d5v{c:Frac}(h:LimF k c):Ev (fun n=>a4n n c) (badC c):=by
 unfold a4n
 exact Ev.bind (c3m h.1 h.2 (by omega)) (Ev.pure _)
theorem d7z{c:Frac}(h:LimF k c):Ev (fun n=>a8m n c) (badC c):=by
 unfold a8m
 exact Ev.bind (c3m h.1 h.2 (by omega)) (Ev.pure _)
omit hk in
theorem d4a{l:List Affine}(hl:l.length<=9223372036854775807)(F:Nat->Affine->Option Bool)(p:Affine->Bool)(hF:∀y,y∈l->Ev (fun n=>F n y) (p y)):Ev (fun n=>a1h n l (F n)) (l.any p):=by
 have L:=lpR (xs:=l) (h:=id) (σ:=Unit) (ρ:=Int) (by omega) (L:=fun n K m i _=>slices_IndexFunc_api_Affine_api_Affine_L1 n l (F n) (K ()) m i) (B:=fun n i x _ k=>(F n x).bind fun v1=>bif v1 then some i else k ()) (fun n K m i s=>by rw [slices_IndexFunc_api_Affine_api_Affine_L1_s,List.map_id]) (fun q _=>q.any p=false) (fun r=>0<=r/\l.any p=true) (fun q x q2 s hx hi=> ?_) (s0:=()) rfl
 ·unfold a1h a2b
  rcases L with⟨_,h1,N,L⟩|⟨r,⟨h0,h1⟩,N,L⟩
  ·refine Ev.bind (a:=-1) ⟨N,fun n hn=>L n (fun _=>some (-1)) hn⟩ ((Ev.pure _).eq (by rw [h1];rfl))
  ·refine Ev.bind (a:=r) ⟨N,fun n hn=>L n (fun _=>some (-1)) hn⟩ ((Ev.pure _).eq (by rw [h1];exact decide_eq_true h0))
 ·obtain⟨N,e⟩:=hF x (by rw [hx];simp)
  dsimp only at e
  cases hp:p x with
  |true=>exact .inr ⟨q.length,⟨by omega,by rw [hx,List.any_append,List.any_cons,hp];simp⟩,N,fun n k hn=>by rw [show(id x:Affine)=x from rfl,e n hn,hp];rfl⟩
  |false=>exact .inl ⟨(),by rw [List.any_append,hi];simp [hp],N,fun n k hn=>by rw [show(id x:Affine)=x from rfl,e n hn,hp];rfl⟩
omit hk in
theorem d7i{l:List (List Affine)}(hl:l.length<=9223372036854775807)(F:Nat->List Affine->Option Bool)(p:List Affine->Bool)(hF:∀y,y∈l->Ev (fun n=>F n y) (p y)):Ev (fun n=>a0r n l (F n)) (l.any p):=by
 have L:=lpR (xs:=l) (h:=id) (σ:=Unit) (ρ:=Int) (by omega) (L:=fun n K m i _=>slices_IndexFunc_LLapi_Affine_api_Affine_L1 n l (F n) (K ()) m i) (B:=fun n i x _ k=>(F n x).bind fun v1=>bif v1 then some i else k ()) (fun n K m i s=>by rw [slices_IndexFunc_LLapi_Affine_api_Affine_L1_s,List.map_id]) (fun q _=>q.any p=false) (fun r=>0<=r/\l.any p=true) (fun q x q2 s hx hi=> ?_) (s0:=()) rfl
 ·unfold a0r a1w
  rcases L with⟨_,h1,N,L⟩|⟨r,⟨h0,h1⟩,N,L⟩
  ·refine Ev.bind (a:=-1) ⟨N,fun n hn=>L n (fun _=>some (-1)) hn⟩ ((Ev.pure _).eq (by rw [h1];rfl))
  ·refine Ev.bind (a:=r) ⟨N,fun n hn=>L n (fun _=>some (-1)) hn⟩ ((Ev.pure _).eq (by rw [h1];exact decide_eq_true h0))
 ·obtain⟨N,e⟩:=hF x (by rw [hx];simp)
  dsimp only at e
  cases hp:p x with
  |true=>exact .inr ⟨q.length,⟨by omega,by rw [hx,List.any_append,List.any_cons,hp];simp⟩,N,fun n k hn=>by rw [show(id x:List Affine)=x from rfl,e n hn,hp];rfl⟩
  |false=>exact .inl ⟨(),by rw [List.any_append,hi];simp [hp],N,fun n k hn=>by rw [show(id x:List Affine)=x from rfl,e n hn,hp];rfl⟩
theorem e1n{a:Affine}{j:Int}(h1:LimF k a.Const)(h2:Lim k a.Coefs)(h3:a.Coefs.length<=1000):Ev (fun n=>a5q n a j) (oddA j a):=by
 unfold a5q oddA
 refine Ev.bind (d5v hk h1) (Ev.bind (orE fun _=>Ev.pure _) (Ev.bind (orE fun _=>Ev.bind (c0f (by omega) a4n badC fun y hy=>d5v hk (h2 y hy)) (Ev.pure _)) (Ev.pure _)))
theorem d5t{x:M.Form}{j:Int}(hx:LimX k x):Ev (fun n=>b0p n x j) (c4g x j):=by
 unfold b0p c4g
 have hxl:=hx.len
 refine Ev.bind (andE (x:=fun n=>(a0r n x.Pieces (fun l=>a5n n l j)).bind fun v2=>some (!v2)) fun _=>Ev.bind (d7i (by omega) (fun n l=>a5n n l j) (badL j) fun l hl=> ?_) (Ev.pure _)) (Ev.pure _)
 unfold a5n badL
 have hll:=hx.lens l hl
 refine Ev.bind (orE fun _=>Ev.bind (d4a (by omega) (fun n a=>a5q n a j) (oddA j) fun a ha=> ?_) (Ev.pure _)) (Ev.pure _)
 exact e1n hk (hx.con l hl a ha) (hx.lim l hl a ha) (hx.coefs l hl a ha)
end
theorem b3f{α:Type}{h:α->α}:∀{l:List α},(∀y,y∈l->h y=y)->l.map h=l
 | [],_=>rfl
 |x::l,H=>by rw [List.map_cons,H x (by simp),b3f fun y hy=>H y (by simp [hy])]
theorem c8s{x:M.Form}{weights:List Frac}{A W:Nat}(hx:LimX A x)(hw:Lim W weights)(h:b4u x weights=false):
 x=toFm (decX x)/\weights=(weights.map rat).map toF/\Gd weights.length A (decX x)/\(∀w,w∈weights.map rat->SmF W w)/\decX x≠ []/\(∀p,p∈decX x->p≠ [])/\(decX x).length<=1000/\∀p,p∈decX x->p.length<=9223372036854775807:=by
 unfold b4u c4g at h
 simp only [Bool.or_eq_false_iff,Bool.not_eq_false',Bool.and_eq_true,decide_eq_true_eq,Bool.not_eq_true']at h
 obtain⟨h1,h2,h3⟩:=h
 rw [List.any_eq_false]at h1 h3
 have hW:∀w,w∈weights->a5r w=true:=fun w hw=>by have:=h1 w hw;simpa [badC]using this
 have hL:∀l,l∈x.Pieces->l≠ []/\∀a,a∈l->a5r a.Const=true/\a.Coefs.length=weights.length/\∀c,c∈a.Coefs->a5r c=true:=by
  intro l hl
  have h4:=h3 l hl
  unfold badL at h4
  simp only [Bool.not_eq_true,Bool.or_eq_false_iff]at h4
  refine⟨fun e=>by rw [e]at h4;simp at h4,fun a ha=> ?_⟩
  have h5:=h4.2
  rw [List.any_eq_false]at h5
  have h6:=h5 a ha
  unfold oddA at h6
  simp only [Bool.not_eq_true,Bool.or_eq_false_iff]at h6
  obtain⟨⟨h7,h8⟩,h9⟩:=h6
  rw [List.any_eq_false]at h9
  refine⟨by simpa [badC]using h7,by simp at h8;omega,fun c hc=>by have:=h9 c hc;simpa [badC]using this⟩
 refine⟨?_,?_,?_,?_,?_,?_,?_,?_⟩
 ·obtain⟨P⟩:=x
  unfold toFm decX toP
  congr 1
  rw [List.map_map]
  refine(b3f fun l hl=> ?_).symm
  show List.map toA (List.map decA l)=l
  rw [List.map_map]
  refine b3f fun a ha=> ?_
  obtain⟨h4,h5,h6⟩:=(hL l hl).2 a ha
  show toA (decA a)=a
  unfold toA decA
  dsimp only
  rw [b7p h4,List.map_map,b3f (h:=toF∘rat) fun c hc=>b7p (h6 c hc)]
 ·rw [List.map_map]
  exact(b3f fun w hw=>b7p (hW w hw)).symm
 ·constructor
  ·intro p hp a ha
   obtain⟨l,hl,rfl⟩:=List.mem_map.1 hp
   obtain⟨b,hb,rfl⟩:=List.mem_map.1 ha
   show(b.Coefs.map rat).length=_
   rw [List.length_map];exact((hL l hl).2 b hb).2.1
  ·intro p hp a ha
   obtain⟨l,hl,rfl⟩:=List.mem_map.1 hp
   obtain⟨b,hb,rfl⟩:=List.mem_map.1 ha
   obtain⟨h4,h5,h6⟩:=(hL l hl).2 b hb
   refine⟨b6w (hx.con l hl b hb) h4,fun c hc=> ?_⟩
   obtain⟨d,hd,rfl⟩:=List.mem_map.1 hc
   exact b6w (hx.lim l hl b hb d hd) (h6 d hd)
 ·intro w hw2
  obtain⟨d,hd,rfl⟩:=List.mem_map.1 hw2
  exact b6w (hw d hd) (hW d hd)
 ·intro e
  unfold decX at e
  rw [List.map_eq_nil_iff]at e
  rw [e]at h2;simp at h2
 ·intro p hp
  obtain⟨l,hl,rfl⟩:=List.mem_map.1 hp
  rw [Ne,List.map_eq_nil_iff];exact(hL l hl).1
 ·unfold decX;rw [List.length_map];exact hx.len
 ·intro p hp
  obtain⟨l,hl,rfl⟩:=List.mem_map.1 hp
  rw [List.length_map];exact hx.lens l hl
end Go.Proofs.YthaegflpecbfgaaGreatDoor.Fm
namespace Go.Proofs.YthaegflpecbfgaaGreatDoor.Fm
open Go Rt M Ta Tp D Fe
theorem dot_snoc:∀(p:List Rat)(x:Rat)(ws:List Rat)(y:Rat),ws[p.length]?=some y->dot (p++ [x]) ws=dot p ws+x*y
 | [],x,[],y,h=>by simp at h
 | [],x,z::ws,y,h=>by
  simp only [List.length_nil,List.getElem?_cons_zero,Option.some.injEq]at h
  subst h
  show x*z+dot [] ws=0+x*z
  have:dot [] ws=0:=rfl
  rw [this,Rat.add_zero,Rat.zero_add]
 |a::p,x,[],y,h=>by simp at h
 |a::p,x,z::ws,y,h=>by
  show a*z+dot (p++ [x]) ws=a*z+dot p ws+x*y
  rw [dot_snoc p x ws y (by simpa using h),Rat.add_assoc]
def bnd(A W n:Nat):Nat:=A+n*(A+W+1)
theorem b6h{A W m n:Nat}(h:m<=n):bnd A W m<=bnd A W n:=by
 unfold bnd
 have:=Nat.mul_le_mul_right (A+W+1) h
 omega
theorem d6s(A W n:Nat):bnd A W n+(A+W)+1=bnd A W (n+1):=by
 unfold bnd
 rw [Nat.add_mul];omega
section
variable{A W:Nat}{ws:List Rat}(hw:∀w,w∈ws->SmF W w)
include hw
theorem e3r{a:RA}(ha:SmA A a)(hl:a.2.length=ws.length)(hn:ws.length<=1000)(hB:bnd A W ws.length<1000000):Ev (fun n=>a9d n (toA a) (ws.map toF)) (toF (evA ws a))/\SmF (bnd A W ws.length) (evA ws a):=by
 have L:=lpR (xs:=a.2) (h:=toF) (σ:=Frac) (ρ:=Frac) (by omega) (L:=fun n K m i s=>minmax_at_L1 n (toA a) (ws.map toF) (fun x y z u=>K ⟨⟨x,y⟩,⟨z,u⟩⟩) m i s.P.Sign s.P.Digits s.Q.Sign s.Q.Digits)
  (B:=fun n i x s k=>((ix (ws.map toF) i).bind fun ex2=>(b2i n x ex2).bind fun v2=>some (v2.1.P.Sign,v2.1.P.Digits,v2.1.Q.Sign,v2.1.Q.Digits)).bind fun(f9,f10,f11,f12)=>(b0h n s (⟨(⟨f9,f10⟩:Big),(⟨f11,f12⟩:Big)⟩:Frac)).bind fun v1=>k v1.1)
  (fun n K m i s=>by rw [minmax_at_L1_s];simp only [toA,List.length_map]) (fun p s=>s=toF (a.1+dot p ws)/\SmF (bnd A W p.length) (a.1+dot p ws)) (fun _=>False) (fun p x q s hx hi=> .inl ?_) (s0:=toF a.1) ⟨by show toF a.1=toF (a.1+0);rw [Rat.add_zero],by show SmF _ (a.1+0);rw [Rat.add_zero];exact ha.1.mono (by unfold bnd;omega)⟩
 ·rcases L with⟨s',⟨rfl,h2⟩,N,L⟩|⟨r,hr,_⟩
  ·refine⟨?_,hl▸h2⟩
   unfold a9d
   exact⟨N,fun n hn=>L n (fun s=>some s) hn⟩
  ·exact hr.elim
 ·obtain⟨rfl,h2⟩:=hi
  have hpl:p.length<ws.length:=by rw [<-hl,hx];simp
  have hy:ws[p.length]?=some ws[p.length]:=List.getElem?_eq_getElem hpl
  have hix:ix (ws.map toF) (p.length:Int)=some (toF ws[p.length]):=by rw [b4l,List.getElem?_map,hy];rfl
  have hb1:bnd A W (p.length+1)<=bnd A W ws.length:=b6h hpl
  have hbs:=d6s A W p.length
  have hx2:SmF A x:=ha.2 x (by rw [hx];simp)
  have hy2:SmF W ws[p.length]:=hw _ (List.getElem_mem hpl)
  have hA:A+W<4000000:=by omega
  obtain⟨N1,e1⟩:=FMul_ev hx2 hy2 hA
  obtain⟨N2,e2⟩:=FAdd_ev h2 (hx2.mul hy2) (by omega)
  dsimp only at e1 e2
  have hv:a.1+dot (p++ [x]) ws=a.1+dot p ws+x*ws[p.length]:=by rw [dot_snoc p x ws _ hy,Rat.add_assoc]
  refine⟨_,⟨rfl,?_⟩,max N1 N2,fun n k hn=> ?_⟩
  ·rw [hv,List.length_append,List.length_singleton,<-hbs]
   exact h2.add (hx2.mul hy2)
  ·rw [hix,Option.bind_some,e1 n (by omega)]
   show(b0h n (toF (a.1+dot p ws)) (toF (x*ws[p.length]))).bind _=_
   rw [e2 n (by omega),hv];rfl
def Gr(l:List RA)(ws:List Rat)(v:Rat):Prop:=(∃a,a∈l/\v<=evA ws a)/\∀a,a∈l->evA ws a<=v
omit hw in
theorem d9y(a:RA):Gr [a] ws (evA ws a):=⟨⟨a,by simp,Rat.le_refl⟩,fun b hb=>by obtain rfl:=List.mem_singleton.1 hb;exact Rat.le_refl⟩
omit hw in
theorem d5q{l:List RA}{v:Rat}(h:Gr l ws v)(a:RA):Gr (l++ [a]) ws (if v<evA ws a then evA ws a else v):=by
 obtain⟨⟨b,hb,h1⟩,h2⟩:=h
 split
 ·rename_i hlt
  refine⟨⟨a,by simp,Rat.le_refl⟩,fun c hc=> ?_⟩
  rcases List.mem_append.1 hc with hc|hc
  ·exact Rat.le_trans (h2 c hc) (Rat.le_of_lt hlt)
  ·obtain rfl:=List.mem_singleton.1 hc;exact Rat.le_refl
 ·rename_i hlt
  refine⟨⟨b,by simp [hb],h1⟩,fun c hc=> ?_⟩
  rcases List.mem_append.1 hc with hc|hc
  ·exact h2 c hc
  ·obtain rfl:=List.mem_singleton.1 hc;exact Rat.not_lt.1 hlt
omit hw in
theorem Gr.uniq{l:List RA}{u v:Rat}(h:Gr l ws u)(k:Gr l ws v):u=v:=by
 obtain⟨⟨a,ha,h1⟩,h2⟩:=h
 obtain⟨⟨b,hb,k1⟩,k2⟩:=k
 exact Rat.le_antisymm (Rat.le_trans h1 (k2 a ha)) (Rat.le_trans k1 (h2 b hb))
omit hw in
theorem d3p{l:List RA}{v:Rat}(h:Gr l ws v):IsV [l] ws v:=⟨fun p hp=>by obtain rfl:=List.mem_singleton.1 hp;exact h.1,l,by simp,h.2⟩
omit hw in
theorem e0l{l:List RA}{v:Rat}(h:IsV [l] ws v):Gr l ws v:=by
 obtain⟨h1,p,hp,h2⟩:=h
 obtain rfl:=List.mem_singleton.1 hp
 exact⟨h1 p hp,h2⟩
theorem e1p{l:List RA}{a0:RA}(ha:∀a,a∈l->SmA A a/\a.2.length=ws.length)(hl:l.length<=9223372036854775807)(hn:ws.length<=1000)(hB:bnd A W ws.length<1000000)(h0:SmF (bnd A W ws.length) (evA ws a0)):
 ∃v,Gr (a0::l) ws v/\SmF (bnd A W ws.length) v/\∃N,∀n(K:Frac->Option (Frac×Bool)),N<=n->minmax_At_L2 n (ws.map toF) (toP l) (fun x y z u=>K ⟨⟨x,y⟩,⟨z,u⟩⟩) n 0 (toF (evA ws a0)).P.Sign (toF (evA ws a0)).P.Digits (toF (evA ws a0)).Q.Sign (toF (evA ws a0)).Q.Digits=K (toF v):=by
 have L:=lpR (xs:=l) (h:=toA) (σ:=Frac) (ρ:=Frac×Bool) (by omega) (L:=fun n K m i s=>minmax_At_L2 n (ws.map toF) (toP l) (fun x y z u=>K ⟨⟨x,y⟩,⟨z,u⟩⟩) m i s.P.Sign s.P.Digits s.Q.Sign s.Q.Digits)
  (B:=fun n i x s k=>(a9d n x (ws.map toF)).bind fun v6=>(b3w n s v6).bind fun v7=>k v7.1)
  (fun n K m i s=>by rw [minmax_At_L2_s];simp only [toP,List.length_map]) (fun p s=>∃v,s=toF v/\Gr (a0::p) ws v/\SmF (bnd A W ws.length) v) (fun _=>False) (fun p x q s hx⟨v,hs,h1,h2⟩=> .inl ?_) (s0:=toF (evA ws a0)) ⟨_,rfl,d9y a0,h0⟩
 ·rcases L with⟨s',⟨v,rfl,h1,h2⟩,L⟩|⟨r,hr,_⟩
  ·exact⟨v,h1,h2,L⟩
  ·exact hr.elim
 ·subst hs
  obtain⟨g1,g2⟩:=ha x (by rw [hx];simp)
  obtain⟨⟨N1,e1⟩,s1⟩:=e3r hw g1 g2 hn hB
  obtain⟨N2,e2⟩:=FMax_ev h2 s1 (by omega)
  dsimp only at e1 e2
  refine⟨_,⟨_,rfl,d5q h1 x,by split;exact s1;exact h2⟩,max N1 N2,fun n k hn=> ?_⟩
  rw [e1 n (by omega),Option.bind_some,e2 n (by omega)];rfl
theorem e1k{g:RFm}(hg:Gd ws.length A g)(h0:g≠ [])(hne:∀p,p∈g->p≠ [])(hgl:g.length<=1000)(hpl:∀p,p∈g->p.length<=9223372036854775807)(hn:ws.length<=1000)(hB:bnd A W ws.length<1000000):
 ∃v,IsV g ws v/\SmF (bnd A W ws.length) v/\∃N,∀n,N<=n->minmax_At_L1 n (toFm g) (ws.map toF) (fun(f10:Int)(f11:(List Int))(f12:Int)(f13:(List Int))(_:Int)(_:(List Int))(_:Int)(_:(List Int))=>some ((⟨(⟨f10,f11⟩:Big),(⟨f12,f13⟩:Big)⟩:Frac),true)) n 0 0 [] 0 [] 0 [] 0 []=some (toF v,true):=by
 have L:=lpR (xs:=g) (h:=toP) (σ:=Frac) (ρ:=Frac×Bool) (by omega) (L:=fun n K m i s=>minmax_At_L1 n (toFm g) (ws.map toF) (fun x y z u _ _ _ _=>K ⟨⟨x,y⟩,⟨z,u⟩⟩) m i s.P.Sign s.P.Digits s.Q.Sign s.Q.Digits 0 [] 0 [])
  (B:=fun n i x s k=>(ix x 0).bind fun ex2=>(a9d n ex2 (ws.map toF)).bind fun v3=>(lsl x 1 x.length).bind fun l1=>minmax_At_L2 n (ws.map toF) l1 (fun f22 f23 f24 f25=>(bif i==0 then some true else(a4e n (⟨(⟨f22,f23⟩:Big),(⟨f24,f25⟩:Big)⟩:Frac) s).bind fun v5=>some (decide (v5<0))).bind fun v4=>bif v4 then k ⟨⟨f22,f23⟩,⟨f24,f25⟩⟩else k s) n 0 v3.P.Sign v3.P.Digits v3.Q.Sign v3.Q.Digits)
  (fun n K m i s=>by rw [minmax_At_L1_s];simp only [toFm,List.length_map]) (fun p s=>p= []∨∃v,s=toF v/\IsV p ws v/\SmF (bnd A W ws.length) v) (fun _=>False) (fun p x q s hx hi=> .inl ?_) (s0:=⟨⟨0,[]⟩,⟨0,[]⟩⟩) (.inl rfl)
 ·rcases L with⟨s',h1|⟨v,rfl,h1,h2⟩,N,L⟩|⟨r,hr,_⟩
  ·exact absurd h1 h0
  ·exact⟨v,h1,h2,N,fun n hn=>L n (fun s=>some (s,true)) hn⟩
  ·exact hr.elim
 ·have hxm:x∈g:=by rw [hx];simp
  obtain⟨a0,l,rfl⟩:∃a0 l,x=a0::l:=by
   cases x with
   |nil=>exact absurd rfl (hne _ hxm)
   |cons a l=>exact⟨a,l,rfl⟩
  have ha:∀a,a∈a0::l->SmA A a/\a.2.length=ws.length:=fun a h=>⟨gdA hg hxm h,hg.wide _ hxm a h⟩
  obtain⟨⟨N1,e1⟩,s1⟩:=e3r hw (ha a0 (by simp)).1 (ha a0 (by simp)).2 hn hB
  have hll:=hpl _ hxm
  rw [List.length_cons]at hll
  obtain⟨v,h1,h2,N2,e2⟩:=e1p hw (a0:=a0) (l:=l) (fun a h=>ha a (by simp [h])) (by omega) hn hB s1
  dsimp only at e1
  have hlsl:lsl (toP (a0::l)) 1 ((toP (a0::l)).length:Int)=some (toP l):=by
   have hl2:(toP (a0::l)).length=l.length+1:=by show(toA a0::l.map toA).length=_;simp
   have:=c8k (l:=toP (a0::l)) (p:=1) (q:=(toP (a0::l)).length) (by omega) (Nat.le_refl _)
   rw [List.take_length]at this
   exact this
  have hd:∀n(k:Frac->Option (Frac×Bool)),max N1 N2<=n->((ix (toP (a0::l)) 0).bind fun ex2=>(a9d n ex2 (ws.map toF)).bind fun v3=>(lsl (toP (a0::l)) 1 (toP (a0::l)).length).bind fun l1=>minmax_At_L2 n (ws.map toF) l1 (fun f22 f23 f24 f25=>(bif(p.length:Int)==0 then some true else(a4e n (⟨(⟨f22,f23⟩:Big),(⟨f24,f25⟩:Big)⟩:Frac) s).bind fun v5=>some (decide (v5<0))).bind fun v4=>bif v4 then k ⟨⟨f22,f23⟩,⟨f24,f25⟩⟩else k s) n 0 v3.P.Sign v3.P.Digits v3.Q.Sign v3.Q.Digits)=
   (bif(p.length:Int)==0 then some true else(a4e n (toF v) s).bind fun v5=>some (decide (v5<0))).bind fun v4=>bif v4 then k (toF v)else k s:=by
   intro n k hn
   rw [show ix (toP (a0::l)) 0=some (toA a0)from rfl,Option.bind_some,e1 n (by omega),Option.bind_some,hlsl,Option.bind_some]
   exact e2 n (fun t=>(bif(p.length:Int)==0 then some true else(a4e n t s).bind fun v5=>some (decide (v5<0))).bind fun v4=>bif v4 then k t else k s) (by omega)
  rcases hi with rfl|⟨u,rfl,k1,k2⟩
  ·exact⟨toF v,.inr ⟨v,rfl,d3p h1,h2⟩,max N1 N2,fun n k hn=>by rw [hd n k hn];rfl⟩
  ·obtain⟨N3,e3⟩:=FCompare_ev h2 k2 (by omega)
   dsimp only at e3
   have hp0:((p.length:Int)==0)=false:=by
    rw [beq_eq_false_iff_ne]
    intro e
    have:p= []:=List.length_eq_zero_iff.1 (by omega)
    subst this
    obtain⟨_,q',hq',_⟩:=k1
    cases hq'
   have hmin:=e3b k1 (d3p h1)
   have hcmp:decide (cmpQ v u<0)=decide (v<u):=by
    rcases b2z v u with⟨c1,c2⟩|⟨c1,c2⟩|⟨c1,c2⟩
    ·rw [c2,decide_eq_true c1];rfl
    ·rw [c2,c1,decide_eq_false Rat.lt_irrefl];rfl
    ·rw [c2,decide_eq_false (Rat.not_lt.2 (Rat.le_of_lt c1))];rfl
   refine⟨toF (if v<u then v else u),.inr ⟨_,rfl,hmin,by split;exact h2;exact k2⟩,max (max N1 N2) N3,fun n k hn=> ?_⟩
   rw [hd n k (by omega),hp0,cond_false,e3 n (by omega),Option.bind_some,Option.bind_some,hcmp]
   by_cases hlt:v<u
   ·rw [decide_eq_true hlt,cond_true,if_pos hlt]
   ·rw [decide_eq_false hlt,cond_false,if_neg hlt]
end
def AtS(x:M.Form)(weights:List Frac)(B:Nat)(r:Frac×Bool):Prop:=
 (b4u x weights=false/\∃v,r=(toF v,true)/\SmF B v/\IsV (decX x) (weights.map rat) v)∨(b4u x weights=true/\r=(zeroF,false))
theorem AtS.uniq{x:M.Form}{weights:List Frac}{B C:Nat}{r s:Frac×Bool}(h:AtS x weights B r)(k:AtS x weights C s):r=s:=by
 rcases h with⟨h1,u,rfl,_,h2⟩|⟨h1,rfl⟩<;>rcases k with⟨k1,v,rfl,_,k2⟩|⟨k1,rfl⟩
 ·rw [h2.uniq k2]
 ·rw [h1]at k1;cases k1
 ·rw [h1]at k1;cases k1
 ·rfl
theorem At_t{x:M.Form}{weights:List Frac}{A W:Nat}(hx:LimX A x)(hw:Lim W weights)(hn:weights.length<=1000)(hA:A<1000000)(hW:W<1000000)(hB:bnd A W weights.length<1000000):Tt (AtS x weights (bnd A W weights.length)) (fun n=>a6g n x weights):=by
 unfold a6g
 refine Tt.evb (c0f (by omega) a8m badC (fun y hy=>d7z (k:=W) (by omega) (hw y hy))) ?_
 refine Tt.evb (a:=b4u x weights) (orE fun _=>Ev.bind (d5t (k:=A) (by omega) hx) (Ev.pure _)) ?_
 cases hwr:b4u x weights with
 |true=>exact Tt.bif (fun _=>Tt.pure (.inr ⟨hwr,rfl⟩)) (fun h=>by cases h)
 |false=>
  refine Tt.bif (fun h=>by cases h) (fun _=> ?_)
  obtain⟨e1,e2,g1,g2,g3,g4,g5,g6⟩:=c8s hx hw hwr
  have hlen:(weights.map rat).length=weights.length:=List.length_map ..
  obtain⟨v,h1,h2,N,h3⟩:=e1k (A:=A) g2 (by rw [hlen];exact g1) g3 g4 g5 g6 (by omega) (by rw [hlen];exact hB)
  rw [<-e1,<-e2]at h3
  rw [hlen]at h2
  exact Tt.of ⟨N,h3⟩ (.inl ⟨hwr,v,rfl,h2,h1⟩)
end Go.Proofs.YthaegflpecbfgaaGreatDoor.Fm
namespace Go.Proofs.YthaegflpecbfgaaGreatDoor.Ta
open Go Rt M
theorem orT(c d:Bool):(bif c then some true else some d)=some (c||d):=by cases c<;>rfl
theorem andT(c d:Bool):(bif c then some d else some false)=some (c&&d):=by cases c<;>rfl
theorem d5w(n:Nat){o:Int}(h1:0<=o)(h2:o<=16):b1o n o=some (b8z o):=by
 unfold b1o b8z
 rw [decide_eq_false (show¬o<0 by omega),cond_false,Option.bind_some,decide_eq_false (show¬17<=o by omega),cond_false]
 by_cases h3:o<=4
 ·rw [decide_eq_true h3,if_pos h3];rfl
 ·rw [decide_eq_false h3,if_neg h3,cond_false]
  by_cases h4:o=14
  ·subst h4;rfl
  ·rw [show(o==14)=false by simpa using h4,if_neg h4,cond_false]
   by_cases h5:o=11
   ·subst h5;rfl
   ·rw [show(o==11)=false by simpa using h5,if_neg h5];rfl
theorem d5l(n:Nat){o:Int}(h:¬(0<=o/\o<=16)):b1o n o=some (-1):=by
 unfold b1o
 rw [orT,Option.bind_some,show(decide (o<0)||decide (17<=o))=true by by_cases h1:o<0<;>simp [h1];omega];rfl
theorem d1j(x:M.Expr)(hl:x.Args.length<=1000000):∀(us:List M.Expr)(i:Nat),x.Args.drop i=us->(∀y,y∈us->∃b,Ev (fun n=>tariff_shaped n y) b/\Ev (fun n=>ref35_shaped n y) b)->
 ∃N r,∀n m,N<=n->us.length<m->slices_IndexFunc_api_Expr_api_Expr_L1 n x.Args (tariff_shaped_1 n) (some (-1)) m (i:Int)=some r/\ref35_shaped_L1 n (ref35_shaped n) x (some true) m (i:Int)=some (!decide (0<=r))
 | [],i,hd,_=>by
  refine⟨0,-1,fun n m _ hm=> ?_⟩
  obtain⟨m,rfl⟩:=left hm
  rw [slices_IndexFunc_api_Expr_api_Expr_L1_s,a9e hd,ref35_shaped_L1_s,a9e hd]
  exact⟨rfl,rfl⟩
 |y::us,i,hd,H=>by
  obtain⟨h1,h2,h3⟩:=drop_cons hd
  obtain⟨b,⟨N1,e1⟩,⟨N2,e2⟩⟩:=H y (by simp)
  obtain⟨N,r,ih⟩:=d1j x hl us (i+1) h2 (fun z hz=>H z (by simp [hz]))
  refine⟨max N (max (N1+1) N2),if b=true then r else(i:Int),fun n m hn hm=> ?_⟩
  obtain⟨m,rfl,hm2⟩:=pred (by simpa using hm)
  obtain⟨n',rfl⟩:∃k,n=k+1:=⟨n-1,by omega⟩
  have e1:tariff_shaped n' y=some b:=e1 n' (by omega)
  have e2:ref35_shaped (n'+1) y=some b:=e2 (n'+1) (by omega)
  have ih:=ih (n'+1) m (by omega) hm2
  rw [slices_IndexFunc_api_Expr_api_Expr_L1_s,a3y hd,cond_true,h1,Option.bind_some,b0g,e1,Option.bind_some,Option.bind_some,ref35_shaped_L1_s,a3y hd,cond_true,h1,Option.bind_some,e2,Option.bind_some]
  cases b with
  |true=>rw [Bool.not_true,cond_false,cond_false,if_pos rfl,inc64 (by omega)];exact ih
  |false=>
   rw [if_neg (by decide),decide_eq_true (show(0:Int)<=(i:Int) by omega)]
   exact⟨rfl,rfl⟩
theorem d8r{x:M.Expr}(hx:Fit x):∃b,Ev (fun n=>tariff_shaped n x) b/\Ev (fun n=>ref35_shaped n x) b:=by
 induction hx with
 | @mk o k s l hl _ ih=>
  by_cases hr:0<=o/\o<=16
  rotate_left
  ·refine⟨false,Ev.suc (fun n=>tariff_shaped_s _ n) ?_,Ev.suc (fun n=>ref35_shaped_s _ n) ?_⟩
   ·refine Ev.bind (a:=true) (Ev.all fun n=> ?_) (Ev.bind (a:=true) (Ev.then rfl (Ev.pure _)) (Ev.then rfl (Ev.pure _)))
    rw [orT];dsimp only
    congr 1
    by_cases h1:o<0<;>simp [h1]
    omega
   ·refine Ev.bind (Ev.all fun n=>d5l n hr) ?_
    exact Ev.bind (a:=true) (Ev.then (by dsimp only;rw [bne_iff_ne];omega) (Ev.pure _)) (Ev.then rfl (Ev.pure _))
  have d1:decide (o<0)=false:=decide_eq_false (by omega)
  have d2:decide (17<=o)=false:=decide_eq_false (by omega)
  by_cases ha:(l.length:Int)=b8z o
  rotate_left
  ·have d3:((l.length:Int) !=b8z o)=true:=by simpa using ha
   refine⟨false,Ev.suc (fun n=>tariff_shaped_s _ n) ?_,Ev.suc (fun n=>ref35_shaped_s _ n) ?_⟩
   ·exact Ev.bind (a:=false) (Ev.else d1 ((Ev.pure _).eq d2)) (Ev.bind (a:=true) (Ev.else rfl (Ev.bind (Ev.all fun n=>d5b n _) ((Ev.pure _).eq d3))) (Ev.then rfl (Ev.pure _)))
   ·exact Ev.bind (Ev.all fun n=>d5w n hr.1 hr.2) (Ev.bind (a:=true) (Ev.then d3 (Ev.pure _)) (Ev.then rfl (Ev.pure _)))
  have d3:((l.length:Int) !=b8z o)=false:=by simpa using ha
  have code:∀{b:Bool}{f:Nat->Option Bool},Ev f b->Ev (fun n=>(bif decide (o<0)then some true else some (decide (17<=o))).bind fun v1=>(bif v1 then some true else(a9z n o).bind fun v11=>some ((l.length:Int) !=v11)).bind fun v2=>bif v2 then some false else f n) b:=fun h=>
   Ev.bind (a:=false) (Ev.else d1 ((Ev.pure _).eq d2)) (Ev.bind (a:=false) (Ev.else rfl (Ev.bind (Ev.all fun n=>d5b n _) ((Ev.pure _).eq d3))) (Ev.else rfl h))
  obtain⟨N,r,hL⟩:=d1j ⟨o,k,s,l⟩ hl l 0 rfl ih
  have loopR:Ev (fun n=>ref35_shaped_L1 n (ref35_shaped n) ⟨o,k,s,l⟩ (some true) n 0) (!decide (0<=r)):=⟨N+l.length+1,fun n hn=>(hL n n (by omega) (by omega)).2⟩
  have loopC:Ev (fun n=>a0s n l (tariff_shaped_1 n)) (decide (0<=r)):=by
   unfold a0s a1t
   exact Ev.bind (a:=r) ⟨N+l.length+1,fun n hn=>(hL n n (by omega) (by omega)).1⟩ (Ev.pure _)
  have loop0:b8z o=0->(!decide (0<=r))=true:=by
   intro h0
   have hz:l= []:=List.length_eq_zero_iff.1 (by omega)
   subst hz
   have h1:=(hL (N+1) 1 (by omega) (by simp)).1
   rw [slices_IndexFunc_api_Expr_api_Expr_L1_s]at h1
   have h2:(some (-1):Option Int)=some r:=h1
   cases h2;rfl
  have ref:∀{vn:Bool},Lx.name s=vn->Ev (fun n=>ref35_shaped n ⟨o,k,s,l⟩) (!((o !=0&&k !=0)||((((o==1||o==4)&& !vn)||(!(o==1||o==4)&& !(s== [])))||(o==0&&(decide (k<0)||decide (1099511627776<k)))))&& !decide (0<=r)):=by
   intro vn hvn
   refine Ev.suc (fun n=>ref35_shaped_s _ n) ?_
   refine Ev.bind (Ev.all fun n=>d5w n hr.1 hr.2) ?_
   refine Ev.bind (a:=(o !=0&&k !=0)) (Ev.else d3 (Ev.all fun n=>by rw [andT];rfl)) ?_
   cases(o !=0&&k !=0)with
   |true=>exact Ev.then rfl ((Ev.pure _).eq rfl)
   |false=>
    refine Ev.else rfl ?_
    refine Ev.bind (a:=(o==1||o==4)) (Ev.all fun n=>orT _ _) ?_
    refine Ev.bind (a:=((o==1||o==4)&& !vn)) ?_ ?_
    ·cases(o==1||o==4)with
     |true=>exact Ev.then rfl (Ev.bind ((c5n s).eq hvn) (Ev.pure _))
     |false=>exact Ev.else rfl (Ev.pure _)
    refine Ev.bind (a:=(((o==1||o==4)&& !vn)||(!(o==1||o==4)&& !(s== [])))) ?_ ?_
    ·cases((o==1||o==4)&& !vn)with
     |true=>exact Ev.then rfl (Ev.pure _)
     |false=>exact Ev.else rfl (Ev.all fun n=>by rw [andT];rfl)
    refine Ev.bind (a:=((((o==1||o==4)&& !vn)||(!(o==1||o==4)&& !(s== [])))||(o==0&&(decide (k<0)||decide (1099511627776<k))))) ?_ ?_
    ·cases(((o==1||o==4)&& !vn)||(!(o==1||o==4)&& !(s== [])))with
     |true=>exact Ev.then rfl (Ev.pure _)
     |false=>
      refine Ev.else rfl (Ev.bind (a:=(o==0&&(decide (k<0)||decide (1099511627776<k)))) ?_ ((Ev.pure _).eq (by simp)))
      cases o==0 with
      |true=>exact Ev.then rfl (Ev.all fun n=>by rw [orT];rfl)
      |false=>exact Ev.else rfl (Ev.pure _)
    cases((((o==1||o==4)&& !vn)||(!(o==1||o==4)&& !(s== [])))||(o==0&&(decide (k<0)||decide (1099511627776<k))))with
    |true=>exact Ev.then rfl (Ev.pure _)
    |false=>exact Ev.else rfl (loopR.eq (by simp))
  by_cases o0:o=0
  ·refine⟨(decide (0<=k)&&decide (k<=1099511627776))&&s== [],Ev.suc (fun n=>tariff_shaped_s _ n) (code (Ev.then (by simpa using o0) ?_)),(ref rfl).eq ?_⟩
   ·refine Ev.bind (a:=(decide (0<=k)&&decide (k<=1099511627776))) (Ev.all fun n=>andT _ _) ?_
    exact Ev.bind (a:=((decide (0<=k)&&decide (k<=1099511627776))&&s== [])) (Ev.all fun n=>andT _ _) (Ev.pure _)
   ·rw [loop0 (by rw [o0];rfl)]
    subst o0
    by_cases k1:k<0
    ·rw [decide_eq_true k1,decide_eq_false (show¬0<=k by omega)];simp
    ·by_cases k2:1099511627776<k
     ·rw [decide_eq_true k2,decide_eq_false (show¬k<=1099511627776 by omega)];simp
     ·rw [decide_eq_false k1,decide_eq_false k2,decide_eq_true (show 0<=k by omega),decide_eq_true (show k<=1099511627776 by omega)];simp
  have f0:(o==0)=false:=by simpa using o0
  have g0:(o !=0)=true:=by simpa using o0
  by_cases o1:(o==1||o==4)=true
  ·refine⟨k==0&&Lx.name s,Ev.suc (fun n=>tariff_shaped_s _ n) (code (Ev.else f0 (Ev.bind (a:=true) ((Ev.all fun n=>orT _ _).eq o1) (Ev.then rfl (Ev.bind (a:=(k==0&&Lx.name s)) ?_ (Ev.pure _)))))),(ref rfl).eq ?_⟩
   ·cases hk:k==0 with
    |true=>exact Ev.then rfl (Ev.bind (c5b s) ((Ev.pure _).eq (by simp)))
    |false=>exact Ev.else rfl (Ev.pure _)
   ·have h4:o=1∨o=4:=by simpa using o1
    rw [loop0 (by rcases h4 with h|h<;>rw [h]<;>rfl),o1,f0,g0]
    cases hk:k==0<;>cases Lx.name s<;>simp [bne,hk]
  ·have o1':(o==1||o==4)=false:=by simpa using o1
   refine⟨(k==0&&s== [])&& !decide (0<=r),Ev.suc (fun n=>tariff_shaped_s _ n) (code (Ev.else f0 (Ev.bind (a:=false) ((Ev.all fun n=>orT _ _).eq o1') (Ev.else rfl ?_)))),(ref rfl).eq ?_⟩
   ·refine Ev.bind (a:=(k==0&&s== [])) (Ev.all fun n=>andT _ _) ?_
    refine Ev.bind (a:=((k==0&&s== [])&& !decide (0<=r))) ?_ (Ev.pure _)
    cases(k==0&&s== [])with
    |true=>exact Ev.then rfl (Ev.bind loopC ((Ev.pure _).eq (by simp)))
    |false=>exact Ev.else rfl (Ev.pure _)
   ·rw [o1',f0,g0]
    cases hk:k==0<;>cases s== []<;>simp [bne,hk]
theorem e5e{x:M.Expr}(hx:Fit x):∃b,Ev (fun n=>a9v n x) b/\Ev (fun n=>b9u n x) b/\(b=true->Shp x):=by
 obtain⟨b1,z,e1,e2⟩:=e6h hx
 obtain⟨b2,e3,e4⟩:=d8r hx
 obtain⟨b3,e5,hS⟩:=d8s hx
 have hb:b3=b2:=e5.uniq e3
 refine⟨b1&&b2,?_,?_,fun h=>hS (by rw [hb];simp at h;exact h.2)⟩
 ·unfold a9v
  refine Ev.bind e1 (Ev.bind (a:=b1&&b2) ?_ (Ev.pure _))
  cases b1 with
  |true=>exact Ev.then rfl (Ev.bind e3 ((Ev.pure _).eq (by simp)))
  |false=>exact Ev.else rfl (Ev.pure _)
 ·unfold b9u
  refine Ev.bind e2 (Ev.bind (a:=b1&&b2) ?_ (Ev.pure _))
  cases b1 with
  |true=>exact Ev.then rfl (Ev.bind e4 ((Ev.pure _).eq (by simp)))
  |false=>exact Ev.else rfl (Ev.pure _)
theorem d4l{t:Tariff}(hx:Fit t.Fee):∃b,Ev (fun n=>a7c n t) b/\Ev (fun n=>b4d n t) b/\(b=true->Shp t.Fee):=by
 obtain⟨b,e1,e2,hS⟩:=e5e hx
 refine⟨((Lx.name t.Name&&b)&&decide (-1<=t.Cap))&&decide (t.Cap<=1099511627776),?_,?_,fun h=>hS (by simp at h;exact h.1.1.2)⟩
 ·unfold a7c
  refine Ev.bind (c5b _) (Ev.bind (a:=(Lx.name t.Name&&b)) ?_ (Ev.bind (Ev.all fun n=>andT _ _) (Ev.bind (Ev.all fun n=>andT _ _) (Ev.pure _))))
  cases Lx.name t.Name with
  |true=>exact Ev.then rfl (Ev.bind e1 ((Ev.pure _).eq (by simp)))
  |false=>exact Ev.else rfl (Ev.pure _)
 ·unfold b4d
  refine Ev.bind (c5n _) (Ev.bind (a:=(Lx.name t.Name&&b)) ?_ (Ev.bind (Ev.all fun n=>andT _ _) (Ev.bind (Ev.all fun n=>andT _ _) (Ev.pure _))))
  cases Lx.name t.Name with
  |true=>exact Ev.then rfl (Ev.bind e2 ((Ev.pure _).eq (by simp)))
  |false=>exact Ev.else rfl (Ev.pure _)
end Go.Proofs.YthaegflpecbfgaaGreatDoor.Ta
namespace Go.Proofs.YthaegflpecbfgaaGreatDoor.Ta
open Go Rt M
def c0p(a b:Int):Int:=bif a==2||b==2 then 2 else 1
theorem d5f(n:Nat)(a b:Int):b0a n a b=some (c0p a b):=by
 unfold b0a c0p
 rw [orT,Option.bind_some]
 cases a==2||b==2<;>rfl
theorem e4u(n:Nat)(a b:Int):a1j n a b=some (bif a==0||b==0 then(0,13)else(c0p a b,0)):=by
 unfold a1j c0p
 rw [orT,Option.bind_some,orT,Option.bind_some]
 cases a==0||b==0<;>cases a==2||b==2<;>rfl
theorem d0i(a b:Int):0<=c0p a b/\c0p a b<=2:=by
 unfold c0p
 cases a==2||b==2<;>decide
theorem d1l(n:Nat)(p q:Int):a3t n 12 [p,q]=some (0,p==1&&q==1)/\a3t n 13 [p,q]=some (0,p==1&&q==1):=by
 constructor<;>(show((bif p==1 then some (q==1)else some false).bind fun v4=>some ((0:Int),v4))=_;rw [andT];rfl)
theorem d5u(n:Nat)(p q:Int):a3t n 15 [p,q]=some (0,p==0&&q==0)/\a3t n 16 [p,q]=some (0,p==0&&q==0):=by
 constructor<;>(show((bif p==0 then some (q==0)else some false).bind fun v4=>some ((0:Int),v4))=_;rw [andT];rfl)
theorem e3k(n:Nat)(p:Int):a3t n 14 [p]=some (0,p==0):=rfl
theorem e3q(n:Nat)(p q r:Int):a3t n 11 [p,q,r]=some (c0p q r,(p==0&&q !=0)&&r !=0):=by
 show((b0a n q r).bind fun v5=>(bif p==0 then some (q !=0)else some false).bind fun v6=>(bif v6 then some (r !=0)else some false).bind fun v7=>some (v5,v7))=_
 rw [d5f,Option.bind_some,andT,Option.bind_some,andT];rfl
theorem e1d(n:Nat)(p q:Int):a3t n 7 [p,q]=some (c0p p q,(p !=0&&q !=0)&&(p==1||q==1)):=by
 show((bif p !=0 then some (q !=0)else some false).bind fun v8=>((bif v8 then(bif p==1 then some true else some (q==1)).bind fun v11=>some v11 else some false).bind fun v10=>some v10).bind fun numbers1=>(b0a n p q).bind fun v9=>some (v9,numbers1))=_
 rw [andT,Option.bind_some,orT,d5f]
 cases p !=0&&q !=0<;>rfl
theorem e3h(n:Nat)(p q:Int){o:Int}(ho:o=5∨o=6∨o=8∨o=9∨o=10):a3t n o [p,q]=some (c0p p q,p !=0&&q !=0):=by
 have h:(bif p !=0 then some (q !=0)else some false).bind (fun v8=>(some v8).bind fun numbers1=>(b0a n p q).bind fun v9=>some (v9,numbers1))=some (c0p p q,p !=0&&q !=0):=by
  rw [andT,Option.bind_some,Option.bind_some,d5f];rfl
 rcases ho with rfl|rfl|rfl|rfl|rfl<;>exact h
theorem all2(k p q w:Int):Ev (fun n=>a3q n k [p,q] w) (bif p==w&&q==w then(k,0)else(0,13)):=by
 refine⟨3,fun n hn=> ?_⟩
 obtain⟨n,rfl⟩:∃j,n=j+3:=⟨n-3,by omega⟩
 show((bif p !=w then some (0:Int)else bif q !=w then some 1 else some (-1)).bind fun v1=>some (decide (0<=v1))).bind (fun v1=>bif v1 then some ((0:Int),(13:Int))else some (k,0))=_
 cases hp:p==w<;>cases hq:q==w<;>simp [bne,hp,hq]
theorem all1(k p w:Int):Ev (fun n=>a3q n k [p] w) (bif p==w then(k,0)else(0,13)):=by
 refine⟨3,fun n hn=> ?_⟩
 obtain⟨n,rfl⟩:∃j,n=j+3:=⟨n-3,by omega⟩
 show((bif p !=w then some (0:Int)else some (-1)).bind fun v1=>some (decide (0<=v1))).bind (fun v1=>bif v1 then some ((0:Int),(13:Int))else some (k,0))=_
 cases hp:p==w<;>simp [bne,hp]
theorem d1z(n:Nat)(l:List Rt.Bs)(s:Rt.Bs)(hl:l.length<4611686018427387904):∀(us:List Rt.Bs)(i m:Nat),l.drop i=us->us.length<m->
 ref35_Number_L1 n l s (some (-1)) m (i:Int)=some (if s∈us then((i+us.idxOf s:Nat):Int)else-1)
 | [],i,m+1,hd,_=>by rw [ref35_Number_L1_s,a9e hd];rfl
 |x::us,i,m+1,hd,hm=>by
  obtain⟨h1,h2,h3⟩:=drop_cons hd
  have ih:=d1z n l s hl us (i+1) m h2 (by simp only [List.length_cons]at hm;omega)
  rw [ref35_Number_L1_s,a3y hd,cond_true,h1,Option.bind_some]
  by_cases h:x=s
  ·subst h
   rw [beq_self_eq_true,cond_true,if_pos (by simp)];simp
  ·have e:(x==s)=false:=by simpa using h
   rw [e,cond_false,inc64 (by omega),ih]
   by_cases h5:s∈us
   ·rw [if_pos h5,if_pos (List.mem_cons_of_mem _ h5),List.idxOf_cons,e]
    simp only [cond_false];congr 1;omega
   ·rw [if_neg h5,if_neg (by simp only [List.mem_cons,not_or];exact⟨fun h6=>h h6.symm,h5⟩)]
theorem c7e{l:List Rt.Bs}(s:Rt.Bs)(hl:l.length<4611686018427387904):Ev (fun n=>(b2e n l s).bind fun v6=>some (decide (v6<0))) (!decide (s∈l)):=by
 refine⟨l.length+1,fun n hn=> ?_⟩
 unfold b2e
 dsimp only
 have h:ref35_Number_L1 n l s (some (-1)) n 0=_:=d1z n l s hl l 0 n rfl (by omega)
 rw [h,Option.bind_some]
 by_cases h5:s∈l
 ·rw [if_pos h5,decide_eq_true h5,decide_eq_false (by omega)];rfl
 ·rw [if_neg h5,decide_eq_false h5];rfl
def Ty(r:Int×Int):Prop:=r.2=0->0<=r.1/\r.1<=2
theorem d4c(x:M.Expr)(names:List Rt.Bs)(hx:x.Args.length<=1000000):∀(us:List M.Expr)(i:Nat)(acc:List Int),x.Args.drop i=us->acc.length=i->i<=x.Args.length->(∀t,t∈acc->0<=t/\t<=2)->
 (∀y,y∈us->∃r,Ev (fun n=>tariff_typed n y names) r/\Ev (fun n=>ref35_typed n y names) r/\Ty r)->
 (∃(N:Nat)(e:Int),e≠0/\∀n m kont kont',N<=n->us.length<m->tariff_typed_L1 n (tariff_typed n) x names kont m (i:Int) acc=some (0,e)/\ref35_typed_L1 n (ref35_typed n) x names kont' m (i:Int) acc=some (0,e))∨
 ∃(N:Nat)(l2:List Int),l2.length=x.Args.length/\(∀t,t∈l2->0<=t/\t<=2)/\∀n m kont kont',N<=n->us.length<m->tariff_typed_L1 n (tariff_typed n) x names kont m (i:Int) acc=kont l2/\ref35_typed_L1 n (ref35_typed n) x names kont' m (i:Int) acc=kont' l2
 | [],i,acc,hd,ha,hi,ht,_=>by
  refine .inr ⟨0,acc,by have:=Rt.drop_nil hd;omega,ht,fun n m kont kont' _ hm=> ?_⟩
  obtain⟨m,rfl⟩:=left hm
  rw [tariff_typed_L1_s,a9e hd,ref35_typed_L1_s,a9e hd];exact⟨rfl,rfl⟩
 |y::us,i,acc,hd,ha,hi,ht,H=>by
  obtain⟨h1,h2,h3⟩:=drop_cons hd
  obtain⟨⟨k,e⟩,⟨N1,e1⟩,⟨N2,e2⟩,hty⟩:=H y (by simp)
  by_cases he:e=0
  ·subst he
   have hk:=hty rfl
   have step:∀n m kont kont',max N1 N2<=n->tariff_typed_L1 n (tariff_typed n) x names kont (m+1) (i:Int) acc=tariff_typed_L1 n (tariff_typed n) x names kont m ((i+1:Nat):Int) (acc++ [k])/\ref35_typed_L1 n (ref35_typed n) x names kont' (m+1) (i:Int) acc=ref35_typed_L1 n (ref35_typed n) x names kont' m ((i+1:Nat):Int) (acc++ [k]):=by
    intro n m kont kont' hn
    have e1:tariff_typed n y names=some (k,0):=e1 n (by omega)
    have e2:ref35_typed n y names=some (k,0):=e2 n (by omega)
    constructor
    ·rw [tariff_typed_L1_s,a3y hd,cond_true,h1,Option.bind_some,e1,Option.bind_some]
     show((app 8 acc [k]).bind fun l3=>_)=_
     rw [c4h (by simp only [List.length_cons,List.length_nil];omega),Option.bind_some,inc64 (by omega)]
    ·rw [ref35_typed_L1_s,a3y hd,cond_true,h1,Option.bind_some,e2,Option.bind_some]
     show((app 8 acc [k]).bind fun l3=>_)=_
     rw [c4h (by simp only [List.length_cons,List.length_nil];omega),Option.bind_some,inc64 (by omega)]
   have ht2:∀t,t∈acc++ [k]->0<=t/\t<=2:=by
    intro t h
    rcases List.mem_append.1 h with h|h
    ·exact ht t h
    ·rw [List.mem_singleton]at h;subst h;exact hk
   rcases d4c x names hx us (i+1) (acc++ [k]) h2 (by simp [ha]) (by omega) ht2 (fun z hz=>H z (by simp [hz]))with⟨N,e,he,ih⟩|⟨N,l2,hl2,ht3,ih⟩
   ·refine .inl ⟨max N (max N1 N2),e,he,fun n m kont kont' hn hm=> ?_⟩
    obtain⟨m,rfl,hm2⟩:=pred (by simpa using hm)
    have h5:=step n m kont kont' (by omega)
    rw [h5.1,h5.2]
    exact ih n m kont kont' (by omega) hm2
   ·refine .inr ⟨max N (max N1 N2),l2,hl2,ht3,fun n m kont kont' hn hm=> ?_⟩
    obtain⟨m,rfl,hm2⟩:=pred (by simpa using hm)
    have h5:=step n m kont kont' (by omega)
    rw [h5.1,h5.2]
    exact ih n m kont kont' (by omega) hm2
  ·refine .inl ⟨max N1 N2,e,he,fun n m kont kont' hn hm=> ?_⟩
   obtain⟨m,rfl⟩:=left hm
   have e1:tariff_typed n y names=some (k,e):=e1 n (by omega)
   have e2:ref35_typed n y names=some (k,e):=e2 n (by omega)
   have hb:(e !=0)=true:=by simpa using he
   constructor
   ·rw [tariff_typed_L1_s,a3y hd,cond_true,h1,Option.bind_some,e1,Option.bind_some]
    dsimp only
    rw [hb];rfl
   ·rw [ref35_typed_L1_s,a3y hd,cond_true,h1,Option.bind_some,e2,Option.bind_some]
    dsimp only
    rw [hb];rfl
end Go.Proofs.YthaegflpecbfgaaGreatDoor.Ta
namespace Go.Proofs.YthaegflpecbfgaaGreatDoor.Ta
open Go Rt M
def d3x(names:List Rt.Bs)(x:M.Expr)(n:Nat)(l2:List Int):Option (Int×Int):=
 (bif x.Op==1 then
  some true
 else
  some (x.Op==4)).bind fun v1=>
 bif v1 then
  (a0z n names x.Name).bind fun v2=>
  bif !v2 then
   some (0,11)
  else
   bif x.Op==4 then
    some (2,0)
   else
    some (1,0)
 else
  (bif x.Op==0 then
   some true
  else
   bif x.Op==2 then
    some true
   else
    some (x.Op==3)).bind fun v3=>
  bif v3 then
   some (1,0)
  else
   (bif x.Op==12 then
    some true
   else
    some (x.Op==13)).bind fun v4=>
   bif v4 then
    (a3q n 0 l2 1).bind fun v5=>
    some (v5.1,v5.2)
   else
    (bif x.Op==14 then
     some true
    else
     bif x.Op==15 then
      some true
     else
      some (x.Op==16)).bind fun v6=>
    bif v6 then
     (a3q n 0 l2 0).bind fun v7=>
     some (v7.1,v7.2)
    else
     bif x.Op==11 then
      (ix l2 0).bind fun ex=>
      bif ex !=0 then
       some (0,13)
      else
       (ix l2 1).bind fun w2=>
       (ix l2 2).bind fun w3=>
       (a1j n w2 w3).bind fun v8=>
       some (v8.1,v8.2)
     else
      bif x.Op==7 then
       (ix l2 0).bind fun w4=>
       (bif w4==2 then
        (ix l2 1).bind fun w7=>
        some (w7==2)
       else
        some false).bind fun v9=>
       bif v9 then
        some (0,13)
       else
        (ix l2 0).bind fun w5=>
        (ix l2 1).bind fun w6=>
        (a1j n w5 w6).bind fun v10=>
        some (v10.1,v10.2)
      else
       bif x.Op==8 then
        (ix x.Args 1).bind fun w8=>
        bif w8.Op !=0 then
         some (0,13)
        else
         bif w8.N==0 then
          some (0,14)
         else
          (ix l2 0).bind fun w9=>
          (ix l2 1).bind fun w0=>
          (a1j n w9 w0).bind fun v11=>
          some (v11.1,v11.2)
       else
        (ix l2 0).bind fun w1=>
        (ix l2 1).bind fun w2=>
        (a1j n w1 w2).bind fun v12=>
        some (v12.1,v12.2)
def refK(names:List Rt.Bs)(x:M.Expr)(n:Nat)(l2:List Int):Option (Int×Int):=
 (bif x.Op==1 then
  some true
 else
  some (x.Op==4)).bind fun v1=>
 (bif v1 then
  (b2e n names x.Name).bind fun v6=>
  some (decide (v6<0))
 else
  some false).bind fun v2=>
 bif v2 then
  some (0,11)
 else
  bif x.Op==4 then
   some (2,0)
  else
   bif(l2.length:Int)==0 then
    some (1,0)
   else
    bif x.Op==8 then
     (ix x.Args 1).bind fun ex=>
     (bif ex.Op==0 then
      (ix x.Args 1).bind fun ex3=>
      some (ex3.N==0)
     else
      some false).bind fun v3=>
     bif v3 then
      some (0,14)
     else
      (ix x.Args 1).bind fun ex2=>
      bif ex2.Op !=0 then
       some (0,13)
      else
       (a3t n x.Op l2).bind fun v4=>
       bif !v4.2 then
        some (0,13)
       else
        some (v4.1,0)
    else
     (a3t n x.Op l2).bind fun v5=>
     bif !v5.2 then
      some (0,13)
     else
      some (v5.1,0)
theorem c3b(n:Nat)(x:M.Expr)(names:List Rt.Bs):tariff_typed (n+1) x names=tariff_typed_L1 n (tariff_typed n) x names (d3x names x n) n 0 []:=rfl
theorem d1p(n:Nat)(x:M.Expr)(names:List Rt.Bs):ref35_typed (n+1) x names=ref35_typed_L1 n (ref35_typed n) x names (refK names x n) n 0 []:=rfl
def c3s(p q:Int):Int×Int:=bif p==0||q==0 then(0,13)else(c0p p q,0)
theorem b3u(p q:Int):Ty (c3s p q):=by
 unfold c3s
 cases p==0||q==0
 ·exact fun _=>d0i p q
 ·exact fun h=>by cases h
theorem b5s(p q:Int):Ev (fun n=>(a1j n p q).bind fun v=>some (v.1,v.2)) (c3s p q):=Ev.all fun n=>by rw [e4u];rfl
theorem ty0(b:Bool):Ty (bif b then((0:Int),(0:Int))else(0,13)):=by
 cases b
 ·exact fun h=>by cases h
 ·exact fun _=>⟨by decide,by decide⟩
theorem c3g{o p q:Int}(ho:o=5∨o=6∨o=8∨o=9∨o=10):Ev (fun n=>(a3t n o [p,q]).bind fun v5=>bif !v5.2 then some ((0:Int),(13:Int))else some (v5.1,0)) (c3s p q):=Ev.all fun n=>by
 rw [e3h n p q ho]
 unfold c3s
 cases hp:p==0<;>cases hq:q==0<;>simp [bne,hp,hq]
theorem d7n(p q w:Int):Ev (fun n=>(a3q n 0 [p,q] w).bind fun v5=>some (v5.1,v5.2)) (bif p==w&&q==w then(0,0)else(0,13)):=Ev.bind (all2 0 p q w) (Ev.pure _)
theorem e6c(p w:Int):Ev (fun n=>(a3q n 0 [p] w).bind fun v5=>some (v5.1,v5.2)) (bif p==w then(0,0)else(0,13)):=Ev.bind (all1 0 p w) (Ev.pure _)
theorem fitb{o:Int}{l:List Int}{b:Bool}(h:∀n,a3t n o l=some (0,b)):Ev (fun n=>(a3t n o l).bind fun v5=>bif !v5.2 then some ((0:Int),(13:Int))else some (v5.1,0)) (bif b then(0,0)else(0,13)):=
 Ev.all fun n=>by rw [h n];cases b<;>rfl
theorem e2e{x:M.Expr}(hx:Fit x)(names:List Rt.Bs)(hn:names.length<4611686018427387904):Shp x->∃r,Ev (fun n=>tariff_typed n x names) r/\Ev (fun n=>ref35_typed n x names) r/\Ty r:=by
 induction hx with
 | @mk o k s l hl _ ih=>
  intro hs
  cases hs with
  |mk h1 h2 h3 h4=>
  rcases d4c ⟨o,k,s,l⟩ names hl l 0 [] rfl rfl (by simp) (by simp) (fun y hy=>ih y hy (h4 y hy))with⟨N,e,he,hL⟩|⟨N,l2,hl2,ht,hL⟩
  ·exact⟨(0,e),Ev.suc (fun n=>c3b n _ _) ⟨N+l.length+1,fun n hn=>(hL n n _ (fun _=>none) (by omega) (by omega)).1⟩,Ev.suc (fun n=>d1p n _ _) ⟨N+l.length+1,fun n hn=>(hL n n (fun _=>none) _ (by omega) (by omega)).2⟩,fun h=>absurd h he⟩
  have out:∀r:Int×Int,Ty r->Ev (fun n=>d3x names ⟨o,k,s,l⟩ n l2) r->Ev (fun n=>refK names ⟨o,k,s,l⟩ n l2) r->∃r,Ev (fun n=>tariff_typed n ⟨o,k,s,l⟩ names) r/\Ev (fun n=>ref35_typed n ⟨o,k,s,l⟩ names) r/\Ty r:=by
   intro r hty hf hg
   exact⟨r,Ev.suc (fun n=>c3b n _ _) (Ev.from (N+l.length+1) (fun n hn=>(hL n n _ (fun _=>none) (by omega) (by omega)).1) hf),Ev.suc (fun n=>d1p n _ _) (Ev.from (N+l.length+1) (fun n hn=>(hL n n (fun _=>none) _ (by omega) (by omega)).2) hg),hty⟩
  replace hl2:(l2.length:Int)=b8z o:=by rw [<-h3];exact congrArg Int.ofNat hl2
  clear hL
  have len0:(l2.length:Int)=0->l2= []:=fun h=>List.length_eq_zero_iff.1 (by omega)
  have len1:(l2.length:Int)=1->∃p,l2= [p]:=fun h=>by
   match l2,h with
   | [p],_=>exact⟨p,rfl⟩
   | [],h=>simp at h
   |_::_::_,h=>simp at h;omega
  have len2:(l2.length:Int)=2->∃p q,l2= [p,q]/\(0<=p/\p<=2)/\(0<=q/\q<=2):=fun h=>by
   match l2,h,ht with
   | [p,q],_,ht=>exact⟨p,q,rfl,ht p (by simp),ht q (by simp)⟩
   | [],h,_=>simp at h
   | [_],h,_=>simp at h
   |_::_::_::_,h,_=>simp at h;omega
  have len3:(l2.length:Int)=3->∃p q r,l2= [p,q,r]:=fun h=>by
   match l2,h with
   | [p,q,r],_=>exact⟨p,q,r,rfl⟩
   | [],h=>simp at h
   | [_],h=>simp at h
   | [_,_],h=>simp at h
   |_::_::_::_::_,h=>simp at h;omega
  have hc:o=0∨o=1∨o=2∨o=3∨o=4∨o=5∨o=6∨o=7∨o=8∨o=9∨o=10∨o=11∨o=12∨o=13∨o=14∨o=15∨o=16:=by omega
  have lf:∀t:Int,0<=t->t<=2->Ty (bif !decide (s∈names)then((0:Int),(11:Int))else(t,0)):=by
   intro t h5 h6
   cases decide (s∈names)
   ·exact fun h=>by cases h
   ·exact fun _=>⟨h5,h6⟩
  have t10:Ty ((1:Int),(0:Int)):=fun _=>⟨by decide,by decide⟩
  rcases hc with rfl|rfl|rfl|rfl|rfl|rfl|rfl|rfl|rfl|rfl|rfl|rfl|rfl|rfl|rfl|rfl|rfl
  ·obtain rfl:=len0 hl2
   exact out (1,0) t10 (Ev.all fun n=>rfl) (Ev.all fun n=>rfl)
  ·obtain rfl:=len0 hl2
   refine out _ (lf 1 (by decide) (by decide)) ?_ ?_
   ·exact Ev.bind (f:=fun n v2=>bif !v2 then some (0,11)else some (1,0)) (b1q s hn) (by cases decide (s∈names)<;>exact Ev.pure _)
   ·exact Ev.bind (f:=fun n v2=>bif v2 then some (0,11)else some (1,0)) (c7e s hn) (by cases decide (s∈names)<;>exact Ev.pure _)
  ·obtain rfl:=len0 hl2
   exact out (1,0) t10 (Ev.all fun n=>rfl) (Ev.all fun n=>rfl)
  ·obtain rfl:=len0 hl2
   exact out (1,0) t10 (Ev.all fun n=>rfl) (Ev.all fun n=>rfl)
  ·obtain rfl:=len0 hl2
   refine out _ (lf 2 (by decide) (by decide)) ?_ ?_
   ·exact Ev.bind (f:=fun n v2=>bif !v2 then some (0,11)else some (2,0)) (b1q s hn) (by cases decide (s∈names)<;>exact Ev.pure _)
   ·exact Ev.bind (f:=fun n v2=>bif v2 then some (0,11)else some (2,0)) (c7e s hn) (by cases decide (s∈names)<;>exact Ev.pure _)
  ·obtain⟨p,q,rfl,_,_⟩:=len2 hl2
   exact out _ (b3u p q) (b5s p q) (c3g (o:=5) (by decide))
  ·obtain⟨p,q,rfl,_,_⟩:=len2 hl2
   exact out _ (b3u p q) (b5s p q) (c3g (o:=6) (by decide))
  ·obtain⟨p,q,rfl,hp,hq⟩:=len2 hl2
   refine out (bif p==2&&q==2 then(0,13)else c3s p q) ?_ ?_ ?_
   ·cases p==2&&q==2
    ·exact b3u p q
    ·exact fun h=>by cases h
   ·show Ev (fun n=>(bif p==2 then some (q==2)else some false).bind fun v9=>bif v9 then some (0,13)else(a1j n p q).bind fun v=>some (v.1,v.2)) _
    refine Ev.bind (a:=p==2&&q==2) (Ev.all fun n=>andT _ _) ?_
    cases p==2&&q==2
    ·exact Ev.else rfl (b5s p q)
    ·exact Ev.then rfl (Ev.pure _)
   ·show Ev (fun n=>(a3t n 7 [p,q]).bind fun v5=>bif !v5.2 then some ((0:Int),(13:Int))else some (v5.1,0)) _
    refine Ev.all fun n=> ?_
    rw [e1d]
    unfold c3s
    have hp3:p=0∨p=1∨p=2:=by omega
    have hq3:q=0∨q=1∨q=2:=by omega
    rcases hp3 with rfl|rfl|rfl<;>rcases hq3 with rfl|rfl|rfl<;>rfl
  ·obtain⟨p,q,rfl,_,_⟩:=len2 hl2
   have h8:(l.length:Int)=2:=h3
   obtain⟨u,v,rfl⟩:∃u v,l= [u,v]:=by
    match l,h8 with
    | [u,v],_=>exact⟨u,v,rfl⟩
    | [],h=>simp at h
    | [_],h=>simp at h
    |_::_::_::_,h=>simp at h;omega
   refine out (bif v.Op !=0 then(0,13)else bif v.N==0 then(0,14)else c3s p q) ?_ ?_ ?_
   ·cases v.Op !=0
    ·cases v.N==0
     ·exact b3u p q
     ·exact fun h=>by cases h
    ·exact fun h=>by cases h
   ·show Ev (fun n=>bif v.Op !=0 then some (0,13)else bif v.N==0 then some (0,14)else(a1j n p q).bind fun v=>some (v.1,v.2)) _
    cases v.Op !=0
    ·cases v.N==0
     ·exact Ev.else rfl (Ev.else rfl (b5s p q))
     ·exact Ev.else rfl (Ev.then rfl (Ev.pure _))
    ·exact Ev.then rfl (Ev.pure _)
   ·show Ev (fun n=>(bif v.Op==0 then some (v.N==0)else some false).bind fun v3=>bif v3 then some (0,14)else bif v.Op !=0 then some (0,13)else(a3t n 8 [p,q]).bind fun v5=>bif !v5.2 then some ((0:Int),(13:Int))else some (v5.1,0)) _
    refine Ev.bind (a:=v.Op==0&&v.N==0) (Ev.all fun n=>andT _ _) ?_
    unfold bne
    cases v.Op==0
    ·exact Ev.else rfl (Ev.then rfl (Ev.pure _))
    ·cases v.N==0
     ·exact Ev.else rfl (Ev.else rfl (c3g (o:=8) (by decide)))
     ·exact Ev.then rfl (Ev.pure _)
  ·obtain⟨p,q,rfl,_,_⟩:=len2 hl2
   exact out _ (b3u p q) (b5s p q) (c3g (o:=9) (by decide))
  ·obtain⟨p,q,rfl,_,_⟩:=len2 hl2
   exact out _ (b3u p q) (b5s p q) (c3g (o:=10) (by decide))
  ·obtain⟨p,q,r,rfl⟩:=len3 hl2
   refine out (bif p !=0 then(0,13)else c3s q r) ?_ ?_ ?_
   ·cases p !=0
    ·exact b3u q r
    ·exact fun h=>by cases h
   ·show Ev (fun n=>bif p !=0 then some (0,13)else(a1j n q r).bind fun v=>some (v.1,v.2)) _
    cases p !=0
    ·exact Ev.else rfl (b5s q r)
    ·exact Ev.then rfl (Ev.pure _)
   ·show Ev (fun n=>(a3t n 11 [p,q,r]).bind fun v5=>bif !v5.2 then some ((0:Int),(13:Int))else some (v5.1,0)) _
    refine Ev.all fun n=> ?_
    rw [e3q]
    unfold c3s
    cases hp:p==0<;>cases hq:q==0<;>cases hr:r==0<;>simp [bne,hp,hq,hr]
  ·obtain⟨p,q,rfl,_,_⟩:=len2 hl2
   exact out _ (ty0 (p==1&&q==1)) (d7n p q 1) (fitb fun n=>(d1l n p q).1)
  ·obtain⟨p,q,rfl,_,_⟩:=len2 hl2
   exact out _ (ty0 (p==1&&q==1)) (d7n p q 1) (fitb fun n=>(d1l n p q).2)
  ·obtain⟨p,rfl⟩:=len1 hl2
   exact out _ (ty0 (p==0)) (e6c p 0) (fitb fun n=>e3k n p)
  ·obtain⟨p,q,rfl,_,_⟩:=len2 hl2
   exact out _ (ty0 (p==0&&q==0)) (d7n p q 0) (fitb fun n=>(d5u n p q).1)
  ·obtain⟨p,q,rfl,_,_⟩:=len2 hl2
   exact out _ (ty0 (p==0&&q==0)) (d7n p q 0) (fitb fun n=>(d5u n p q).2)
theorem Check_2{t:Tariff}(hx:Fit t.Fee)(names:List Rt.Bs)(hn:names.length<4611686018427387904):∃e,Ev (fun n=>b0j n t names) e/\Ev (fun n=>d0q n t names) e:=by
 obtain⟨b,w1,w2,hS⟩:=d4l hx
 cases hnm:named names with
 |false=>exact⟨1,Ev.bind ((c6a hn).eq hnm) (Ev.then rfl (Ev.pure _)),Ev.bind ((c5x names).eq hnm) (Ev.then rfl (Ev.pure _))⟩
 |true=>
  cases b with
  |false=>exact⟨2,Ev.bind ((c6a hn).eq hnm) (Ev.else rfl (Ev.bind w1 (Ev.then rfl (Ev.pure _)))),Ev.bind ((c5x names).eq hnm) (Ev.else rfl (Ev.bind w2 (Ev.then rfl (Ev.pure _))))⟩
  |true=>
   obtain⟨r,r1,r2,_⟩:=e2e hx names hn (hS rfl)
   refine⟨bif(r.2==0&&r.1==0)then 13 else r.2,Ev.bind ((c6a hn).eq hnm) (Ev.else rfl (Ev.bind w1 (Ev.else rfl (Ev.bind r1 (Ev.bind (Ev.all fun n=>andT _ _) ?_))))),Ev.bind ((c5x names).eq hnm) (Ev.else rfl (Ev.bind w2 (Ev.else rfl (Ev.bind r2 (Ev.bind (Ev.all fun n=>andT _ _) ?_)))))⟩<;>
   (cases r.2==0&&r.1==0<;>exact Ev.pure _)
end Go.Proofs.YthaegflpecbfgaaGreatDoor.Ta
namespace Go.Proofs.YthaegflpecbfgaaGreatDoor.Fm
open Go Rt M Ta Tp D Fe
theorem d6u{α β:Type}{h:α->β}{l p q:List α}{x:α}(hx:l=p++x::q):ix (l.map h) (p.length:Int)=some (h x):=by
 rw [hx,List.map_append,List.map_cons]
 exact a4x _ _ _ (by rw [List.length_map])
theorem more{α:Type}{l p q:List α}{x:α}(hx:l=p++x::q):decide ((p.length:Int)<(l.length:Int))=true:=by
 rw [hx,List.length_append,List.length_cons]
 exact decide_eq_true (by omega)
theorem c7h(k:Nat):decide ((k:Int)<(k:Int))=false:=decide_eq_false (by omega)
theorem e6b{σ:Type}{la i:Int}{X Y:Option σ}:((bif decide (i<la)then some (decide (i<la))else some false).bind fun v2=>bif v2 then X else Y)=bif decide (i<la)then X else Y:=by
 cases decide (i<la)<;>rfl
end Go.Proofs.YthaegflpecbfgaaGreatDoor.Fm
namespace Go.Proofs.YthaegflpecbfgaaGreatDoor.Fm
open Go Rt M Ta Tp D Fe
section
variable{A W:Nat}{weights:List Frac}
theorem d7o{a:Affine}(h1:LimF A a.Const)(h2:Lim A a.Coefs)(hw:Lim W weights)(hn:weights.length<=1000)(hA:A<1000000)(hW:W<1000000)(hB:bnd A W weights.length<1000000):
 Tt (fun r=>((oddA (weights.length:Int) a||weights.any badC)=false/\r=(toF (evA (weights.map rat) (decA a)),true)/\SmF (bnd A W weights.length) (evA (weights.map rat) (decA a)))∨((oddA (weights.length:Int) a||weights.any badC)=true/\r=(zeroF,false))) (fun n=>a9x n a weights):=by
 unfold a9x
 refine Tt.evb (b5g h1.1 h1.2 (by omega)) ?_
 refine Tt.evb (a:=(badC a.Const||((a.Coefs.length:Int) !=(weights.length:Int)))) (orE (c:=badC a.Const) fun _=>Ev.pure _) ?_
 cases hh:(badC a.Const||((a.Coefs.length:Int) !=(weights.length:Int)))with
 |true=>exact Tt.bif (fun _=>Tt.pure (.inr ⟨by unfold oddA;rw [hh];rfl,rfl⟩)) (fun h=>by cases h)
 |false=>
  refine Tt.bif (fun h=>by cases h) (fun _=> ?_)
  obtain⟨hc,hlen⟩:=Bool.or_eq_false_iff.1 hh
  have hlen:a.Coefs.length=weights.length:=Int.ofNat_inj.1 (by simpa using hlen)
  have hcr:a5r a.Const=true:=by simpa [badC]using hc
  have hodd:(oddA (weights.length:Int) a||weights.any badC)=(a.Coefs.any badC||weights.any badC):=by unfold oddA;rw [hh];rfl
  rw [hodd]
  have hz1:(weights.zip a.Coefs).map Prod.fst=weights:=List.map_fst_zip (by omega)
  have hz2:(weights.zip a.Coefs).map Prod.snd=a.Coefs:=List.map_snd_zip (by omega)
  have hzl:(weights.zip a.Coefs).length=weights.length:=by rw [List.length_zip];omega
  generalize hxs:weights.zip a.Coefs=xs at hz1 hz2 hzl
  have L:=lpR (xs:=xs) (h:=Prod.fst) (σ:=Frac) (ρ:=Frac×Bool) (by omega) (L:=fun n K m i s=>ref37_Value_L1 n a weights (fun x y z u=>K ⟨⟨x,y⟩,⟨z,u⟩⟩) m i s.P.Sign s.P.Digits s.Q.Sign s.Q.Digits)
   (B:=fun n i x s k=>(a2j n x).bind fun v3=>(bif !v3 then some true else(ix a.Coefs i).bind fun ex4=>(a2j n ex4).bind fun v7=>some (!v7)).bind fun v4=>bif v4 then some ((⟨(⟨0,[]⟩:Big),(⟨0,[]⟩:Big)⟩:Frac),false)else
    ((ix a.Coefs i).bind fun ex2=>(ix weights i).bind fun ex3=>(a8g n ex2 ex3).bind fun v6=>some (v6.1.P.Sign,v6.1.P.Digits,v6.1.Q.Sign,v6.1.Q.Digits)).bind fun(f9,f10,f11,f12)=>(a7h n s (⟨(⟨f9,f10⟩:Big),(⟨f11,f12⟩:Big)⟩:Frac)).bind fun v5=>k v5.1)
   (fun n K m i s=>by rw [ref37_Value_L1_s,hz1,hzl]) (fun p s=>(∀y,y∈p->badC y.1=false/\badC y.2=false)/\s=toF (rat a.Const+dot (p.map fun y=>rat y.2) (weights.map rat))/\SmF (bnd A W p.length) (rat a.Const+dot (p.map fun y=>rat y.2) (weights.map rat))) (fun r=>r=(zeroF,false)/\(a.Coefs.any badC||weights.any badC)=true) (fun p x q s hx⟨hi1,hi2,hi3⟩=> ?_) (s0:=a.Const) ⟨fun y hy=>(by cases hy),by show a.Const=toF (rat a.Const+0);rw [Rat.add_zero,b7p hcr],by show SmF _ (rat a.Const+0);rw [Rat.add_zero];exact(b6w h1 hcr).mono (by unfold bnd;omega)⟩
  ·rcases L with⟨s',⟨hi1,rfl,hi3⟩,N,L⟩|⟨r,⟨rfl,hr⟩,N,L⟩
   ·refine Tt.of ⟨N,fun n hn=>L n (fun s=>some (s,true)) hn⟩ (.inl ⟨?_,?_,?_⟩)
    ·rw [<-hz2,<-hz1,Bool.or_eq_false_iff,List.any_eq_false,List.any_eq_false]
     refine⟨fun y hy=> ?_,fun y hy=> ?_⟩
     ·obtain⟨z,hz,rfl⟩:=List.mem_map.1 hy
      rw [(hi1 z hz).2];decide
     ·obtain⟨z,hz,rfl⟩:=List.mem_map.1 hy
      rw [(hi1 z hz).1];decide
    ·have:(xs.map fun y=>rat y.2)=a.Coefs.map rat:=by rw [<-hz2,List.map_map];rfl
     rw [this];rfl
    ·have:(xs.map fun y=>rat y.2)=a.Coefs.map rat:=by rw [<-hz2,List.map_map];rfl
     rw [this,hzl]at hi3;exact hi3
   ·exact Tt.of ⟨N,fun n hn=>L n (fun s=>some (s,true)) hn⟩ (.inr ⟨hr,rfl⟩)
  ·have hxm:x∈xs:=by rw [hx];simp
   have hxw:x.1∈weights:=by rw [<-hz1];exact List.mem_map.2 ⟨x,hxm,rfl⟩
   have hxc:x.2∈a.Coefs:=by rw [<-hz2];exact List.mem_map.2 ⟨x,hxm,rfl⟩
   have hixc:ix a.Coefs (p.length:Int)=some x.2:=by have:=d6u (h:=Prod.snd) hx;rwa [hz2]at this
   have hixw:ix weights (p.length:Int)=some x.1:=by have:=d6u (h:=Prod.fst) hx;rwa [hz1]at this
   obtain⟨N1,e1⟩:=b5g (hw _ hxw).1 (hw _ hxw).2 (show W<8388608 by omega)
   obtain⟨N2,e2⟩:=b5g (h2 _ hxc).1 (h2 _ hxc).2 (show A<8388608 by omega)
   dsimp only at e1 e2
   by_cases hbw:a5r x.1=true
   ·by_cases hbc:a5r x.2=true
    ·left
     have hpl:p.length<weights.length:=by rw [<-hzl,hx];simp
     have hb1:bnd A W (p.length+1)<=bnd A W weights.length:=b6h hpl
     have hbs:=d6s A W p.length
     have s1:=b6w (h2 _ hxc) hbc
     have s2:=b6w (hw _ hxw) hbw
     obtain⟨N3,e3⟩:=QMul_ev s1 s2 (by omega)
     obtain⟨N4,e4⟩:=QAdd_ev hi3 (s1.mul s2) (by omega)
     dsimp only at e3 e4
     rw [b7p hbc,b7p hbw]at e3
     have hget:(weights.map rat)[(p.map fun y=>rat y.2).length]?=some (rat x.1):=by
      rw [List.length_map,List.getElem?_map]
      have:weights[p.length]?=some x.1:=by rw [<-hz1,hx,List.map_append,List.map_cons];simp
      rw [this];rfl
     have hv:rat a.Const+dot ((p++ [x]).map fun y=>rat y.2) (weights.map rat)=rat a.Const+dot (p.map fun y=>rat y.2) (weights.map rat)+rat x.2*rat x.1:=by
      rw [List.map_append,List.map_cons,List.map_nil,dot_snoc _ _ _ _ hget,Rat.add_assoc]
     refine⟨_,⟨fun y hy=> ?_,rfl,?_⟩,max (max N1 N2) (max N3 N4),fun n k hn=> ?_⟩
     ·rcases List.mem_append.1 hy with hy|hy
      ·exact hi1 y hy
      ·obtain rfl:=List.mem_singleton.1 hy
       unfold badC;rw [hbw,hbc];exact⟨rfl,rfl⟩
     ·rw [hv,List.length_append,List.length_singleton,<-hbs]
      exact hi3.add (s1.mul s2)
     ·subst hi2
      rw [e1 n (by omega),Option.bind_some,hbw,Bool.not_true,cond_false,hixc,Option.bind_some,e2 n (by omega),Option.bind_some,hbc,Option.bind_some,Bool.not_true,cond_false,Option.bind_some,hixw,Option.bind_some,e3 n (by omega)]
      show(a7h n _ (toF (rat x.2*rat x.1))).bind _=_
      rw [e4 n (by omega),hv];rfl
    ·have hbc:a5r x.2=false:=by simpa using hbc
     refine .inr ⟨_,⟨rfl,?_⟩,max N1 N2,fun n k hn=> ?_⟩
     ·rw [Bool.or_eq_true];left
      exact List.any_eq_true.2 ⟨x.2,hxc,by unfold badC;rw [hbc];rfl⟩
     ·rw [e1 n (by omega),Option.bind_some,hbw,Bool.not_true,cond_false,hixc,Option.bind_some,e2 n (by omega),Option.bind_some,hbc];rfl
   ·have hbw:a5r x.1=false:=by simpa using hbw
    refine .inr ⟨_,⟨rfl,?_⟩,N1,fun n k hn=> ?_⟩
    ·rw [Bool.or_eq_true];right
     exact List.any_eq_true.2 ⟨x.1,hxw,by unfold badC;rw [hbw];rfl⟩
    ·rw [e1 n (by omega),Option.bind_some,hbw];rfl
theorem d3h{l:List Affine}(hl:l.length<=9223372036854775807)(h1:∀a,a∈l->LimF A a.Const)(h2:∀a,a∈l->Lim A a.Coefs)(hw:Lim W weights)(hn:weights.length<=1000)(hA:A<1000000)(hW:W<1000000)(hB:bnd A W weights.length<1000000):
 Tt (fun r=>((badL (weights.length:Int) l||weights.any badC)=false/\∃v,r=(toF v,true)/\SmF (bnd A W weights.length) v/\Gr (l.map decA) (weights.map rat) v)∨((badL (weights.length:Int) l||weights.any badC)=true/\r=(zeroF,false))) (fun n=>a8h n l weights):=by
 unfold a8h
 have L:=lpR (xs:=l) (h:=id) (σ:=Frac) (ρ:=Frac×Bool) (by omega) (L:=fun n K m i s=>ref37_Greatest_L1 n l weights (fun x y z u=>K ⟨⟨x,y⟩,⟨z,u⟩⟩) m i s.P.Sign s.P.Digits s.Q.Sign s.Q.Digits)
  (B:=fun n i x s k=>(a9x n x weights).bind fun v1=>bif !v1.2 then some ((⟨(⟨0,[]⟩:Big),(⟨0,[]⟩:Big)⟩:Frac),false)else(bif i==0 then some true else(a3l n v1.1 s).bind fun v3=>some (decide (0<v3))).bind fun v2=>bif v2 then k v1.1 else k s)
  (fun n K m i s=>by rw [ref37_Greatest_L1_s,List.map_id]) (fun p s=>(p= []/\s=zeroF)∨((∀a,a∈p->oddA (weights.length:Int) a=false)/\weights.any badC=false/\∃v,s=toF v/\SmF (bnd A W weights.length) v/\Gr (p.map decA) (weights.map rat) v)) (fun r=>r=(zeroF,false)/\(badL (weights.length:Int) l||weights.any badC)=true) (fun p x q s hx hi=> ?_) (s0:=⟨⟨0,[]⟩,⟨0,[]⟩⟩) (.inl ⟨rfl,rfl⟩)
 ·rcases L with⟨s',hi,N,L⟩|⟨r,⟨rfl,hr⟩,N,L⟩
  ·have hev:Ev (fun n=>ref37_Greatest_L1 n l weights (fun(f5:Int)(f6:(List Int))(f7:Int)(f8:(List Int))=>some ((⟨(⟨f5,f6⟩:Big),(⟨f7,f8⟩:Big)⟩:Frac),decide (0<(l.length:Int)))) n 0 0 [] 0 []) (s',decide (0<(l.length:Int))):=⟨N,fun n hn=>L n (fun s=>some (s,decide (0<(l.length:Int)))) hn⟩
   rcases hi with⟨rfl,rfl⟩|⟨k1,k2,v,rfl,k3,k4⟩
   ·exact Tt.of hev (.inr ⟨rfl,rfl⟩)
   ·have hne:l≠ []:=by
     rintro rfl
     obtain⟨⟨a,ha,_⟩,_⟩:=k4
     cases ha
    have hpos:0<l.length:=List.length_pos_iff.2 hne
    refine Tt.of hev (.inl ⟨?_,v,by rw [decide_eq_true (by omega)],k3,k4⟩)
    unfold badL
    rw [k2,Bool.or_false,Bool.or_eq_false_iff,List.any_eq_false]
    exact⟨by rw [beq_eq_false_iff_ne];omega,fun a ha=>by rw [k1 a ha];decide⟩
  ·exact Tt.of ⟨N,fun n hn=>L n (fun s=>some (s,decide (0<(l.length:Int)))) hn⟩ (.inr ⟨hr,rfl⟩)
 ·have hxm:x∈l:=by rw [hx];simp
  obtain⟨r,⟨N1,e1⟩,hr⟩:=d7o (weights:=weights) (h1 x hxm) (h2 x hxm) hw hn hA hW hB
  dsimp only at e1
  rcases hr with⟨g1,rfl,g2⟩|⟨g1,rfl⟩
  ·left
   obtain⟨g3,g4⟩:=Bool.or_eq_false_iff.1 g1
   rcases hi with⟨rfl,rfl⟩|⟨k1,k2,v,rfl,k3,k4⟩
   ·refine⟨_,.inr ⟨fun a ha=> ?_,g4,_,rfl,g2,d9y (decA x)⟩,N1,fun n k hn=> ?_⟩
    ·obtain rfl:=List.mem_singleton.1 ha;exact g3
    ·rw [show(id x:Affine)=x from rfl,e1 n hn];rfl
   ·obtain⟨N2,e2⟩:=QCompare_ev g2 k3 (by omega)
    dsimp only at e2
    have hp0:((p.length:Int)==0)=false:=by
     rw [beq_eq_false_iff_ne]
     intro e
     have:p= []:=List.length_eq_zero_iff.1 (by omega)
     subst this
     obtain⟨⟨a,ha,_⟩,_⟩:=k4
     cases ha
    have hcmp:decide (0<cmpQ (evA (weights.map rat) (decA x)) v)=decide (v<evA (weights.map rat) (decA x)):=by
     rcases b2z (evA (weights.map rat) (decA x)) v with⟨c1,c2⟩|⟨c1,c2⟩|⟨c1,c2⟩
     ·rw [c2,decide_eq_false (Rat.not_lt.2 (Rat.le_of_lt c1))];rfl
     ·rw [c2,c1,decide_eq_false Rat.lt_irrefl];rfl
     ·rw [c2,decide_eq_true c1];rfl
    have hsn:=d5q k4 (decA x)
    refine⟨toF (if v<evA (weights.map rat) (decA x)then evA (weights.map rat) (decA x)else v),.inr ⟨fun a ha=> ?_,k2,_,rfl,by split;exact g2;exact k3,by rw [List.map_append];exact hsn⟩,max N1 N2,fun n k hn=> ?_⟩
    ·rcases List.mem_append.1 ha with ha|ha
     ·exact k1 a ha
     ·obtain rfl:=List.mem_singleton.1 ha;exact g3
    ·rw [show(id x:Affine)=x from rfl,e1 n (by omega),Option.bind_some,Bool.not_true,cond_false,hp0,cond_false]
     show((a3l n (toF (evA (weights.map rat) (decA x))) (toF v)).bind _).bind _=_
     rw [e2 n (by omega),Option.bind_some,Option.bind_some,hcmp]
     by_cases hlt:v<evA (weights.map rat) (decA x)
     ·rw [decide_eq_true hlt,cond_true,if_pos hlt]
     ·rw [decide_eq_false hlt,cond_false,if_neg hlt]
  ·refine .inr ⟨_,⟨rfl,?_⟩,N1,fun n k hn=>by rw [show(id x:Affine)=x from rfl,e1 n hn];rfl⟩
   rcases Bool.or_eq_true _ _▸g1 with h|h
   ·rw [Bool.or_eq_true];left
    unfold badL
    rw [Bool.or_eq_true];right
    exact List.any_eq_true.2 ⟨x,hxm,h⟩
   ·rw [Bool.or_eq_true];exact .inr h
end
end Go.Proofs.YthaegflpecbfgaaGreatDoor.Fm
namespace Go.Proofs.YthaegflpecbfgaaGreatDoor.Fm
open Go Rt M Ta Tp D Fe
theorem d7v(x:M.Form)(hl:x.Pieces.length<=9223372036854775807):Tt (fun _=>True) (fun n=>b2y n x):=by
 unfold b2y
 have L:=d3e (xs:=x.Pieces) (σ:=Int) (ρ:=Int) (κ:=Int->Option Int) (L:=fun n K m i s=>ref37_Size_L1 n x K m s i) (fun K s=>K s) (fun _ _=>True) (fun _=>False) (fun p l q s hx _=> .inl ⟨iadd .i64 s (l.length:Int),trivial,0,fun n K m _=> ?_⟩) (fun s _=>⟨0,fun n K m _=>by rw [ref37_Size_L1_s,c7h];rfl⟩) (s0:=0) trivial
 ·rcases L with⟨s,_,N,L⟩|⟨r,hr,_⟩
  ·exact Tt.of ⟨N,fun n hn=>L n _ hn⟩ trivial
  ·exact hr.elim
 ·have hix:ix x.Pieces (p.length:Int)=some l:=by rw [hx];exact a4x _ _ _ rfl
  have h5:p.length<9223372036854775807:=by rw [hx,List.length_append,List.length_cons]at hl;omega
  rw [ref37_Size_L1_s,more hx,cond_true,hix,Option.bind_some,d4v h5]
structure FewX(x:M.Form):Prop where
 lim:LimX 3 x
 co:∀l,l∈x.Pieces->∀a,a∈l->a.Coefs.length<=8
theorem d6y{x:M.Form}(hx1:x.Pieces.length<=9223372036854775807)(hx2:∀l,l∈x.Pieces->l.length<=9223372036854775807):Tt (fun b=>b=true->FewX x) (fun n=>a9n n x):=by
 unfold a9n
 refine Tt.bind (P:=fun b=>b=false->x.Pieces.length<=30) (Tt.bif (fun h=>Tt.pure fun h=>by cases h) (fun h=>Tt.bind (d7v x hx1) fun s _=>Tt.pure fun _=>by have:=of_decide_eq_false h;omega)) fun b hb=> ?_
 refine Tt.bif (fun _=>Tt.pure fun h=>by cases h) (fun h=> ?_)
 have h30:=hb h
 have c3:∀a:Affine,a.Coefs.length<=8->(Lim 3 a.Coefs/\∃N,∀n(K:Option Bool),N<=n->ref37_FewForm_L3 n a K n 0=K)∨(∃N,∀n(K:Option Bool),N<=n->ref37_FewForm_L3 n a K n 0=some false):=by
  intro a ha
  have L:=lpR (xs:=a.Coefs) (h:=id) (σ:=Unit) (ρ:=Bool) (by omega) (L:=fun n K m i _=>ref37_FewForm_L3 n a (K ()) m i) (B:=fun n i c _ k=>(a9l n c 3).bind fun v3=>bif !v3 then some false else k ()) (fun n K m i s=>by rw [ref37_FewForm_L3_s,List.map_id]) (fun p _=>Lim 3 p) (fun r=>r=false) (fun p c q s hx hi=> ?_) (s0:=()) (fun w hw=>by cases hw)
  ·rcases L with⟨_,h1,N,L⟩|⟨r,rfl,N,L⟩
   ·exact .inl ⟨h1,N,fun n K hn=>L n (fun _=>K) hn⟩
   ·exact .inr ⟨N,fun n K hn=>L n (fun _=>K) hn⟩
  ·obtain⟨N,e⟩:=d7u c 3
   dsimp only at e
   cases hc:(decide ((c.P.Digits.length:Int)<=3)&&decide ((c.Q.Digits.length:Int)<=3))with
   |true=>
    refine .inl ⟨(),fun w hw=> ?_,N,fun n k hn=>by rw [show(id c:Frac)=c from rfl,e n hn,hc];rfl⟩
    rcases List.mem_append.1 hw with hw|hw
    ·exact hi w hw
    ·obtain rfl:=List.mem_singleton.1 hw
     exact c8f (k:=3) hc
   |false=>exact .inr ⟨false,rfl,N,fun n k hn=>by rw [show(id c:Frac)=c from rfl,e n hn,hc];rfl⟩
 have c2:∀(p:List (List Affine))l q,x.Pieces=p++l::q->((∀a,a∈l->a.Coefs.length<=8/\LimF 3 a.Const/\Lim 3 a.Coefs)/\∃N,∀n(K:List (List Affine)->Option Bool),N<=n->ref37_FewForm_L2 n (p.length:Int) K n 0 x.Pieces=K x.Pieces)∨(∃N,∀n(K:List (List Affine)->Option Bool),N<=n->ref37_FewForm_L2 n (p.length:Int) K n 0 x.Pieces=some false):=by
  intro p l q hx
  have hix:ix x.Pieces (p.length:Int)=some l:=by rw [hx];exact a4x _ _ _ rfl
  have hll:=hx2 l (by rw [hx];simp)
  have L:=d3e (xs:=l) (σ:=Unit) (ρ:=Bool) (κ:=List (List Affine)->Option Bool) (L:=fun n K m i _=>ref37_FewForm_L2 n (p.length:Int) K m i x.Pieces) (fun K _=>K x.Pieces) (fun p2 _=>∀a,a∈p2->a.Coefs.length<=8/\LimF 3 a.Const/\Lim 3 a.Coefs) (fun r=>r=false) (fun p2 a q2 s hx2 hi=> ?_) (fun s _=>⟨0,fun n K m _=>by rw [ref37_FewForm_L2_s,hix,Option.bind_some,c7h];rfl⟩) (s0:=()) (fun a ha=>by cases ha)
  ·rcases L with⟨_,h1,L⟩|⟨r,rfl,L⟩
   ·exact .inl ⟨h1,L⟩
   ·exact .inr L
  ·have hixa:ix l (p2.length:Int)=some a:=by rw [hx2];exact a4x _ _ _ rfl
   have h5:p2.length<9223372036854775807:=by rw [hx2,List.length_append,List.length_cons]at hll;omega
   obtain⟨N1,e1⟩:=d7u a.Const 3
   dsimp only at e1
   have one:∀n(K:List (List Affine)->Option Bool)m,N1<=n->ref37_FewForm_L2 n (p.length:Int) K (m+1) (p2.length:Int) x.Pieces=bif(decide ((8:Int)<(a.Coefs.length:Int))|| !(decide ((a.Const.P.Digits.length:Int)<=3)&&decide ((a.Const.Q.Digits.length:Int)<=3)))then some false else ref37_FewForm_L3 n a (ref37_FewForm_L2 n (p.length:Int) K m ((p2.length+1:Nat):Int) x.Pieces) n 0:=by
    intro n K m hn
    rw [ref37_FewForm_L2_s,hix,Option.bind_some,more hx2,cond_true,Option.bind_some,hixa,Option.bind_some,e1 n hn,Option.bind_some,d4v h5]
    cases decide ((8:Int)<(a.Coefs.length:Int))<;>rfl
   cases hb2:(decide ((8:Int)<(a.Coefs.length:Int))|| !(decide ((a.Const.P.Digits.length:Int)<=3)&&decide ((a.Const.Q.Digits.length:Int)<=3)))with
   |true=>exact .inr ⟨false,rfl,N1,fun n K m hn=>by rw [one n K m hn,hb2];rfl⟩
   |false=>
    obtain⟨g1,g2⟩:=Bool.or_eq_false_iff.1 hb2
    have g1:=of_decide_eq_false g1
    have g2:(decide ((a.Const.P.Digits.length:Int)<=3)&&decide ((a.Const.Q.Digits.length:Int)<=3))=true:=by simpa using g2
    rcases c3 a (by omega)with⟨k1,N2,k2⟩|⟨N2,k2⟩
    ·refine .inl ⟨(),fun b hb=> ?_,max N1 N2,fun n K m hn=>by rw [one n K m (by omega),hb2,cond_false,k2 n _ (by omega)]⟩
     rcases List.mem_append.1 hb with hb|hb
     ·exact hi b hb
     ·obtain rfl:=List.mem_singleton.1 hb
      exact⟨by omega,c8f (k:=3) g2,k1⟩
    ·exact .inr ⟨false,rfl,max N1 N2,fun n K m hn=>by rw [one n K m (by omega),hb2,cond_false,k2 n _ (by omega)]⟩
 have L:=d3e (xs:=x.Pieces) (σ:=Unit) (ρ:=Bool) (κ:=Option Bool) (L:=fun n K m i _=>ref37_FewForm_L1 n K m i x.Pieces) (fun K _=>K) (fun p _=>∀l,l∈p->∀a,a∈l->a.Coefs.length<=8/\LimF 3 a.Const/\Lim 3 a.Coefs) (fun r=>r=false) (fun p l q s hx hi=> ?_) (fun s _=>⟨0,fun n K m _=>by rw [ref37_FewForm_L1_s,c7h];rfl⟩) (s0:=()) (fun a ha=>by cases ha)
 ·rcases L with⟨_,h1,N,L⟩|⟨r,rfl,N,L⟩
  ·exact Tt.of ⟨N,fun n hn=>L n _ hn⟩ fun _=>⟨⟨by omega,hx2,fun l hl a ha=>by have:=(h1 l hl a ha).1;omega,fun l hl a ha=>(h1 l hl a ha).2.1,fun l hl a ha=>(h1 l hl a ha).2.2⟩,fun l hl a ha=>(h1 l hl a ha).1⟩
  ·exact Tt.of ⟨N,fun n hn=>L n _ hn⟩ fun h=>by cases h
 ·have h5:p.length<9223372036854775807:=by rw [hx,List.length_append,List.length_cons]at hx1;omega
  rcases c2 p l q hx with⟨k1,N,k2⟩|⟨N,k2⟩
  ·refine .inl ⟨(),fun l2 hl2=> ?_,N,fun n K m hn=>by rw [ref37_FewForm_L1_s,more hx,cond_true,k2 n _ hn,d4v h5]⟩
   rcases List.mem_append.1 hl2 with hl2|hl2
   ·exact hi l2 hl2
   ·obtain rfl:=List.mem_singleton.1 hl2;exact k1
  ·exact .inr ⟨false,rfl,N,fun n K m hn=>by rw [ref37_FewForm_L1_s,more hx,cond_true,k2 n _ hn]⟩
theorem sane37:Ev b3h true:=⟨400,fun n hn=>by
 obtain⟨m,rfl⟩:∃m,n=m+400:=⟨n-400,by omega⟩
 kernel_rfl⟩
end Go.Proofs.YthaegflpecbfgaaGreatDoor.Fm
namespace Go.Proofs.YthaegflpecbfgaaGreatDoor.Fm
open Go Rt M Ta Tp D Fe
theorem c4j(l:List Frac)(hl:l.length<=1000000)(c:Bool){k:Nat}(hk:k<=2000000):∀(us:List Frac)(i:Nat),l.drop i=us->Lim k us->
 ∃N,∀n m,N<=n->us.length<m->ref36_Weights_L1 n l (some c) m (i:Int)=some (!(us.any badF)&&c)
 | [],i,hd,_=>by
  refine⟨0,fun n m _ hm=> ?_⟩
  obtain⟨m,rfl⟩:=left hm
  rw [ref36_Weights_L1_s,a9e hd];rfl
 |x::us,i,hd,hw=>by
  obtain⟨h1,h2,h3⟩:=Rt.drop_cons hd
  obtain⟨N,ih⟩:=c4j l hl c hk us (i+1) h2 (fun w h=>hw w (by simp [h]))
  have hx:=hw x (by simp)
  obtain⟨N1,e1⟩:Ev (fun n=>(a2j n x).bind fun v1=>bif !v1 then some true else(ix l (i:Int)).bind fun ex2=>(b3c n ex2).bind fun v3=>some (decide (v3<0))) (badF x):=by
   refine Ev.bind (b5g hx.1 hx.2 (by omega)) ?_
   unfold badF
   cases hr:a5r x with
   |false=>exact Ev.then rfl (Ev.pure _)
   |true=>
    obtain⟨r,rfl,hs⟩:=d9l hx hr
    exact Ev.else rfl (Ev.step h1 (Ev.bind (a:=sg r.num) (by
     unfold b3c
     exact Ev.bind (a9u hs (by omega)) (Ev.else rfl (Ev.pure _))) (Ev.pure _)))
  refine⟨max N N1,fun n m hn hm=> ?_⟩
  obtain⟨m,rfl,hm2⟩:=pred (by simpa using hm)
  have e1:=e1 n (by omega)
  dsimp only at e1
  obtain⟨v1,g1,g2⟩:=Option.bind_eq_some_iff.1 e1
  rw [ref36_Weights_L1_s,a3y hd,cond_true,h1,Option.bind_some,g1,Option.bind_some]
  rw [h1]at g2
  rw [g2,Option.bind_some,List.any_cons]
  cases badF x with
  |true=>rfl
  |false=>rw [cond_false,Rt.inc64 (by omega),ih n m (by omega) hm2];rfl
theorem c2q{l:List Frac}{k:Nat}(hk:k<=2000000)(hl:l.length<=1000000)(hL:Lim k l)(j:Int):Ev (fun n=>a7w n l j) (!(l.any badF)&&((l.length:Int)==j)):=by
 unfold a7w
 obtain⟨N,e⟩:=c4j l hl ((l.length:Int)==j) hk l 0 rfl hL
 exact⟨N+l.length+1,fun n hn=>e n n (by omega) (by omega)⟩
theorem d2c{u v:List Rat}{A:Nat}(hu:∀w,w∈u->SmF A w)(hv:∀w,w∈v->SmF A w)(hlen:u.length=v.length)(hl:u.length<=1000)(hA:A<=1000000){part:Int}(h0:0<=part)(h1:part<=255):
 Ev (fun n=>a8o n (u.map toF) (v.map toF) (IntKind.i64.wrap part)) ((List.zipWith (fun x y=>x*(Rat.divInt part 256)+y*(Rat.divInt (256-part) 256)) u v).map toF):=by
 have hw:IntKind.i64.wrap part=part:=a5k (by omega) (by omega)
 have hsub:isub .i64 256 part=256-part:=a1f (by omega) (by omega)
 have hp:SmF 4 (Rat.divInt part 256):=b1c (a4a (c0h (by omega))) (a4a (c0h (by omega))) (by decide)
 have hq:SmF 4 (Rat.divInt (256-part) 256):=b1c (a4a (c0h (by omega))) (a4a (c0h (by omega))) (by decide)
 unfold a8o
 rw [hw]
 refine Ev.bind (d9q (by omega) (by omega) (by decide) (by decide) (by decide)) ?_
 rw [hsub]
 refine Ev.bind (d9q (by omega) (by omega) (by decide) (by decide) (by decide)) ?_
 have hlu:(u.map toF).length=u.length:=List.length_map ..
 have hlv:(v.map toF).length=u.length:=by rw [List.length_map,hlen]
 refine e1t (L:=fun n K=>law37_mixed_L1 n (u.map toF) (v.map toF) (toF (Rat.divInt part 256),0) (toF (Rat.divInt (256-part) 256),0) K n 0 ([]:List Frac)) (s:=(List.zipWith (fun x y=>x*(Rat.divInt part 256)+y*(Rat.divInt (256-part) 256)) u v).map toF) (K:=fun _ l2=>some l2) ?_ (Ev.pure _)
 refine d8y (xs:=u) (h:=toF) (by omega) (L:=fun n K m i s=>law37_mixed_L1 n (u.map toF) (v.map toF) (toF (Rat.divInt part 256),0) (toF (Rat.divInt (256-part) 256),0) K m i s) (B:=fun n i x s k=>((a8g n x (toF (Rat.divInt part 256))).bind fun v6=>some (v6.1.P.Sign,v6.1.P.Digits,v6.1.Q.Sign,v6.1.Q.Digits)).bind fun(f1,f2,f3,f4)=>
  ((ix (v.map toF) i).bind fun ex1=>(a8g n ex1 (toF (Rat.divInt (256-part) 256))).bind fun v5=>some (v5.1.P.Sign,v5.1.P.Digits,v5.1.Q.Sign,v5.1.Q.Digits)).bind fun(f5,f6,f7,f8)=>
  (a7h n (⟨(⟨f1,f2⟩:Big),(⟨f3,f4⟩:Big)⟩:Frac) (⟨(⟨f5,f6⟩:Big),(⟨f7,f8⟩:Big)⟩:Frac)).bind fun v4=>(app 64 s [v4.1]).bind k) (fun n K m i s=> ?_) (fun p=>(List.zipWith (fun x y=>x*(Rat.divInt part 256)+y*(Rat.divInt (256-part) 256)) p v).map toF) (fun p x q hx=> ?_) rfl
 ·rw [law37_mixed_L1_s,hlu,hlv,e6b,Option.bind_assoc]
 ·obtain⟨p2,y,q2,hv2,hp2⟩:=d1k (l:=v) (k:=p.length) (by rw [<-hlen,hx];simp)
  have h5:p.length<=1000:=by rw [hx,List.length_append]at hl;omega
  have sx:=hu x (by rw [hx];simp)
  have sy:=hv y (by rw [hv2];simp)
  obtain⟨N1,e1⟩:=QMul_ev sx hp (by omega)
  obtain⟨N2,e2⟩:=QMul_ev sy hq (by omega)
  obtain⟨N3,e3⟩:=QAdd_ev (sx.mul hp) (sy.mul hq) (by omega)
  dsimp only at e1 e2 e3
  have hix:ix (v.map toF) (p.length:Int)=some (toF y):=by rw [<-hp2];exact d6u hv2
  refine⟨max N1 (max N2 N3),fun n k hn=> ?_⟩
  rw [e1 n (by omega),Option.bind_some,Option.bind_some]
  dsimp only
  rw [hix,Option.bind_some,e2 n (by omega),Option.bind_some,Option.bind_some]
  show(a7h n (toF (x*Rat.divInt part 256)) (toF (y*Rat.divInt (256-part) 256))).bind _=_
  rw [e3 n (by omega),Option.bind_some,c4h (by simp only [List.length_map,List.length_zipWith,List.length_singleton];omega),Option.bind_some,hv2,d1w (op:=fun x y:Rat=>x*Rat.divInt part 256+y*Rat.divInt (256-part) 256) hp2,List.map_append];rfl
theorem d9j{op:Rat->Rat->Rat}{c:Rat}{a b:List Rat}(h:c∈List.zipWith op a b):∃x y,x∈a/\y∈b/\c=op x y:=d6w h
theorem c1s{x:M.Form}{a b:List Frac}{l:List Affine}(h:b4u x a=false)(hl:l∈x.Pieces)(hb:∀w,w∈b->badC w=false)(hlen:b.length=a.length):b4u ⟨[l]⟩ b=false:=by
 unfold b4u c4g at h⊢
 simp only [Bool.or_eq_false_iff,Bool.not_eq_false',Bool.and_eq_true,decide_eq_true_eq,Bool.not_eq_true']at h⊢
 obtain⟨h1,h2,h3⟩:=h
 refine⟨List.any_eq_false.2 fun w hw=>by rw [hb w hw];decide,by simp,?_⟩
 rw [hlen]
 show(badL (a.length:Int) l||false)=false
 rw [Bool.or_false]
 exact Bool.eq_false_iff.2 (List.any_eq_false.1 h3 l hl)
theorem d9f{A:Nat}{x:M.Form}(hx:LimX A x){l:List Affine}(hl:l∈x.Pieces):LimX A ⟨[l]⟩where
 len:=by simp
 lens:=fun m hm=>by obtain rfl:=List.mem_singleton.1 hm;exact hx.lens _ hl
 coefs:=fun m hm=>by obtain rfl:=List.mem_singleton.1 hm;exact hx.coefs _ hl
 con:=fun m hm=>by obtain rfl:=List.mem_singleton.1 hm;exact hx.con _ hl
 lim:=fun m hm=>by obtain rfl:=List.mem_singleton.1 hm;exact hx.lim _ hl
theorem c4z{w:Frac}(h:badF w=false):badC w=false:=by
 unfold badF at h
 unfold badC
 exact(Bool.or_eq_false_iff.1 h).1
theorem d9v{a b:Rat}(h:a<=b):decide (0<cmpQ a b)=false:=by
 rcases b2z a b with⟨_,e⟩|⟨_,e⟩|⟨c,_⟩
 ·rw [e];rfl
 ·rw [e];rfl
 ·exact absurd c (Rat.not_lt.2 h)
theorem fconvex_ev(x:M.Form)(a b:List Frac)(part:Int)(h0:0<=part)(h1:part<=255)(hx1:x.Pieces.length<=9223372036854775807)(hx2:∀l,l∈x.Pieces->l.length<=9223372036854775807)(hda:Lim 2000000 a)(hdb:Lim 2000000 b):Ev (fun n=>a6v n x a b part) true:=by
 unfold a6v
 refine Ev.bind sane37 ?_
 obtain⟨c,hc,hcq⟩:=d6y hx1 hx2
 refine Ev.bind hc ?_
 refine Ev.bind (orE (d:=decide (8<(a.length:Int))) fun _=>Ev.pure _) ?_
 refine Ev.bind (orE (d:=decide (8<(b.length:Int))) fun _=>Ev.pure _) ?_
 refine Ev.bind (orE (d:= !(!(a.any badF)&&((a.length:Int)==(a.length:Int)))) fun h=> ?_) ?_
 ·simp only [Bool.or_eq_false_iff,decide_eq_false_iff_not]at h
  exact Ev.bind (c2q (k:=2000000) (by omega) (by omega) hda _) (Ev.pure _)
 refine Ev.bind (orE (d:= !(!(b.any badF)&&((b.length:Int)==(a.length:Int)))) fun h=> ?_) ?_
 ·simp only [Bool.or_eq_false_iff,decide_eq_false_iff_not]at h
  exact Ev.bind (c2q (k:=2000000) (by omega) (by omega) hdb _) (Ev.pure _)
 generalize hv:((((!c||decide (8<(a.length:Int)))||decide (8<(b.length:Int)))|| !(!(a.any badF)&&((a.length:Int)==(a.length:Int))))|| !(!(b.any badF)&&((b.length:Int)==(a.length:Int))))=v6
 cases v6 with
 |true=>exact Ev.then rfl (Ev.pure _)
 |false=>
 refine Ev.else rfl ?_
 simp only [Bool.or_eq_false_iff,decide_eq_false_iff_not,Bool.not_eq_false',Bool.and_eq_true,Bool.not_eq_true',beq_iff_eq]at hv
 obtain⟨⟨⟨⟨v1,v2⟩,v3⟩,v4,_⟩,v5,v6⟩:=hv
 have hx:=hcq v1
 have hab:b.length=a.length:=by omega
 have ra:∀w,w∈a->badC w=false:=fun w hw=>c4z (Bool.eq_false_iff.2 (List.any_eq_false.1 v4 w hw))
 have rb:∀w,w∈b->badC w=false:=fun w hw=>c4z (Bool.eq_false_iff.2 (List.any_eq_false.1 v5 w hw))
 have L:=d3e (xs:=a) (σ:=Unit) (ρ:=Bool) (κ:=Option Bool) (L:=fun n K m i _=>law37_FormConvex_L1 n a b true K m i) (fun K _=>K) (fun p _=>Lim 3 p/\Lim 3 (b.take p.length)) (fun r=>r=true) (fun p w q s hxs hi=> ?_) (fun s _=>⟨0,fun n K m _=>by rw [law37_FormConvex_L1_s,c7h];rfl⟩) (s0:=()) ⟨fun w hw=>(by cases hw),fun w hw=>(by simp at hw)⟩
 rotate_left
 ·obtain⟨p2,y,q2,hv2,hp2⟩:=d1k (l:=b) (k:=p.length) (by rw [hab,hxs];simp)
  have h5:p.length<9223372036854775807:=by
   have:p.length<=a.length:=by rw [hxs];simp
   omega
  obtain⟨N1,e1⟩:=d7u w 3
  obtain⟨N2,e2⟩:=d7u y 3
  dsimp only at e1 e2
  have i1:ix a (p.length:Int)=some w:=by rw [hxs];exact a4x _ _ _ rfl
  have i2:ix b (p.length:Int)=some y:=by rw [hv2];exact a4x _ _ _ (by rw [hp2])
  cases hw:(decide ((w.P.Digits.length:Int)<=3)&&decide ((w.Q.Digits.length:Int)<=3))with
  |false=>exact .inr ⟨true,rfl,N1,fun n K m hn=>by rw [law37_FormConvex_L1_s,more hxs,cond_true,i1,Option.bind_some,e1 n hn,hw];rfl⟩
  |true=>
   cases hy:(decide ((y.P.Digits.length:Int)<=3)&&decide ((y.Q.Digits.length:Int)<=3))with
   |false=>exact .inr ⟨true,rfl,max N1 N2,fun n K m hn=>by rw [law37_FormConvex_L1_s,more hxs,cond_true,i1,Option.bind_some,e1 n (by omega),hw,Option.bind_some,Bool.not_true,cond_false,i2,Option.bind_some,e2 n (by omega),hy];rfl⟩
   |true=>
    refine .inl ⟨(),⟨fun z hz=> ?_,fun z hz=> ?_⟩,max N1 N2,fun n K m hn=>by rw [law37_FormConvex_L1_s,more hxs,cond_true,i1,Option.bind_some,e1 n (by omega),hw,Option.bind_some,Bool.not_true,cond_false,i2,Option.bind_some,e2 n (by omega),hy,Option.bind_some,Option.bind_some,Bool.not_true,cond_false,d4v h5]⟩
    ·rcases List.mem_append.1 hz with hz|hz
     ·exact hi.1 z hz
     ·obtain rfl:=List.mem_singleton.1 hz
      simp only [Bool.and_eq_true,decide_eq_true_eq]at hw
      omega
    ·rw [List.length_append,List.length_singleton,hv2,<-hp2,List.take_length_add_append]at hz
     rcases List.mem_append.1 hz with hz|hz
     ·exact hi.2 z (by rw [hv2,<-hp2,List.take_left'];exact hz;rfl)
     ·simp only [List.take_succ_cons,List.take_zero,List.mem_singleton]at hz
      obtain rfl:=hz
      simp only [Bool.and_eq_true,decide_eq_true_eq]at hy
      omega
 rcases L with⟨_,⟨la,lb⟩,N,L⟩|⟨r,rfl,N,L⟩
 rotate_left
 ·exact⟨N,fun n hn=>L n _ hn⟩
 rw [<-hab,List.take_length]at lb
 refine Ev.from N (fun n hn=>L n _ hn) ?_
 have a8:a.length<=8:=by omega
 have hB:bnd 3 3 a.length<1000000:=Nat.lt_of_le_of_lt (b6h a8) (by decide)
 obtain⟨r,e1,hr⟩:=At_t hx.lim la (by omega) (by decide) (by decide) hB
 refine Ev.bind e1 ?_
 rcases hr with⟨hr,v,rfl,hs,hval⟩|⟨_,rfl⟩
 rotate_left
 ·refine Ev.then rfl (Ev.bind (a:=true) (Ev.then rfl (Ev.bind (a:=true) ?_ (Ev.pure _))) (Ev.pure _))
  exact(c8d (f:=zeroF) (g:=zeroF) (by decide) (by decide)).eq (decide_eq_true rfl)
 refine Ev.else rfl ?_
 obtain⟨g1,g2,g3,g4,g5,g6,g7,g8⟩:=c8s hx.lim la hr
 have eb:b=(b.map rat).map toF:=by
  rw [List.map_map]
  exact(b3f fun w hw=>b7p (by have:=rb w hw;unfold badC at this;simpa using this)).symm
 have sb:∀w,w∈b.map rat->SmF 3 w:=fun w hw=>by
  obtain⟨z,hz,rfl⟩:=List.mem_map.1 hw
  exact b6w (lb z hz) (by have:=rb z hz;unfold badC at this;simpa using this)
 have hlr:(a.map rat).length=(b.map rat).length:=by rw [List.length_map,List.length_map,hab]
 have mx:=d2c (A:=3) g4 sb hlr (by rw [List.length_map];omega) (by decide) h0 h1
 rw [<-g2,<-eb]at mx
 refine Ev.bind mx ?_
 have pq:Rat.divInt part 256+Rat.divInt (256-part) 256=1:=by
  rw [Rat.divInt_add_divInt _ _ (by decide) (by decide)]
  rw [show part*256+(256-part)*256=256*256 by omega]
  decide
 have p0:(0:Rat)<=Rat.divInt part 256:=Rat.divInt_nonneg h0 (by decide)
 have q0:(0:Rat)<=Rat.divInt (256-part) 256:=Rat.divInt_nonneg (by omega) (by decide)
 have hp:SmF 4 (Rat.divInt part 256):=b1c (a4a (c0h (by omega))) (a4a (c0h (by omega))) (by decide)
 have hq:SmF 4 (Rat.divInt (256-part) 256):=b1c (a4a (c0h (by omega))) (a4a (c0h (by omega))) (by decide)
 generalize hmw:List.zipWith (fun x y=>x*(Rat.divInt part 256)+y*(Rat.divInt (256-part) 256)) (a.map rat) (b.map rat)=mw
 have lmw:mw.length=a.length:=by rw [<-hmw,List.length_zipWith,List.length_map,List.length_map,hab];omega
 have smw:∀w,w∈mw->SmF 15 w:=fun w hw=>by
  rw [<-hmw]at hw
  obtain⟨y,z,hy,hz,rfl⟩:=d9j hw
  exact(((g4 y hy).mul hp).add ((sb z hz).mul hq)).mono (by omega)
 have lm:Lim 15 (mw.map toF):=e0m smw
 have rm:∀w,w∈mw.map toF->badC w=false:=fun w hw=>by obtain⟨z,_,rfl⟩:=List.mem_map.1 hw;unfold badC;rw [b9s];rfl
 have hBm:bnd 3 15 a.length<1000000:=Nat.lt_of_le_of_lt (b6h a8) (by decide)
 have L:=d3e (xs:=x.Pieces) (σ:=Bool) (ρ:=Bool) (κ:=Bool->Option Bool) (L:=fun n K m i s=>law37_FormConvex_L2 n x a b part (toF v,true) (mw.map toF) K m s i) (fun K s=>K s) (fun p s=>(∃l,l∈p/\Gr (l.map decA) (a.map rat) v)->s=true) (fun _=>False) (fun p l q s hxs hi=> ?_) (fun s _=>⟨0,fun n K m _=>by rw [law37_FormConvex_L2_s,c7h];rfl⟩) (s0:=false) (fun⟨l,hl,_⟩=>by cases hl)
 ·rcases L with⟨s,hs2,N,L⟩|⟨_,hf,_⟩
  ·refine Ev.from N (fun n hn=>L n _ hn) ?_
   have:s=true:=hs2 (by
    obtain⟨i1,p,hp2,i2⟩:=hval
    obtain⟨l,hl,rfl⟩:=List.mem_map.1 (show p∈x.Pieces.map (·.map decA)from hp2)
    exact⟨l,hl,i1 _ hp2,i2⟩)
   subst this
   exact Ev.bind (a:=true) (Ev.then rfl (Ev.pure _)) (Ev.pure _)
  ·exact hf.elim
 ·have hlm:l∈x.Pieces:=by rw [hxs];simp
  have h5:p.length<9223372036854775807:=by
   have:p.length<x.Pieces.length:=by rw [hxs];simp
   omega
  have i1:ix x.Pieces (p.length:Int)=some l:=by rw [hxs];exact a4x _ _ _ rfl
  have wa:=c1s hr hlm ra rfl
  have wb:=c1s hr hlm rb hab
  have wm:=c1s hr hlm rm (by rw [List.length_map,lmw])
  obtain⟨rg,⟨N1,e1⟩,hg⟩:=d3h (hx.lim.lens l hlm) (hx.lim.con l hlm) (hx.lim.lim l hlm) la (by omega) (by decide) (by decide) hB
  dsimp only at e1
  have hgr:∃g,rg=(toF g,true)/\SmF (bnd 3 3 a.length) g/\Gr (l.map decA) (a.map rat) g:=by
   rcases hg with⟨_,g,h2,h3,h4⟩|⟨h2,_⟩
   ·exact⟨g,h2,h3,h4⟩
   ·unfold b4u c4g at wa
    simp only [Bool.or_eq_false_iff,Bool.not_eq_false',Bool.and_eq_true,Bool.not_eq_true',List.any_cons,List.any_nil,Bool.or_false]at wa
    rw [wa.1,wa.2.2]at h2;cases h2
  obtain⟨g,rfl,sg,gg⟩:=hgr
  have vg:v<=g:=by
   obtain⟨z,hz,hz2⟩:=hval.1 (l.map decA) (List.mem_map.2 ⟨l,hlm,rfl⟩)
   exact Rat.le_trans hz2 (gg.2 z hz)
  obtain⟨N2,e2⟩:=QCompare_ev hs sg (by omega)
  dsimp only at e2
  have hlg:=b9m hs
  obtain⟨N3,e3⟩:=c8d (f:=toF v) (g:=toF g) (by omega) (by omega)
  dsimp only at e3
  have one:∀{W:Nat}{ws:List Frac},W<1000000->Lim W ws->bnd 3 W a.length<1000000->ws.length=a.length->b4u ⟨[l]⟩ ws=false->∃u,Ev (fun n=>a6g n ⟨[l]⟩ ws) (toF u,true)/\SmF (bnd 3 W a.length) u/\Gr (l.map decA) (ws.map rat) u:=by
   intro W ws hW hl hB hlen hw
   obtain⟨r,e,hr⟩:=At_t (d9f hx.lim hlm) hl (by omega) (by decide) hW (by rw [hlen];exact hB)
   rcases hr with⟨_,u,rfl,h2,h3⟩|⟨h2,_⟩
   ·rw [hlen]at h2
    exact⟨u,e,h2,e0l h3⟩
   ·rw [hw]at h2;cases h2
  obtain⟨ua,⟨N4,e4⟩,sa,ga⟩:=one (by decide) la hB rfl wa
  obtain⟨ub,⟨N5,e5⟩,sb2,gb⟩:=one (by decide) lb hB hab wb
  obtain⟨um,⟨N6,e6⟩,sm,gm⟩:=one (by decide) lm hBm (by rw [List.length_map,lmw]) wm
  rw [ratW]at gm
  dsimp only at e4 e5 e6
  have le:um<=ua*Rat.divInt part 256+ub*Rat.divInt (256-part) 256:=by
   obtain⟨z,hz,hz2⟩:=gm.1
   rw [<-hmw,e5i pq z hlr]at hz2
   have m1:=Rat.mul_le_mul_of_nonneg_right (ga.2 z hz) p0
   have m2:=Rat.mul_le_mul_of_nonneg_right (gb.2 z hz) q0
   grind
  obtain⟨N7,e7⟩:=d2c (u:= [ua]) (v:= [ub]) (A:=bnd 3 3 a.length) (fun w hw=>by obtain rfl:=List.mem_singleton.1 hw;exact sa) (fun w hw=>by obtain rfl:=List.mem_singleton.1 hw;exact sb2) rfl (by simp) (by omega) h0 h1
  dsimp only at e7
  have e7':∀n,N7<=n->a8o n [toF ua] [toF ub] (IntKind.i64.wrap part)=some [toF (ua*Rat.divInt part 256+ub*Rat.divInt (256-part) 256)]:=fun n hn=>e7 n hn
  have sx:=((sa.mul hp).add (sb2.mul hq))
  have b1:bnd 3 3 a.length<=59:=b6h a8
  have b2:bnd 3 15 a.length<=155:=b6h a8
  obtain⟨N8,e8⟩:=QCompare_ev (sm.mono (show _<=200 by omega)) (sx.mono (show _<=200 by omega)) (by omega)
  dsimp only at e8
  refine .inl ⟨s||decide (toF v=toF g),fun⟨m,hm,hm2⟩=> ?_,max N1 (max N2 (max N3 (max N4 (max N5 (max N6 (max N7 N8)))))),fun n K m hn=> ?_⟩
  ·rcases List.mem_append.1 hm with hm|hm
   ·rw [hi ⟨m,hm,hm2⟩];rfl
   ·obtain rfl:=List.mem_singleton.1 hm
    rw [hm2.uniq gg,decide_eq_true rfl,Bool.or_true]
  ·have e9:(bif s then some true else(a4s n (toF v) (toF g)).bind fun v22=>some v22)=some (s||decide (toF v=toF g)):=by
    cases s
    ·rw [cond_false,e3 n (by omega)];rfl
    ·rfl
   rw [law37_FormConvex_L2_s,more hxs,cond_true,i1,Option.bind_some,e1 n (by omega),Option.bind_some,Bool.not_true,cond_false]
   show((a3l n (toF v) (toF g)).bind _).bind _=_
   rw [e2 n (by omega),Option.bind_some,d9v vg,Option.bind_some,cond_false]
   show(bif s then some true else(a4s n (toF v) (toF g)).bind fun v22=>some v22).bind _=_
   rw [e9,Option.bind_some,Option.bind_some,e4 n (by omega),Option.bind_some,e5 n (by omega),Option.bind_some,e6 n (by omega),Option.bind_some,Bool.not_true,cond_false,Option.bind_some,cond_false,Option.bind_some,cond_false,e7' n (by omega),Option.bind_some]
   show(a3l n (toF um) (toF (ua*Rat.divInt part 256+ub*Rat.divInt (256-part) 256))).bind _=_
   rw [e8 n (by omega),Option.bind_some,d9v le,cond_false,d4v h5]
end Go.Proofs.YthaegflpecbfgaaGreatDoor.Fm
namespace Go.Proofs.YthaegflpecbfgaaGreatDoor.FormConvex
open Go Go.ChangeShapes Go.WideShapes Go.ChangeAt Go.RowKit Rt Wrap
set_option maxRecDepth 100000 in
theorem d8n(H:Type)(enc:TypeId×Value->H)(W:World)(base:Nat)(args:Array Value)(ds gs:List (DataW H))(before:List MemPlace)
 (hval:∀(j:Nat)t v,Tryz.f5.params[j]?=some t->args[j]?=some v->Value.okWide Tryz.prog W .any base t v)
 (hW:DataW.Whole enc Tryz.prog Tryz.f5.params.toList Rows.formConvexSpec.vars false W args.toList ds gs before) (hL:laidMetH Tryz.prog tabs W) (hk:Rows.uptoSmall H (ds++gs)=true):
 Calls Tryz.prog 5 args W fun e W'=>∃v,e= .returned v/\Rows.formConvexSpec.post enc Tryz.prog Tryz.f5 false true false false W args v W':=by
 have hW':=hW
 obtain⟨p,q,hA0,hV,rfl,hfz,hnd⟩:=hW
 have hA:DataW.TrodAll enc Tryz.prog W 0 (fun _=>true) true Tryz.f5.params.toList args.toList ds p:=hA0
 rw [Tryz.params5]at hA hval
 obtain⟨v0,vs0,d0,ds0,p0,q0,hargs,rfl,rfl,h0,r0⟩:=trodAll_cons hA
 obtain⟨v1,vs1,d1,ds1,p1,q1,rfl,rfl,rfl,h1,r1⟩:=trodAll_cons r0
 obtain⟨v2,vs2,d2,ds2,p2,q2,rfl,rfl,rfl,h2,r2⟩:=trodAll_cons r1
 obtain⟨v3,vs3,d3,ds3,p3,q3,rfl,rfl,rfl,h3,r3⟩:=trodAll_cons r2
 obtain⟨rfl,rfl,rfl⟩:=trodAll_nil r3
 obtain rfl:args= #[v0,v1,v2,v3]:=by cases args;simp_all
 obtain⟨rfl,rfl⟩:=trodVars_none hV
 have hb:Rows.uptoBulkAll ([d0,d1,d2,d3]++ [])<=1048576:=by simpa [Rows.uptoSmall]using hk
 have hb1:Rows.uptoBulk d1<=1048576:=Nat.le_trans (c0z (by simp)) hb
 have hb2:Rows.uptoBulk d2<=1048576:=Nat.le_trans (c0z (by simp)) hb
 obtain⟨cs0,rfl,hsz0⟩:=okWide_struct Tryz.underlying34 (hval 0 34 v0 rfl rfl)
 obtain⟨y0,hr0,ho0⟩:=d9a (e2x W) h0
 obtain⟨ax0_0,nx0_0,cx0_0,he0,sx0_0⟩:=hr0
 have he0':cs0.toList= [.slice ax0_0 nx0_0 cx0_0]:=he0
 obtain rfl:cs0= #[.slice ax0_0 nx0_0 cx0_0]:=by rw [<-Array.toArray_toList (xs:=cs0),he0']
 obtain⟨a1,n1,c1,l1,rfl,hl1,ho1⟩:=c7a W (hval 1 31 v1 rfl rfl) h1 hb1
 obtain⟨a2,n2,c2,l2,rfl,hl2,ho2⟩:=c7a W (hval 2 31 v2 rfl rfl) h2 hb2
 obtain⟨i3,rfl,rfl,rfl,hi3⟩:=open_int Tryz.underlying5 (hval 3 5 v3 rfl rfl) h3
 have hi':IntKind.u8.min<=i3/\i3<=IntKind.u8.max:=by simpa [Lit.wf]using hi3
 have hi:0<=i3/\i3<=255:=⟨Int.le_trans (by decide) hi'.1,Int.le_trans hi'.2 (by decide)⟩
 have hx:maxLen<=9223372036854775807:=by decide
 have hm:(1048576:Nat)<=2000000:=by decide
 obtain⟨N,hN⟩:=Fm.fconvex_ev y0 l1 l2 i3 hi.1 hi.2 (Nat.le_trans ho0.1 hx) (fun l hl=>Nat.le_trans (ho0.2 l hl).1 hx) (fun w hw=>⟨Nat.le_trans (ho1 w hw).1 hm,Nat.le_trans (ho1 w hw).2 hm⟩) (fun w hw=>⟨Nat.le_trans (ho2 w hw).1 hm,Nat.le_trans (ho2 w hw).2 hm⟩)
 refine(M.law37_FormConvex_ok' N y0 l1 l2 i3 true (hN N (Nat.le_refl N)) (e0w W) sx0_0 hl1 hl2 (e4a hL)).mono ?_
 rintro e W' ⟨v,F',O',rfl,hh,rfl,rfl⟩
 refine⟨_,rfl,d4q laidOut ?_ rfl (by kernel_rfl) Tryz.underlying4 rfl hW' hh.below⟩
 rw [Tryz.params5]
 intro t ht
 have ht:t∈ [34,31,31,5]:=ht
 rcases List.mem_cons.1 ht with rfl|ht
 ·exact⟨by kernel_rfl,of_decide_eq_true (by kernel_rfl)⟩
 rcases List.mem_cons.1 ht with rfl|ht
 ·exact⟨by kernel_rfl,of_decide_eq_true (by kernel_rfl)⟩
 rcases List.mem_cons.1 ht with rfl|ht
 ·exact⟨by kernel_rfl,of_decide_eq_true (by kernel_rfl)⟩
 rcases List.mem_cons.1 ht with rfl|ht
 ·exact⟨by kernel_rfl,of_decide_eq_true (by kernel_rfl)⟩
 exact absurd ht (List.not_mem_nil)
theorem reads(os:Os){H:Type}(enc:TypeId×Value->H):∃places,DataW.whole enc Tryz.prog ((c2r os).forCall (fun _ _=>0) ⟨#[], #[.agg #[.slice none 0 0],.slice none 0 0,.slice none 0 0,.int .u8 0],[]⟩).memory Tryz.f5.params.toList Rows.formConvexSpec.vars false (#[.agg #[.slice none 0 0],.slice none 0 0,.slice none 0 0,.int .u8 0]:Array Value).toList 8=some ([.agg [.nil],.nil,.nil,.lit (.int .u8 0)],[],places):=
 ⟨[],by kernel_rfl⟩
set_option maxRecDepth 100000 in
theorem e3u(os:Os)(started:os.Started)(H:Type)(enc:TypeId×Value->H)(F:Stop.Interp):
 ReturnsInHanded {} Tryz.checked os 5 .any ((Rows.OpenSpec.upto Rows.formConvexSpec).preRow enc Tryz.prog Tryz.f5 Rows.formConvexUptoRow.domain false Rows.formConvexUptoRow.laid) (((Rows.OpenSpec.upto Rows.formConvexSpec).at F).post enc Tryz.prog Tryz.f5 false true false false):=by
 obtain⟨places,hx⟩:=reads os enc
 refine returnsInHanded_of_row (C:=Tryz.checked) (s:=Rows.OpenSpec.upto Rows.formConvexSpec) own started (by kernel_rfl) Tryz.func5
  (witness_row_at (enc:=enc) (C:=Tryz.checked) false (c2r os) #[.agg #[.slice none 0 0],.slice none 0 0,.slice none 0 0,.int .u8 0] rfl (by kernel_rfl) (by kernel_rfl) (by kernel_rfl)
   (OpenSpec.preRow_of_cond 8 hx (by kernel_rfl) (fun k hk=>by cases hk;kernel_rfl) (by kernel_rfl) (d7s os _))) ?_
 intro W base args ds gs before hval hW _ hcond _ hL _ _
 exact d8n H enc W base args ds gs before hval hW hL (hcond _ rfl)
theorem said:Rows.FormConvexUptoSaid:=
 OpenClaim.holds_of_cond 5 Tryz.f5 rfl rfl rfl rfl rfl rfl rfl ⟨rfl,rfl,rfl,rfl,rfl⟩ rfl rfl rfl rfl rfl (by kernel_rfl) Tryz.func5 (by kernel_rfl)
  (of_decide_eq_true (by kernel_rfl)) (by unfold Func.isWrapper;first|(rw [if_pos (by decide+kernel)];kernel_rfl)|(rw [if_neg (by decide+kernel)];exact⟨rfl,rfl⟩))
  (fun os started H enc _ F=>by rw [OpenClaim.pre_eq_preRow];exact e3u os started H enc F)
theorem e6g(f:FuncId)(fn:Func)(hf:Tryz.pinned.checked.prog.funcNamed "kerbside/kerbsidelaw37.FormConvex" =some f)(hfn:Tryz.pinned.checked.prog.funcs[f]?=some fn):
 false=Tryz.pinned.checked.prog.looks []/\∀(j:Nat)t,fn.params[j]?=some t->Tryz.pinned.checked.prog.wantsStandIn t=false:=by
 obtain rfl:f=5:=Option.some.inj ((show Tryz.prog.funcNamed "kerbside/kerbsidelaw37.FormConvex" =some 5 by kernel_rfl).symm.trans hf)|>.symm
 obtain rfl:fn=Tryz.f5:=(Option.some.inj (Tryz.func5.symm.trans hfn)).symm
 refine⟨by kernel_rfl,fun j t ht=> ?_⟩
 rw [Tryz.params5]at ht
 have ht:t∈ [34,31,31,5]:=Array.mem_toList_iff.2 (Array.mem_of_getElem? ht)
 rcases List.mem_cons.1 ht with rfl|ht
 ·exact(show Tryz.prog.wantsStandIn 34=false by kernel_rfl)
 rcases List.mem_cons.1 ht with rfl|ht
 ·exact(show Tryz.prog.wantsStandIn 31=false by kernel_rfl)
 rcases List.mem_cons.1 ht with rfl|ht
 ·exact(show Tryz.prog.wantsStandIn 31=false by kernel_rfl)
 rcases List.mem_cons.1 ht with rfl|ht
 ·exact(show Tryz.prog.wantsStandIn 5=false by kernel_rfl)
 exact absurd ht (List.not_mem_nil)
theorem card:Rows.FormConvexUptoCardSaid:=
 Claim7.holds_tied_plain_at .later [] _ _ _ _ said (fun _ h=>by cases h) (by kernel_rfl) (fun _ h=>by cases h) formConvexUpto_row_tie rfl ⟨rfl,rfl⟩ (by kernel_rfl) rfl e6g (by kernel_rfl)
end Go.Proofs.YthaegflpecbfgaaGreatDoor.FormConvex
