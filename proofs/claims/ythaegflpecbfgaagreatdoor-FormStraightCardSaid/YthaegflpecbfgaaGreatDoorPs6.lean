/- Several texts in one, for FormStraight.card: what the theorem leans on. -/
import Derived.Test.YthaegflpecbfgaaGreatDoorPs5
set_option maxHeartbeats 1000000
set_option maxRecDepth 1000000
set_option linter.unusedVariables false
set_option linter.unusedSimpArgs false
namespace Go.Proofs.YthaegflpecbfgaaGreatDoor.Tp
open Go Rt M Ta
def wd(a b:Int):Int:=bif a==2||b==2 then 2 else 1
theorem e7r(a b:Int):wd a b≠0:=by
 unfold wd
 cases a==2||b==2<;>decide
inductive Typ(names:List Rt.Bs):M.Expr->Int->Prop
 |num {m:Int}:0<=m->m<=1099511627776->Typ names ⟨0,m,[],[]⟩ 1
 |lifts {s:Rt.Bs}:Lx.name s=true->s∈names->Typ names ⟨1,0,s,[]⟩ 1
 |pers:Typ names ⟨2,0,[],[]⟩ 1
 |flats:Typ names ⟨3,0,[],[]⟩ 1
 |wgt {s:Rt.Bs}:Lx.name s=true->s∈names->Typ names ⟨4,0,s,[]⟩ 2
 |ari {o:Int} {a b:M.Expr} {p q:Int}:(o=5∨o=6∨o=9∨o=10)->Typ names a p->Typ names b q->p≠0->q≠0->Typ names ⟨o,0,[],[a,b]⟩ (wd p q)
 |mul {a b:M.Expr} {p q:Int}:Typ names a p->Typ names b q->p≠0->q≠0->¬(p=2/\q=2)->Typ names ⟨7,0,[],[a,b]⟩ (wd p q)
 |div {a:M.Expr} {m:Int} {p:Int}:Typ names a p->p≠0->1<=m->m<=1099511627776->Typ names ⟨8,0,[],[a,⟨0,m,[],[]⟩]⟩ p
 |ite {c a b:M.Expr} {p q:Int}:Typ names c 0->Typ names a p->Typ names b q->p≠0->q≠0->Typ names ⟨11,0,[],[c,a,b]⟩ (wd p q)
 |rel {o:Int} {a b:M.Expr}:(o=12∨o=13)->Typ names a 1->Typ names b 1->Typ names ⟨o,0,[],[a,b]⟩ 0
 |not {a:M.Expr}:Typ names a 0->Typ names ⟨14,0,[],[a]⟩ 0
 |bin {o:Int} {a b:M.Expr}:(o=15∨o=16)->Typ names a 0->Typ names b 0->Typ names ⟨o,0,[],[a,b]⟩ 0
theorem a9h(a b:Int):wd a b=1∨wd a b=2:=by
 unfold wd
 cases a==2||b==2
 ·exact .inl rfl
 ·exact .inr rfl
theorem Typ.range{names:List Rt.Bs}{x:M.Expr}{k:Int}(h:Typ names x k):k=0∨k=1∨k=2:=by
 induction h with
 |num=>exact .inr (.inl rfl)
 |lifts=>exact .inr (.inl rfl)
 |pers=>exact .inr (.inl rfl)
 |flats=>exact .inr (.inl rfl)
 |wgt=>exact .inr (.inr rfl)
 |ari=>exact .inr (a9h _ _)
 |mul=>exact .inr (a9h _ _)
 |div _ _ _ _ ih=>exact ih
 |ite=>exact .inr (a9h _ _)
 |rel=>exact .inl rfl
 |not=>exact .inl rfl
 |bin=>exact .inl rfl
theorem Typ.args{names:List Rt.Bs}{x:M.Expr}{k:Int}(h:Typ names x k):∀y,y∈x.Args->∃p,Typ names y p:=by
 cases h with
 |num=>intro y hy;cases hy
 |lifts=>intro y hy;cases hy
 |pers=>intro y hy;cases hy
 |flats=>intro y hy;cases hy
 |wgt=>intro y hy;cases hy
 |ari _ ha hb=>intro y hy;simp only [List.mem_cons,List.not_mem_nil,or_false]at hy;rcases hy with rfl|rfl<;>first|exact⟨_,ha⟩|exact⟨_,hb⟩
 |mul ha hb=>intro y hy;simp only [List.mem_cons,List.not_mem_nil,or_false]at hy;rcases hy with rfl|rfl<;>first|exact⟨_,ha⟩|exact⟨_,hb⟩
 |div ha _ h1 h2=>intro y hy;simp only [List.mem_cons,List.not_mem_nil,or_false]at hy;rcases hy with rfl|rfl<;>first|exact⟨_,ha⟩|exact⟨_,Typ.num (by omega) h2⟩
 |ite hc ha hb=>intro y hy;simp only [List.mem_cons,List.not_mem_nil,or_false]at hy;rcases hy with rfl|rfl|rfl<;>first|exact⟨_,hc⟩|exact⟨_,ha⟩|exact⟨_,hb⟩
 |rel _ ha hb=>intro y hy;simp only [List.mem_cons,List.not_mem_nil,or_false]at hy;rcases hy with rfl|rfl<;>first|exact⟨_,ha⟩|exact⟨_,hb⟩
 |not ha=>intro y hy;simp only [List.mem_cons,List.not_mem_nil,or_false]at hy;rcases hy with rfl;exact⟨_,ha⟩
 |bin _ ha hb=>intro y hy;simp only [List.mem_cons,List.not_mem_nil,or_false]at hy;rcases hy with rfl|rfl<;>first|exact⟨_,ha⟩|exact⟨_,hb⟩
theorem Typ.shx{names:List Rt.Bs}{x:M.Expr}{k:Int}(h:Typ names x k):Shx x:=by
 have nk:∀{o:Int},5<=o->a8r o 0 []:=fun{o}ho=>by unfold a8r;rw [if_neg (by omega),if_neg (by omega)];exact⟨rfl,rfl⟩
 have two:∀{o:Int}{a b:M.Expr},(5<=o/\o<=16/\o≠11/\o≠14)->Shx a->Shx b->Shx ⟨o,0,[],[a,b]⟩:=fun{o a b}ho ha hb=>by
  refine Shx.mk (by omega) (by omega) ?_ (nk ho.1) ?_
  ·show(2:Int)=_
   unfold b7s;rw [if_neg (by omega),if_neg (by omega),if_neg (by omega)]
  ·intro y hy;simp only [List.mem_cons,List.not_mem_nil,or_false]at hy;rcases hy with rfl|rfl<;>first|exact ha|exact hb
 have nn:∀{m:Int},0<=m->m<=1099511627776->Shx ⟨0,m,[],[]⟩:=fun{m}h1 h2=>Shx.mk (by decide) (by decide) rfl (by unfold a8r;rw [if_pos rfl];exact⟨⟨h1,h2⟩,rfl⟩) (by intro y hy;cases hy)
 induction h with
 |num h1 h2=>exact nn h1 h2
 |lifts h1 _=>exact Shx.mk (by decide) (by decide) rfl (by unfold a8r;rw [if_neg (by decide),if_pos (by decide)];exact⟨rfl,h1⟩) (by intro y hy;cases hy)
 |pers=>exact Shx.mk (by decide) (by decide) rfl (by unfold a8r;rw [if_neg (by decide),if_neg (by decide)];exact⟨rfl,rfl⟩) (by intro y hy;cases hy)
 |flats=>exact Shx.mk (by decide) (by decide) rfl (by unfold a8r;rw [if_neg (by decide),if_neg (by decide)];exact⟨rfl,rfl⟩) (by intro y hy;cases hy)
 |wgt h1 _=>exact Shx.mk (by decide) (by decide) rfl (by unfold a8r;rw [if_neg (by decide),if_pos (by decide)];exact⟨rfl,h1⟩) (by intro y hy;cases hy)
 |ari ho _ _ _ _ ha hb=>exact two (by omega) ha hb
 |mul _ _ _ _ _ ha hb=>exact two (by decide) ha hb
 |div _ _ h1 h2 ha=>exact two (by decide) ha (nn (by omega) h2)
 |ite _ _ _ _ _ hc ha hb=>
  refine Shx.mk (by decide) (by decide) rfl (nk (by decide)) ?_
  intro y hy;simp only [List.mem_cons,List.not_mem_nil,or_false]at hy;rcases hy with rfl|rfl|rfl<;>first|exact hc|exact ha|exact hb
 |rel ho _ _ ha hb=>exact two (by omega) ha hb
 |not _ ha=>
  refine Shx.mk (by decide) (by decide) rfl (nk (by decide)) ?_
  intro y hy;simp only [List.mem_cons,List.not_mem_nil,or_false]at hy;rcases hy with rfl;exact ha
 |bin ho _ _ ha hb=>exact two (by omega) ha hb
theorem e9q(n:Nat)(a b:Int):a1e n a b=some (bif a==0||b==0 then(0,13)else(wd a b,0)):=by
 unfold a1e wd
 have orT:∀c d:Bool,(bif c then some true else some d)=some (c||d):=fun c d=>by cases c<;>rfl
 rw [orT,Option.bind_some,orT,Option.bind_some]
 cases a==0||b==0<;>cases a==2||b==2<;>rfl
theorem e9l(k p q w:Int):Ev (fun n=>a3j n k [p,q] w) (bif p==w&&q==w then(k,0)else(0,13)):=by
 refine⟨3,fun n hn=> ?_⟩
 obtain⟨n,rfl⟩:∃j,n=j+3:=⟨n-3,by omega⟩
 show((bif p !=w then some (0:Int)else bif q !=w then some 1 else some (-1)).bind fun v1=>some (decide (0<=v1))).bind (fun v1=>bif v1 then some ((0:Int),(13:Int))else some (k,0))=_
 cases hp:p==w<;>cases hq:q==w<;>simp [bne,hp,hq]
theorem e9g(k p w:Int):Ev (fun n=>a3j n k [p] w) (bif p==w then(k,0)else(0,13)):=by
 refine⟨3,fun n hn=> ?_⟩
 obtain⟨n,rfl⟩:∃j,n=j+3:=⟨n-3,by omega⟩
 show((bif p !=w then some (0:Int)else some (-1)).bind fun v1=>some (decide (0<=v1))).bind (fun v1=>bif v1 then some ((0:Int),(13:Int))else some (k,0))=_
 cases hp:p==w<;>simp [bne,hp]
def Fnd(names:List Rt.Bs)(x:M.Expr)(r:Int×Int):Prop:=(r.2=0->Typ names x r.1)/\(∀k,Typ names x k->r=(k,0))
theorem Fnd.uniq{names:List Rt.Bs}{x:M.Expr}{p k:Int}(h:Fnd names x (p,0))(hk:Typ names x k):k=p:=by
 have:=h.2 k hk
 exact(Prod.mk.inj this).1.symm
inductive F2(names:List Rt.Bs):List M.Expr->List Int->Prop
 |nil:F2 names [] []
 |cons {x:M.Expr} {p:Int} {l:List M.Expr} {ps:List Int}:Fnd names x (p,0)->F2 names l ps->F2 names (x::l) (p::ps)
theorem d4m(x:M.Expr)(names:List Rt.Bs)(hx:x.Args.length<=1000000):∀(us:List M.Expr)(i:Nat)(acc:List Int),x.Args.drop i=us->acc.length=i->i<=x.Args.length->
 (∀y,y∈us->Tt (Fnd names y) (fun n=>tariff_typed n y names))->
 (∃(N:Nat)(e:Int),e≠0/\(∃y,y∈us/\∀k,¬Typ names y k)/\∀n m kont,N<=n->us.length<m->tariff_typed_L1 n (tariff_typed n) x names kont m (i:Int) acc=some (0,e))∨
 ∃(N:Nat)(ps:List Int),F2 names us ps/\∀n m kont,N<=n->us.length<m->tariff_typed_L1 n (tariff_typed n) x names kont m (i:Int) acc=kont (acc++ps)
 | [],i,acc,hd,ha,hi,_=>by
  refine .inr ⟨0,[],F2.nil,fun n m kont _ hm=> ?_⟩
  obtain⟨m,rfl⟩:=left hm
  rw [tariff_typed_L1_s,a5z hd,List.append_nil];rfl
 |y::us,i,acc,hd,ha,hi,H=>by
  obtain⟨h1,h2,h3⟩:=drop_cons hd
  obtain⟨⟨k,e⟩,⟨N1,e1⟩,hq⟩:=H y (by simp)
  by_cases he:e=0
  ·subst he
   have step:∀n m kont,N1<=n->tariff_typed_L1 n (tariff_typed n) x names kont (m+1) (i:Int) acc=tariff_typed_L1 n (tariff_typed n) x names kont m ((i+1:Nat):Int) (acc++ [k]):=by
    intro n m kont hn
    have e1:tariff_typed n y names=some (k,0):=e1 n (by omega)
    rw [tariff_typed_L1_s,a1z hd,cond_true,h1,Option.bind_some,e1,Option.bind_some]
    show((app 8 acc [k]).bind fun l3=>_)=_
    rw [b0f (by simp only [List.length_cons,List.length_nil];omega),Option.bind_some,inc64 (by omega)]
   rcases d4m x names hx us (i+1) (acc++ [k]) h2 (by simp [ha]) (by omega) (fun z hz=>H z (by simp [hz]))with⟨N,e,he,⟨z,hz,hzk⟩,ih⟩|⟨N,ps,hp,ih⟩
   ·refine .inl ⟨max N N1,e,he,⟨z,by simp [hz],hzk⟩,fun n m kont hn hm=> ?_⟩
    obtain⟨m,rfl,hm2⟩:=pred (by simpa using hm)
    rw [step n m kont (by omega)]
    exact ih n m kont (by omega) hm2
   ·refine .inr ⟨max N N1,k::ps,F2.cons hq hp,fun n m kont hn hm=> ?_⟩
    obtain⟨m,rfl,hm2⟩:=pred (by simpa using hm)
    rw [step n m kont (by omega),ih n m kont (by omega) hm2,List.append_assoc];rfl
  ·refine .inl ⟨N1,e,he,⟨y,by simp,fun k' hk=>he (Prod.mk.inj (hq.2 k' hk)).2⟩,fun n m kont hn hm=> ?_⟩
   obtain⟨m,rfl⟩:=left hm
   have e1:tariff_typed n y names=some (k,e):=e1 n (by omega)
   have hb:(e !=0)=true:=by simpa using he
   rw [tariff_typed_L1_s,a1z hd,cond_true,h1,Option.bind_some,e1,Option.bind_some]
   dsimp only
   rw [hb];rfl
def d6k(names:List Rt.Bs)(x:M.Expr)(n:Nat)(l2:List Int):Option (Int×Int):=
 (bif x.Op==1 then
  some true
 else
  some (x.Op==4)).bind fun v1=>
 bif v1 then
  (a0u n names x.Name).bind fun v2=>
  bif !v2 then
   some (0,11)
  else
   bif x.Op==4 then
    some (2,0)
   else
    some (1,0)
 else
  (bif x.Op==0 then
   some true
  else
   bif x.Op==2 then
    some true
   else
    some (x.Op==3)).bind fun v3=>
  bif v3 then
   some (1,0)
  else
   (bif x.Op==12 then
    some true
   else
    some (x.Op==13)).bind fun v4=>
   bif v4 then
    (a3j n 0 l2 1).bind fun v5=>
    some (v5.1,v5.2)
   else
    (bif x.Op==14 then
     some true
    else
     bif x.Op==15 then
      some true
     else
      some (x.Op==16)).bind fun v6=>
    bif v6 then
     (a3j n 0 l2 0).bind fun v7=>
     some (v7.1,v7.2)
    else
     bif x.Op==11 then
      (ix l2 0).bind fun ex=>
      bif ex !=0 then
       some (0,13)
      else
       (ix l2 1).bind fun w2=>
       (ix l2 2).bind fun w3=>
       (a1e n w2 w3).bind fun v8=>
       some (v8.1,v8.2)
     else
      bif x.Op==7 then
       (ix l2 0).bind fun w4=>
       (bif w4==2 then
        (ix l2 1).bind fun w7=>
        some (w7==2)
       else
        some false).bind fun v9=>
       bif v9 then
        some (0,13)
       else
        (ix l2 0).bind fun w5=>
        (ix l2 1).bind fun w6=>
        (a1e n w5 w6).bind fun v10=>
        some (v10.1,v10.2)
      else
       bif x.Op==8 then
        (ix x.Args 1).bind fun w8=>
        bif w8.Op !=0 then
         some (0,13)
        else
         bif w8.N==0 then
          some (0,14)
         else
          (ix l2 0).bind fun w9=>
          (ix l2 1).bind fun w0=>
          (a1e n w9 w0).bind fun v11=>
          some (v11.1,v11.2)
       else
        (ix l2 0).bind fun w1=>
        (ix l2 1).bind fun w2=>
        (a1e n w1 w2).bind fun v12=>
        some (v12.1,v12.2)
theorem c4i(n:Nat)(x:M.Expr)(names:List Rt.Bs):tariff_typed (n+1) x names=tariff_typed_L1 n (tariff_typed n) x names (d6k names x n) n 0 []:=rfl
def c1q(p q:Int):Int×Int:=bif p==0||q==0 then(0,13)else(wd p q,0)
theorem b3v(p q:Int):Ev (fun n=>(a1e n p q).bind fun v=>some (v.1,v.2)) (c1q p q):=Ev.all fun n=>by rw [e9q];rfl
theorem e2w(p q w:Int):Ev (fun n=>(a3j n 0 [p,q] w).bind fun v5=>some (v5.1,v5.2)) (bif p==w&&q==w then(0,0)else(0,13)):=Ev.bind (e9l 0 p q w) (Ev.pure _)
theorem f1l(p w:Int):Ev (fun n=>(a3j n 0 [p] w).bind fun v5=>some (v5.1,v5.2)) (bif p==w then(0,0)else(0,13)):=Ev.bind (e9g 0 p w) (Ev.pure _)
theorem b3r(p q:Int):((p≠0/\q≠0)/\c1q p q=(wd p q,0))∨((p=0∨q=0)/\c1q p q=(0,13)):=by
 unfold c1q
 by_cases hp:p=0
 ·subst hp;exact .inr ⟨.inl rfl,rfl⟩
 ·by_cases hq:q=0
  ·subst hq;exact .inr ⟨.inr rfl,by rw [show((0:Int)==0)=true from rfl,Bool.or_true];rfl⟩
  ·exact .inl ⟨⟨hp,hq⟩,by rw [show(p==0)=false by simpa using hp,show(q==0)=false by simpa using hq];rfl⟩
theorem Fnd.no{names:List Rt.Bs}{x:M.Expr}{p e:Int}(he:e≠0)(h:∀k,¬Typ names x k):Fnd names x (p,e):=⟨fun h2=>absurd h2 he,fun k hk=>absurd hk (h k)⟩
theorem Fnd.yes{names:List Rt.Bs}{x:M.Expr}{p:Int}(h:Typ names x p)(hu:∀k,Typ names x k->k=p):Fnd names x (p,0):=⟨fun _=>h,fun k hk=>by rw [hu k hk]⟩
theorem F2.len0{names:List Rt.Bs}{l:List M.Expr}{ps:List Int}(h:F2 names l ps)(h0:(l.length:Int)=0):l= []/\ps= []:=by
 cases h with
 |nil=>exact⟨rfl,rfl⟩
 |cons=>simp at h0;omega
theorem F2.len1{names:List Rt.Bs}{l:List M.Expr}{ps:List Int}(h:F2 names l ps)(h0:(l.length:Int)=1):∃a p,l= [a]/\ps= [p]/\Fnd names a (p,0):=by
 cases h with
 |nil=>simp at h0
 |cons ha h=>
  obtain⟨rfl,rfl⟩:=h.len0 (by simp only [List.length_cons]at h0;omega)
  exact⟨_,_,rfl,rfl,ha⟩
theorem F2.len2{names:List Rt.Bs}{l:List M.Expr}{ps:List Int}(h:F2 names l ps)(h0:(l.length:Int)=2):∃a b p q,l= [a,b]/\ps= [p,q]/\Fnd names a (p,0)/\Fnd names b (q,0):=by
 cases h with
 |nil=>simp at h0
 |cons ha h=>
  obtain⟨b,q,rfl,rfl,hb⟩:=h.len1 (by simp only [List.length_cons]at h0;omega)
  exact⟨_,b,_,q,rfl,rfl,ha,hb⟩
theorem F2.len3{names:List Rt.Bs}{l:List M.Expr}{ps:List Int}(h:F2 names l ps)(h0:(l.length:Int)=3):∃a b c p q r,l= [a,b,c]/\ps= [p,q,r]/\Fnd names a (p,0)/\Fnd names b (q,0)/\Fnd names c (r,0):=by
 cases h with
 |nil=>simp at h0
 |cons ha h=>
  obtain⟨b,c,q,r,rfl,rfl,hb,hc⟩:=h.len2 (by simp only [List.length_cons]at h0;omega)
  exact⟨_,b,c,_,q,r,rfl,rfl,ha,hb,hc⟩
theorem Shx.leaf{m:Int}{s:Rt.Bs}{l:List M.Expr}(h:Shx ⟨0,m,s,l⟩):(0<=m/\m<=1099511627776)/\s= []/\l= []:=by
 obtain⟨_,_,h3,h4,_⟩:=h.inv
 unfold a8r at h4
 rw [if_pos rfl]at h4
 refine⟨h4.1,h4.2,List.length_eq_zero_iff.1 ?_⟩
 have:(l.length:Int)=0:=h3
 omega
theorem c6d{names:List Rt.Bs}{o:Int}{a b:M.Expr}{p q:Int}(ho:o=5∨o=6∨o=9∨o=10)(ha:Fnd names a (p,0))(hb:Fnd names b (q,0)):Fnd names ⟨o,0,[],[a,b]⟩ (c1q p q):=by
 have inv:∀k,Typ names ⟨o,0,[],[a,b]⟩ k->(p≠0/\q≠0)/\k=wd p q:=by
  intro k hk
  cases hk with
  |ari _ h1 h2 h3 h4=>obtain rfl:=ha.uniq h1;obtain rfl:=hb.uniq h2;exact⟨⟨h3,h4⟩,rfl⟩
  |mul=>omega
  |div=>omega
  |rel h=>omega
  |bin h=>omega
 rcases b3r p q with⟨h,e⟩|⟨h,e⟩
 ·rw [e];exact Fnd.yes (Typ.ari ho (ha.1 rfl) (hb.1 rfl) h.1 h.2) fun k hk=>(inv k hk).2
 ·rw [e];exact Fnd.no (by decide) fun k hk=>by have:=(inv k hk).1;omega
theorem e7v{names:List Rt.Bs}{a b:M.Expr}{p q:Int}(ha:Fnd names a (p,0))(hb:Fnd names b (q,0)):Fnd names ⟨7,0,[],[a,b]⟩ (bif p==2&&q==2 then(0,13)else c1q p q):=by
 have inv:∀k,Typ names ⟨7,0,[],[a,b]⟩ k->((p≠0/\q≠0)/\¬(p=2/\q=2))/\k=wd p q:=by
  intro k hk
  cases hk with
  |ari h=>omega
  |mul h1 h2 h3 h4 h5=>obtain rfl:=ha.uniq h1;obtain rfl:=hb.uniq h2;exact⟨⟨⟨h3,h4⟩,h5⟩,rfl⟩
  |rel h=>omega
  |bin h=>omega
 by_cases h2:p=2/\q=2
 ·rw [h2.1,h2.2];exact Fnd.no (by decide) fun k hk=>(inv k hk).1.2 h2
 ·have e2:(p==2&&q==2)=false:=by
   cases h:p==2&&q==2
   ·rfl
   ·rw [Bool.and_eq_true]at h;exact absurd ⟨by simpa using h.1,by simpa using h.2⟩ h2
  rw [e2]
  show Fnd names _ (c1q p q)
  rcases b3r p q with⟨h,e⟩|⟨h,e⟩
  ·rw [e];exact Fnd.yes (Typ.mul (ha.1 rfl) (hb.1 rfl) h.1 h.2 h2) fun k hk=>(inv k hk).2
  ·rw [e];exact Fnd.no (by decide) fun k hk=>by have:=(inv k hk).1.1;omega
theorem f0f{names:List Rt.Bs}{a:M.Expr}{p:Int}(h:Typ names a p)(h0:p≠0):wd p 1=p:=by
 rcases h.range with rfl|rfl|rfl
 ·exact absurd rfl h0
 ·rfl
 ·rfl
theorem e4s{names:List Rt.Bs}{a b:M.Expr}{p q:Int}(ha:Fnd names a (p,0))(hb:Fnd names b (q,0))(hs:Shx b):Fnd names ⟨8,0,[],[a,b]⟩ (bif b.Op !=0 then(0,13)else bif b.N==0 then(0,14)else c1q p q):=by
 have inv:∀k,Typ names ⟨8,0,[],[a,b]⟩ k->∃m,b=⟨0,m,[],[]⟩/\m≠0/\p≠0/\k=p:=by
  intro k hk
  cases hk with
  |ari h=>omega
  |div h1 h2 h3 h4=>obtain rfl:=ha.uniq h1;exact⟨_,rfl,by omega,h2,rfl⟩
  |rel h=>omega
  |bin h=>omega
 obtain⟨o,m,s,l⟩:=b
 dsimp only
 by_cases h0:o=0
 ·subst h0
  obtain⟨h1,rfl,rfl⟩:=hs.leaf
  have hq:q=1:=(hb.uniq (Typ.num h1.1 h1.2)).symm
  subst hq
  show Fnd names _ (bif m==0 then(0,14)else c1q p 1)
  by_cases hm:m=0
  ·subst hm
   exact Fnd.no (by decide) fun k hk=>by
    obtain⟨m2,h5,h6,_⟩:=inv k hk
    injection h5 with _ h7
    exact h6 h7.symm
  ·rw [show(m==0)=false by simpa using hm]
   show Fnd names _ (c1q p 1)
   rcases b3r p 1 with⟨h,e⟩|⟨h,e⟩
   ·rw [e,f0f (ha.1 rfl) h.1];exact Fnd.yes (Typ.div (ha.1 rfl) h.1 (by omega) h1.2) fun k hk=>by obtain⟨_,_,_,_,h⟩:=inv k hk;exact h
   ·rw [e];exact Fnd.no (by decide) fun k hk=>by obtain⟨_,_,_,h5,_⟩:=inv k hk;omega
 ·rw [show(o !=0)=true by simpa using h0]
  exact Fnd.no (by decide) fun k hk=>by
   obtain⟨m2,h5,_⟩:=inv k hk
   injection h5 with h7
   exact h0 h7
theorem e6n{names:List Rt.Bs}{c a b:M.Expr}{r p q:Int}(hc:Fnd names c (r,0))(ha:Fnd names a (p,0))(hb:Fnd names b (q,0)):Fnd names ⟨11,0,[],[c,a,b]⟩ (bif r !=0 then(0,13)else c1q p q):=by
 have inv:∀k,Typ names ⟨11,0,[],[c,a,b]⟩ k->(r=0/\p≠0/\q≠0)/\k=wd p q:=by
  intro k hk
  cases hk with
  |ite h0 h1 h2 h3 h4=>obtain rfl:=hc.uniq h0;obtain rfl:=ha.uniq h1;obtain rfl:=hb.uniq h2;exact⟨⟨rfl,h3,h4⟩,rfl⟩
 by_cases hr:r=0
 ·subst hr
  show Fnd names _ (c1q p q)
  rcases b3r p q with⟨h,e⟩|⟨h,e⟩
  ·rw [e];exact Fnd.yes (Typ.ite (hc.1 rfl) (ha.1 rfl) (hb.1 rfl) h.1 h.2) fun k hk=>(inv k hk).2
  ·rw [e];exact Fnd.no (by decide) fun k hk=>by have:=(inv k hk).1;omega
 ·rw [show(r !=0)=true by simpa using hr]
  exact Fnd.no (by decide) fun k hk=>hr (inv k hk).1.1
theorem d5r{names:List Rt.Bs}{o:Int}{a b:M.Expr}{p q:Int}(ho:o=12∨o=13)(ha:Fnd names a (p,0))(hb:Fnd names b (q,0)):Fnd names ⟨o,0,[],[a,b]⟩ (bif p==1&&q==1 then(0,0)else(0,13)):=by
 have inv:∀k,Typ names ⟨o,0,[],[a,b]⟩ k->(p=1/\q=1)/\k=0:=by
  intro k hk
  cases hk with
  |ari h=>omega
  |mul=>omega
  |div=>omega
  |rel _ h1 h2=>exact⟨⟨(ha.uniq h1).symm,(hb.uniq h2).symm⟩,rfl⟩
  |bin h=>omega
 by_cases h2:p=1/\q=1
 ·obtain⟨rfl,rfl⟩:=h2;exact Fnd.yes (Typ.rel ho (ha.1 rfl) (hb.1 rfl)) fun k hk=>(inv k hk).2
 ·have e2:(p==1&&q==1)=false:=by
   cases h:p==1&&q==1
   ·rfl
   ·rw [Bool.and_eq_true]at h;exact absurd ⟨by simpa using h.1,by simpa using h.2⟩ h2
  rw [e2];exact Fnd.no (by decide) fun k hk=>h2 (inv k hk).1
theorem d6t{names:List Rt.Bs}{o:Int}{a b:M.Expr}{p q:Int}(ho:o=15∨o=16)(ha:Fnd names a (p,0))(hb:Fnd names b (q,0)):Fnd names ⟨o,0,[],[a,b]⟩ (bif p==0&&q==0 then(0,0)else(0,13)):=by
 have inv:∀k,Typ names ⟨o,0,[],[a,b]⟩ k->(p=0/\q=0)/\k=0:=by
  intro k hk
  cases hk with
  |ari h=>omega
  |mul=>omega
  |div=>omega
  |rel h=>omega
  |bin _ h1 h2=>exact⟨⟨(ha.uniq h1).symm,(hb.uniq h2).symm⟩,rfl⟩
 by_cases h2:p=0/\q=0
 ·obtain⟨rfl,rfl⟩:=h2;exact Fnd.yes (Typ.bin ho (ha.1 rfl) (hb.1 rfl)) fun k hk=>(inv k hk).2
 ·have e2:(p==0&&q==0)=false:=by
   cases h:p==0&&q==0
   ·rfl
   ·rw [Bool.and_eq_true]at h;exact absurd ⟨by simpa using h.1,by simpa using h.2⟩ h2
  rw [e2];exact Fnd.no (by decide) fun k hk=>h2 (inv k hk).1
theorem e8d{names:List Rt.Bs}{a:M.Expr}{p:Int}(ha:Fnd names a (p,0)):Fnd names ⟨14,0,[],[a]⟩ (bif p==0 then(0,0)else(0,13)):=by
 have inv:∀k,Typ names ⟨14,0,[],[a]⟩ k->p=0/\k=0:=by
  intro k hk
  cases hk with
  |not h1=>exact⟨(ha.uniq h1).symm,rfl⟩
 by_cases h2:p=0
 ·subst h2;exact Fnd.yes (Typ.not (ha.1 rfl)) fun k hk=>(inv k hk).2
 ·rw [show(p==0)=false by simpa using h2];exact Fnd.no (by decide) fun k hk=>h2 (inv k hk).1
theorem a5l{o n:Int}{s:Rt.Bs}(h:a8r o n s)(h5:o≠0/\o≠1/\o≠4):n=0/\s= []:=by
 unfold a8r at h
 rw [if_neg h5.1,if_neg (by omega)]at h
 exact h
theorem c6q{x:M.Expr}(hx:Fit x)(names:List Rt.Bs)(hn:names.length<4611686018427387904):Shx x->Tt (Fnd names x) (fun n=>tariff_typed n x names):=by
 induction hx with
 | @mk o k s l hl _ ih=>
  intro hs
  obtain⟨h1,h2,h3,hno,h4⟩:=hs.inv
  rcases d4m ⟨o,k,s,l⟩ names hl l 0 [] rfl rfl (by simp) (fun y hy=>ih y hy (h4 y hy))with⟨N,e,he,⟨y,hy,hyk⟩,hL⟩|⟨N,ps,hp,hL⟩
  ·refine⟨(0,e),Ev.suc (fun n=>c4i n _ _) ⟨N+l.length+1,fun n hn=>hL n n _ (by omega) (by omega)⟩,Fnd.no he fun k' hk=> ?_⟩
   obtain⟨p,hp⟩:=hk.args y hy
   exact hyk p hp
  have out:∀r:Int×Int,Fnd names ⟨o,k,s,l⟩ r->Ev (fun n=>d6k names ⟨o,k,s,l⟩ n ps) r->Tt (Fnd names ⟨o,k,s,l⟩) (fun n=>tariff_typed n ⟨o,k,s,l⟩ names):=by
   intro r hty hf
   exact⟨r,Ev.suc (fun n=>c4i n _ _) (Ev.from (N+l.length+1) (fun n hn=>hL n n _ (by omega) (by omega)) hf),hty⟩
  clear hL ih
  have hc:o=0∨o=1∨o=2∨o=3∨o=4∨o=5∨o=6∨o=7∨o=8∨o=9∨o=10∨o=11∨o=12∨o=13∨o=14∨o=15∨o=16:=by omega
  rcases hc with rfl|rfl|rfl|rfl|rfl|rfl|rfl|rfl|rfl|rfl|rfl|rfl|rfl|rfl|rfl|rfl|rfl
  ·obtain⟨h5,rfl,rfl⟩:=hs.leaf
   obtain⟨_,rfl⟩:=hp.len0 rfl
   exact out (1,0) (Fnd.yes (Typ.num h5.1 h5.2) fun k hk=>by cases hk;rfl) (Ev.all fun n=>rfl)
  ·obtain⟨rfl,rfl⟩:=hp.len0 h3
   unfold a8r at hno
   rw [if_neg (by decide),if_pos (by decide)]at hno
   obtain⟨rfl,hname⟩:=hno
   refine out (bif !decide (s∈names)then(0,11)else(1,0)) ?_ ?_
   ·by_cases hm:s∈names
    ·rw [decide_eq_true hm];exact Fnd.yes (Typ.lifts hname hm) fun k hk=>by cases hk;rfl
    ·rw [decide_eq_false hm];exact Fnd.no (by decide) fun k hk=>by cases hk;contradiction
   ·exact Ev.bind (f:=fun n v2=>bif !v2 then some (0,11)else some (1,0)) (b1d s hn) (by cases decide (s∈names)<;>exact Ev.pure _)
  ·obtain⟨rfl,rfl⟩:=hp.len0 h3
   obtain⟨rfl,rfl⟩:=a5l hno (by decide)
   exact out (1,0) (Fnd.yes Typ.pers fun k hk=>by cases hk;rfl) (Ev.all fun n=>rfl)
  ·obtain⟨rfl,rfl⟩:=hp.len0 h3
   obtain⟨rfl,rfl⟩:=a5l hno (by decide)
   exact out (1,0) (Fnd.yes Typ.flats fun k hk=>by cases hk;rfl) (Ev.all fun n=>rfl)
  ·obtain⟨rfl,rfl⟩:=hp.len0 h3
   unfold a8r at hno
   rw [if_neg (by decide),if_pos (by decide)]at hno
   obtain⟨rfl,hname⟩:=hno
   refine out (bif !decide (s∈names)then(0,11)else(2,0)) ?_ ?_
   ·by_cases hm:s∈names
    ·rw [decide_eq_true hm];exact Fnd.yes (Typ.wgt hname hm) fun k hk=>by cases hk;rfl
    ·rw [decide_eq_false hm];exact Fnd.no (by decide) fun k hk=>by cases hk;contradiction
   ·exact Ev.bind (f:=fun n v2=>bif !v2 then some (0,11)else some (2,0)) (b1d s hn) (by cases decide (s∈names)<;>exact Ev.pure _)
  ·obtain⟨a,b,p,q,rfl,rfl,ha,hb⟩:=hp.len2 h3
   obtain⟨rfl,rfl⟩:=a5l hno (by decide)
   exact out _ (c6d (by decide) ha hb) (b3v p q)
  ·obtain⟨a,b,p,q,rfl,rfl,ha,hb⟩:=hp.len2 h3
   obtain⟨rfl,rfl⟩:=a5l hno (by decide)
   exact out _ (c6d (by decide) ha hb) (b3v p q)
  ·obtain⟨a,b,p,q,rfl,rfl,ha,hb⟩:=hp.len2 h3
   obtain⟨rfl,rfl⟩:=a5l hno (by decide)
   refine out _ (e7v ha hb) ?_
   show Ev (fun n=>(bif p==2 then some (q==2)else some false).bind fun v9=>bif v9 then some (0,13)else(a1e n p q).bind fun v=>some (v.1,v.2)) _
   refine Ev.bind (a:=p==2&&q==2) (Ev.all fun n=>by cases p==2<;>rfl) ?_
   cases p==2&&q==2
   ·exact Ev.else rfl (b3v p q)
   ·exact Ev.then rfl (Ev.pure _)
  ·obtain⟨a,b,p,q,rfl,rfl,ha,hb⟩:=hp.len2 h3
   obtain⟨rfl,rfl⟩:=a5l hno (by decide)
   refine out _ (e4s ha hb (h4 b (by simp))) ?_
   show Ev (fun n=>bif b.Op !=0 then some (0,13)else bif b.N==0 then some (0,14)else(a1e n p q).bind fun v=>some (v.1,v.2)) _
   cases b.Op !=0
   ·cases b.N==0
    ·exact Ev.else rfl (Ev.else rfl (b3v p q))
    ·exact Ev.else rfl (Ev.then rfl (Ev.pure _))
   ·exact Ev.then rfl (Ev.pure _)
  ·obtain⟨a,b,p,q,rfl,rfl,ha,hb⟩:=hp.len2 h3
   obtain⟨rfl,rfl⟩:=a5l hno (by decide)
   exact out _ (c6d (by decide) ha hb) (b3v p q)
  ·obtain⟨a,b,p,q,rfl,rfl,ha,hb⟩:=hp.len2 h3
   obtain⟨rfl,rfl⟩:=a5l hno (by decide)
   exact out _ (c6d (by decide) ha hb) (b3v p q)
  ·obtain⟨c,a,b,r,p,q,rfl,rfl,hcc,ha,hb⟩:=hp.len3 h3
   obtain⟨rfl,rfl⟩:=a5l hno (by decide)
   refine out _ (e6n hcc ha hb) ?_
   show Ev (fun n=>bif r !=0 then some (0,13)else(a1e n p q).bind fun v=>some (v.1,v.2)) _
   cases r !=0
   ·exact Ev.else rfl (b3v p q)
   ·exact Ev.then rfl (Ev.pure _)
  ·obtain⟨a,b,p,q,rfl,rfl,ha,hb⟩:=hp.len2 h3
   obtain⟨rfl,rfl⟩:=a5l hno (by decide)
   exact out _ (d5r (by decide) ha hb) (e2w p q 1)
  ·obtain⟨a,b,p,q,rfl,rfl,ha,hb⟩:=hp.len2 h3
   obtain⟨rfl,rfl⟩:=a5l hno (by decide)
   exact out _ (d5r (by decide) ha hb) (e2w p q 1)
  ·obtain⟨a,p,rfl,rfl,ha⟩:=hp.len1 h3
   obtain⟨rfl,rfl⟩:=a5l hno (by decide)
   exact out _ (e8d ha) (f1l p 0)
  ·obtain⟨a,b,p,q,rfl,rfl,ha,hb⟩:=hp.len2 h3
   obtain⟨rfl,rfl⟩:=a5l hno (by decide)
   exact out _ (d6t (by decide) ha hb) (e2w p q 0)
  ·obtain⟨a,b,p,q,rfl,rfl,ha,hb⟩:=hp.len2 h3
   obtain⟨rfl,rfl⟩:=a5l hno (by decide)
   exact out _ (d6t (by decide) ha hb) (e2w p q 0)
theorem Typ.uniq{names:List Rt.Bs}(hn:names.length<4611686018427387904){x:M.Expr}(hx:Fit x){j k:Int}(h:Typ names x j)(h2:Typ names x k):j=k:=by
 obtain⟨r,_,hr⟩:=c6q hx names hn h.shx
 have e:=(hr.2 j h).symm.trans (hr.2 k h2)
 exact(Prod.mk.inj e).1
def Chk(names:List Rt.Bs)(t:Tariff):Prop:=named names=true/\Wrt t/\∃k,k≠0/\Typ names t.Fee k
theorem d1h{t:Tariff}(hx:Fit t.Fee)(names:List Rt.Bs)(hn:names.length<4611686018427387904):Tt (fun e=>e=0↔Chk names t) (fun n=>a3v n t names):=by
 unfold a3v
 refine Tt.evb (b9c hn) (Tt.bif (fun h=>Tt.pure ⟨fun h=>(by cases h),fun h5=> ?_⟩) (fun h=> ?_))
 ·rw [h5.1]at h;cases h
 have hnm:named names=true:=by simpa using h
 refine Tt.bind (d5h hx) fun b hb=> ?_
 refine Tt.bif (fun h=>Tt.pure ⟨fun h=>(by cases h),fun h5=> ?_⟩) (fun h=> ?_)
 ·rw [hb.2 h5.2.1]at h;cases h
 have hw:Wrt t:=hb.1 (by simpa using h)
 refine Tt.bind (c6q hx names hn hw.2.1.2) fun r hr=> ?_
 refine Tt.bind (P:=fun b=>b=true↔r.2=0/\r.1=0) (Tt.bif (fun h=>Tt.pure ?_) (fun h=>Tt.pure ?_)) fun b hb=> ?_
 ·have:r.2=0:=by simpa using h
  simp [this]
 ·have:r.2≠0:=by simpa using h
  simp [this]
 refine Tt.bif (fun h=>Tt.pure ⟨fun h=>(by cases h),fun h5=> ?_⟩) (fun h=>Tt.pure ⟨fun h5=> ?_,fun h5=> ?_⟩)
 ·obtain⟨_,_,k,hk,ht⟩:=h5
  have:=hr.2 k ht
  have h7:=(hb.1 h).2
  rw [this]at h7
  exact absurd h7 hk
 ·refine⟨hnm,hw,r.1,fun h6=> ?_,hr.1 h5⟩
  rw [hb.2 ⟨h5,h6⟩]at h;cases h
 ·obtain⟨_,_,k,hk,ht⟩:=h5
  rw [hr.2 k ht]
end Go.Proofs.YthaegflpecbfgaaGreatDoor.Tp
namespace Go.Proofs.YthaegflpecbfgaaGreatDoor.D
def val:List Int->Int
 | []=>0
 |d::l=>d+1048576*val l
def valc:List Int->Int->Int
 | [],c=>c
 |d::l,c=>d+1048576*valc l c
def pw:Nat->Int
 |0=>1
 |k+1=>1048576*pw k
def InR(l:List Int):Prop:=∀d∈l,0<=d/\d<1048576
theorem InR.nil:InR []:=by intro d hd;simp at hd
theorem InR.cons{d:Int}{l:List Int}(h0:0<=d)(h1:d<1048576)(h:InR l):InR (d::l):=by
 intro e he
 rcases List.mem_cons.1 he with rfl|he
 ·exact⟨h0,h1⟩
 ·exact h e he
theorem InR.head{d:Int}{l:List Int}(h:InR (d::l)):0<=d/\d<1048576:=h d (by simp)
theorem InR.tail{d:Int}{l:List Int}(h:InR (d::l)):InR l:=fun e he=>h e (by simp [he])
theorem InR.append{a b:List Int}(h:InR a)(k:InR b):InR (a++b):=by
 intro e he
 rcases List.mem_append.1 he with he|he
 ·exact h e he
 ·exact k e he
theorem InR.left{a b:List Int}(h:InR (a++b)):InR a:=fun e he=>h e (by simp [he])
theorem InR.right{a b:List Int}(h:InR (a++b)):InR b:=fun e he=>h e (by simp [he])
theorem InR.rep(k:Nat):InR (List.replicate k 0):=by
 intro e he
 rw [(List.mem_replicate.1 he).2];decide
theorem InR.headD{l:List Int}(h:InR l):0<=l.headD 0/\l.headD 0<1048576:=by
 cases l with
 |nil=>simp
 |cons d l=>simpa using h.head
theorem InR.tail'{l:List Int}(h:InR l):InR l.tail:=by
 cases l with
 |nil=>exact h
 |cons d l=>exact h.tail
theorem pw_pos:∀k,0<pw k
 |0=>by decide
 |k+1=>by have:=pw_pos k;simp only [pw];omega
theorem valc_eq:∀(l:List Int)(c:Int),valc l c=val l+pw l.length*c
 | [],c=>by simp [valc,val,pw]
 |d::l,c=>by simp only [valc,val,pw,List.length_cons,valc_eq l c];grind
theorem val_append:∀(a b:List Int),val (a++b)=val a+pw a.length*val b
 | [],b=>by simp [val,pw]
 |d::a,b=>by simp only [List.cons_append,val,pw,List.length_cons,val_append a b];grind
theorem b8k(a b:List Int):valc a (val b)=val (a++b):=by rw [valc_eq,val_append]
theorem val_nonneg:∀{l:List Int},InR l->0<=val l
 | [],_=>by simp [val]
 |d::l,h=>by have:=val_nonneg h.tail;have:=h.head;simp only [val];omega
theorem val_lt:∀{l:List Int},InR l->val l<pw l.length
 | [],_=>by simp [val,pw]
 |d::l,h=>by have:=val_lt h.tail;have:=h.head;simp only [val,pw,List.length_cons];omega
theorem val_rep:∀k,val (List.replicate k 0)=0
 |0=>rfl
 |k+1=>by rw [List.replicate_succ];simp only [val,val_rep k];rfl
def dig(v:Nat):List Int:=if v=0 then []else((v %1048576:Nat):Int)::dig (v/1048576)
 termination_by v
 decreasing_by omega
theorem dig_zero:dig 0= []:=by rw [dig];simp
theorem b3o{v:Nat}(h:v≠0):dig v=((v %1048576:Nat):Int)::dig (v/1048576):=by rw [dig];simp [h]
theorem a1l(v:Nat):val (dig v)=v:=by
 induction v using Nat.strongRecOn with
 |ind v ih=>
  by_cases h:v=0
  ·subst h;rw [dig_zero];rfl
  ·rw [b3o h];simp only [val];rw [ih (v/1048576) (by omega)];omega
theorem a2b(v:Nat):InR (dig v):=by
 induction v using Nat.strongRecOn with
 |ind v ih=>
  by_cases h:v=0
  ·subst h;rw [dig_zero];exact InR.nil
  ·rw [b3o h];exact InR.cons (by omega) (by omega) (ih _ (by omega))
theorem b6z{v:Nat}(h:v≠0):dig v≠ []:=by rw [b3o h];simp
theorem b9q(v:Nat):(dig v).getLast?≠some 0:=by
 induction v using Nat.strongRecOn with
 |ind v ih=>
  by_cases h:v=0
  ·subst h;rw [dig_zero];simp
  ·rw [b3o h]
   by_cases h2:v/1048576=0
   ·rw [h2,dig_zero];simp;omega
   ·have:=ih _ (show v/1048576<v by omega)
    rw [List.getLast?_cons]
    have h3:=b6z h2
    cases hg:(dig (v/1048576)).getLast? with
    |none=>rw [List.getLast?_eq_none_iff]at hg;exact absurd hg h3
    |some z=>simp [hg]at this⊢;exact this
def Canon(l:List Int):Prop:=InR l/\l.getLast?≠some 0
theorem Canon.tail{d:Int}{l:List Int}(h:Canon (d::l)):Canon l:=by
 refine⟨h.1.tail,?_⟩
 cases l with
 |nil=>simp
 |cons e l=>have:=h.2;rw [List.getLast?_cons_cons]at this;exact this
theorem b0b(v:Nat):Canon (dig v):=⟨a2b v,b9q v⟩
theorem dig_val:∀{l:List Int},Canon l->dig (val l).toNat=l
 | [],_=>by simp [val,dig_zero]
 |d::l,h=>by
  have ih:=dig_val h.tail
  have h0:=h.1.head
  have h1:=val_nonneg h.1.tail
  simp only [val]
  have hne:(d+1048576*val l).toNat≠0:=by
   intro e
   have e1:val l=0:=by omega
   have e2:d=0:=by omega
   rw [e1]at ih
   simp only [Int.toNat_zero,dig_zero]at ih
   subst ih e2
   exact h.2 rfl
  rw [b3o hne]
  have e1:(((d+1048576*val l).toNat %1048576:Nat):Int)=d:=by omega
  have e2:(d+1048576*val l).toNat/1048576=(val l).toNat:=by omega
  rw [e1,e2,ih]
theorem e4z{u v:Nat}(h:dig u=dig v):u=v:=by
 have h1:=a1l u
 rw [h,a1l]at h1;omega
theorem split_dig:∀{l:List Int},InR l->∃r,l=dig (val l).toNat++List.replicate r 0
 | [],_=>⟨0,by simp [val,dig_zero]⟩
 |d::l,h=>by
  obtain⟨r,hr⟩:=split_dig h.tail
  have h0:=h.head
  have h1:=val_nonneg h.tail
  simp only [val]
  by_cases hz:(d+1048576*val l).toNat=0
  ·have e1:val l=0:=by omega
   have e2:d=0:=by omega
   rw [e1]at hr
   simp only [Int.toNat_zero,dig_zero,List.nil_append]at hr
   refine⟨r+1,?_⟩
   rw [hz,dig_zero,e2,hr,List.replicate_succ];simp
  ·refine⟨r,?_⟩
   rw [b3o hz]
   have e1:(((d+1048576*val l).toNat %1048576:Nat):Int)=d:=by omega
   have e2:(d+1048576*val l).toNat/1048576=(val l).toNat:=by omega
   rw [e1,e2]
   conv=>lhs;rw [hr]
   simp
theorem c0e{l:List Int}(h:InR l):(dig (val l).toNat).length<=l.length:=by
 obtain⟨r,hr⟩:=split_dig h
 conv=>rhs;rw [hr]
 simp
theorem val_lt_of_len:∀{a b:List Int},InR a->Canon b->a.length<b.length->val a<val b
 | [],[],_,_,h=>by simp at h
 | [],d::l,_,hb,_=>by
  have h1:=val_nonneg hb.1
  have h2:val (d::l)≠0:=by
   intro e
   have:=dig_val hb
   rw [e]at this
   simp [dig_zero]at this
  simp only [val]at*;omega
 |x::xs,[],_,_,h=>by simp at h
 |x::xs,y::ys,ha,hb,h=>by
  have:=val_lt_of_len ha.tail hb.tail (by simpa using h)
  have:=ha.head
  have:=hb.1.head
  simp only [val];omega
theorem a4o{u v:Nat}(h:u<=v):(dig u).length<=(dig v).length:=by
 rcases Nat.lt_or_ge (dig v).length (dig u).length with h1|h1
 ·have:=val_lt_of_len (a2b v) (b0b u) h1
  rw [a1l,a1l]at this;omega
 ·exact h1
def addD:Int->List Int->List Int->List Int×Int
 |c,[],_=>([],c)
 |c,x::xs,ys=>((c+x+ys.headD 0) %1048576::(addD ((c+x+ys.headD 0)/1048576) xs ys.tail).1,(addD ((c+x+ys.headD 0)/1048576) xs ys.tail).2)
theorem addD_val:∀(xs ys:List Int)(c:Int),ys.length<=xs.length->valc (addD c xs ys).1 (addD c xs ys).2=c+val xs+val ys
 | [],ys,c,h=>by
  have:ys= []:=List.eq_nil_of_length_eq_zero (by simpa using h)
  subst this;simp [addD,valc,val]
 |x::xs,ys,c,h=>by
  have ih:=addD_val xs ys.tail ((c+x+ys.headD 0)/1048576) (by simp at h⊢;omega)
  simp only [addD,valc,ih,val]
  cases ys with
  |nil=>simp [val];omega
  |cons y ys=>simp [val];omega
theorem addD_len:∀(xs ys:List Int)(c:Int),(addD c xs ys).1.length=xs.length
 | [],_,_=>rfl
 |x::xs,ys,c=>by simp [addD,addD_len xs]
theorem addD_in:∀(xs ys:List Int)(c:Int),InR (addD c xs ys).1
 | [],_,_=>InR.nil
 |x::xs,ys,c=>InR.cons (by omega) (by omega) (addD_in xs _ _)
theorem addD_carry:∀(xs ys:List Int)(c:Int),InR xs->InR ys->0<=c->c<=1->0<=(addD c xs ys).2/\(addD c xs ys).2<=1
 | [],_,c,_,_,h0,h1=>⟨h0,h1⟩
 |x::xs,ys,c,hx,hy,h0,h1=>by
  have:=hx.head
  have:=hy.headD
  exact addD_carry xs ys.tail _ hx.tail hy.tail' (by omega) (by omega)
def setD(g:Int):Int->List Int->List Int->List Int×Int
 |b,[],_=>([],b)
 |b,u::us,vs=>((u-b-g*vs.headD 0) %1048576::(setD g (-((u-b-g*vs.headD 0)/1048576)) us vs.tail).1,(setD g (-((u-b-g*vs.headD 0)/1048576)) us vs.tail).2)
theorem c7r(g:Int):∀(us vs:List Int)(b:Int),vs.length<=us.length->valc (setD g b us vs).1 (-(setD g b us vs).2)=val us-b-g*val vs
 | [],vs,b,h=>by
  have:vs= []:=List.eq_nil_of_length_eq_zero (by simpa using h)
  subst this;simp [setD,valc,val]
 |u::us,vs,b,h=>by
  have ih:=c7r g us vs.tail (-((u-b-g*vs.headD 0)/1048576)) (by simp at h⊢;omega)
  simp only [setD,valc,ih,val]
  cases vs with
  |nil=>simp [val];omega
  |cons v vs=>
   simp only [List.headD_cons,List.tail_cons,val]
   rw [show g*(v+1048576*val vs)=g*v+1048576*(g*val vs) by grind]
   generalize g*v=p
   generalize g*val vs=q
   omega
theorem b6o(g:Int):∀(us vs:List Int)(b:Int),(setD g b us vs).1.length=us.length
 | [],_,_=>rfl
 |x::xs,ys,c=>by simp [setD,b6o g xs]
theorem b5o(g:Int):∀(us vs:List Int)(b:Int),InR (setD g b us vs).1
 | [],_,_=>InR.nil
 |x::xs,ys,c=>InR.cons (by omega) (by omega) (b5o g xs _ _)
theorem b8h{g v:Int}(hg:0<=g)(h0:0<=v)(h1:v<1048576):0<=g*v/\g*v<=g*1048576-g:=by
 have h2:=Int.mul_nonneg hg h0
 have h3:=Int.mul_le_mul_of_nonneg_left (show v<=1048575 by omega) hg
 omega
theorem b8j{g:Int}(hg:0<=g):∀(us vs:List Int)(b:Int),InR us->InR vs->0<=b->b<=g->0<=(setD g b us vs).2/\(setD g b us vs).2<=g
 | [],_,b,_,_,h0,h1=>⟨h0,h1⟩
 |u::us,vs,b,hu,hv,h0,h1=>by
  have:=hu.head
  have:=hv.headD
  have:=b8h (g:=g) hg this.1 this.2
  exact b8j hg us vs.tail _ hu.tail hv.tail' (by omega) (by omega)
def mulD(x:Int):Int->List Int->List Int->List Int×Int
 |c,[],_=>([],c)
 |c,y::ys,ws=>((ws.headD 0+x*y+c) %1048576::(mulD x ((ws.headD 0+x*y+c)/1048576) ys ws.tail).1,(mulD x ((ws.headD 0+x*y+c)/1048576) ys ws.tail).2)
theorem d2p(x:Int):∀(ys ws:List Int)(c:Int),ws.length=ys.length->valc (mulD x c ys ws).1 (mulD x c ys ws).2=val ws+x*val ys+c
 | [],ws,c,h=>by
  have:ws= []:=List.eq_nil_of_length_eq_zero (by simpa using h)
  subst this;simp [mulD,valc,val]
 |y::ys,[],c,h=>by simp at h
 |y::ys,w::ws,c,h=>by
  have ih:=d2p x ys ws ((w+x*y+c)/1048576) (by simpa using h)
  simp only [mulD,List.headD_cons,List.tail_cons,valc,ih,val]
  rw [show x*(y+1048576*val ys)=x*y+1048576*(x*val ys) by grind]
  generalize x*y=p
  generalize x*val ys=q
  omega
theorem c2g(x:Int):∀(ys ws:List Int)(c:Int),(mulD x c ys ws).1.length=ys.length
 | [],_,_=>rfl
 |y::ys,ws,c=>by simp [mulD,c2g x ys]
theorem d0m(x:Int):∀(ys ws:List Int)(c:Int),InR (mulD x c ys ws).1
 | [],_,_=>InR.nil
 |y::ys,ws,c=>InR.cons (by omega) (by omega) (d0m x ys _ _)
theorem c3g{x y:Int}(h0:0<=x)(h1:x<1048576)(h2:0<=y)(h3:y<1048576):0<=x*y/\x*y<=1099509530625:=by
 have h4:=b8h h0 h2 h3
 omega
theorem c0i{x:Int}(h0:0<=x)(h1:x<1048576):∀(ys ws:List Int)(c:Int),InR ys->InR ws->0<=c->c<1048576->0<=(mulD x c ys ws).2/\(mulD x c ys ws).2<1048576
 | [],_,c,_,_,h2,h3=>⟨h2,h3⟩
 |y::ys,ws,c,hy,hw,h2,h3=>by
  have e1:=hy.head
  have e2:=hw.headD
  have e3:=c3g h0 h1 e1.1 e1.2
  exact c0i h0 h1 ys ws.tail _ hy.tail hw.tail' (by omega) (by omega)
def mulF(b:List Int):List Int->List Int->List Int
 | [],w=>w
 |x::xs,w=>((mulD x 0 b w).1++ [(mulD x 0 b w).2]).headD 0::mulF b xs (((mulD x 0 b w).1++ [(mulD x 0 b w).2]).tail)
theorem d8e{l:List Int}(h:l≠ []):l.headD 0+1048576*val l.tail=val l:=by
 cases l with
 |nil=>exact absurd rfl h
 |cons d l=>rfl
theorem c7o(b:List Int):∀(xs w:List Int),w.length=b.length->val (mulF b xs w)=val w+val xs*val b
 | [],w,_=>by simp [mulF,val]
 |x::xs,w,h=>by
  have e1:=d2p x b w 0 h
  have e2:=c7o b xs (((mulD x 0 b w).1++ [(mulD x 0 b w).2]).tail) (by simp [c2g])
  have e3:=d8e (l:=(mulD x 0 b w).1++ [(mulD x 0 b w).2]) (by simp)
  have e4:val ((mulD x 0 b w).1++ [(mulD x 0 b w).2])=valc (mulD x 0 b w).1 (mulD x 0 b w).2:=by
   rw [<-b8k];simp [val]
  simp only [mulF,val,e2]
  rw [show(x+1048576*val xs)*val b=x*val b+1048576*(val xs*val b) by grind]
  generalize x*val b=p at*
  generalize val xs*val b=q at*
  omega
theorem c2c(b:List Int):∀(xs w:List Int),w.length=b.length->(mulF b xs w).length=xs.length+b.length
 | [],w,h=>by simp [mulF,h]
 |x::xs,w,h=>by simp [mulF,c2c b xs _ (show(((mulD x 0 b w).1++ [(mulD x 0 b w).2]).tail).length=b.length by simp [c2g])];omega
theorem d0g{b:List Int}(hb:InR b):∀(xs w:List Int),InR xs->InR w->InR (mulF b xs w)
 | [],w,_,hw=>hw
 |x::xs,w,hx,hw=>by
  have h0:=hx.head
  have e1:=c0i h0.1 h0.2 b w 0 hb hw (by decide) (by decide)
  have e2:InR ((mulD x 0 b w).1++ [(mulD x 0 b w).2]):=(d0m x b w 0).append (InR.cons e1.1 e1.2 InR.nil)
  simp only [mulF]
  exact InR.cons e2.headD.1 e2.headD.2 (d0g hb xs _ hx.tail e2.tail')
def a5x(V:Int):List Int->Int->List Int×Int
 | [],r=>([],r)
 |x::xs,r=>(((a5x V xs r).2*1048576+x)/V::(a5x V xs r).1,((a5x V xs r).2*1048576+x) %V)
theorem c3c{V:Int}:∀(l:List Int)(r:Int),val (a5x V l r).1*V+(a5x V l r).2=valc l r
 | [],r=>by simp [a5x,val,valc]
 |x::xs,r=>by
  have ih:=c3c (V:=V) xs r
  simp only [a5x,val,valc]
  have h1:=Int.mul_ediv_add_emod ((a5x V xs r).2*1048576+x) V
  rw [Int.add_mul,Int.mul_assoc]
  rw [Int.mul_comm V]at h1
  generalize ((a5x V xs r).2*1048576+x)/V*V=p at*
  generalize val (a5x V xs r).1*V=q at*
  omega
theorem b8o(V:Int):∀(l:List Int)(r:Int),(a5x V l r).1.length=l.length
 | [],_=>rfl
 |x::xs,r=>by simp [a5x,b8o V xs]
theorem b8u{V:Int}(hV:0<V):∀(l:List Int)(r:Int),0<=r->r<V->0<=(a5x V l r).2/\(a5x V l r).2<V
 | [],r,h0,h1=>⟨h0,h1⟩
 |x::xs,r,_,_=>⟨Int.emod_nonneg _ (by omega),Int.emod_lt_of_pos _ hV⟩
theorem c6g{V:Int}(hV:0<V):∀(l:List Int)(r:Int),InR l->0<=r->r<V->InR (a5x V l r).1
 | [],_,_,_,_=>InR.nil
 |x::xs,r,hl,h0,h1=>by
  have h2:=b8u hV xs r h0 h1
  have h3:=hl.head
  refine InR.cons (Int.ediv_nonneg (by omega) (by omega)) (Int.ediv_lt_of_lt_mul hV ?_) (c6g hV xs r hl.tail h0 h1)
  omega
def sg(x:Int):Int:=if x<0 then-1 else if 0<x then 1 else 0
def cmpD:List Int->List Int->Int
 |x::xs,y::ys=>if cmpD xs ys=0 then sg (x-y)else cmpD xs ys
 |_,_=>0
theorem cmpD_val:∀{a b:List Int},InR a->InR b->a.length=b.length->cmpD a b=sg (val a-val b)
 | [],[],_,_,_=>by simp [cmpD,sg,val]
 | [],_::_,_,_,h=>by simp at h
 |_::_,[],_,_,h=>by simp at h
 |x::xs,y::ys,ha,hb,h=>by
  have ih:=cmpD_val ha.tail hb.tail (by simpa using h)
  have h1:=ha.head
  have h2:=hb.head
  simp only [cmpD,val,ih]
  unfold sg
  split<;>split<;>(try split)<;>(try split)<;>(try split)<;>omega
theorem cmpD_drop:∀(k:Nat)(a b:List Int),cmpD (a.drop k) (b.drop k)≠0->cmpD a b=cmpD (a.drop k) (b.drop k)
 |0,_,_,_=>by simp
 |k+1,[],b,h=>by simp [cmpD]at h
 |k+1,_::_,[],h=>by simp [cmpD]at h
 |k+1,x::xs,y::ys,h=>by
  simp only [List.drop_succ_cons]at h⊢
  have ih:=cmpD_drop k xs ys h
  simp only [cmpD,ih,if_neg h]
theorem b4u(V:Int):∀(a b:List Int)(r:Int),a5x V (a++b) r=((a5x V a (a5x V b r).2).1++(a5x V b r).1,(a5x V a (a5x V b r).2).2)
 | [],b,r=>rfl
 |x::xs,b,r=>by
  simp only [List.cons_append,a5x,b4u V xs b r]
theorem pw_mono:∀{a b:Nat},a<=b->pw a<=pw b
 |0,0,_=>Int.le_refl _
 |0,b+1,_=>by have:=pw_pos b;have:=pw_mono (Nat.zero_le b);simp only [pw]at*;omega
 |a+1,0,h=>by omega
 |a+1,b+1,h=>by have:=pw_mono (show a<=b by omega);simp only [pw];omega
theorem d4r{V1 V2 Vl P g rest T u2 Ul B:Int}(hB:B=1048576)(hT:g*V1+rest=T)(hV:0<=Vl)(hU:Ul<P)(hg:0<=g)(hbig:rest*B+u2<g*V2)(hP:0<P):
 Ul+P*(u2+B*T)<g*(Vl+P*(V2+B*V1)):=by
 have h1:Ul+P*(u2+B*T)-g*(Vl+P*(V2+B*V1))=Ul-g*Vl+P*(u2+rest*B-g*V2):=by grind
 have h2:=Int.mul_nonneg hg hV
 have h3:P*(u2+rest*B-g*V2)<=P*(-1):=Int.mul_le_mul_of_nonneg_left (by omega) (by omega)
 omega
theorem e0e{V1 V2 Vl P g rest T u2 Ul B:Int}(hB:B=1048576)(hT:g*V1+rest=T)(hV:0<=Vl)(hVP:Vl<=P)(hU:0<=Ul)(hgB:g<=B)(hsm:g*V2<=rest*B+u2)(hP:0<P)(h1:1<=V1)(h2:0<=V2):
 (g-1)*(Vl+P*(V2+B*V1))<=Ul+P*(u2+B*T):=by
 have e1:Ul+P*(u2+B*T)-(g-1)*(Vl+P*(V2+B*V1))=Ul-g*Vl+P*(u2+rest*B-g*V2)+Vl+P*V2+P*B*V1:=by grind
 have e2:0<=P*(u2+rest*B-g*V2):=Int.mul_nonneg (by omega) (by omega)
 have e3:g*Vl<=B*P:=Int.mul_le_mul hgB hVP hV (by omega)
 have e4:P*B*1<=P*B*V1:=Int.mul_le_mul_of_nonneg_left h1 (Int.mul_nonneg (by omega) (by omega))
 have e5:0<=P*V2:=Int.mul_nonneg (by omega) h2
 have e6:B*P=P*B:=Int.mul_comm _ _
 omega
theorem c7y{U V q:Int}(hV:0<V)(h0:q*V<=U)(h1:U<(q+1)*V):U/V=q/\U %V=U-q*V:=by
 have h2:(q+1)*V=q*V+V:=by grind
 have h3:=Int.ediv_emod_unique (a:=U) (b:=V) (r:=U-q*V) (q:=q) hV
 have h4:=h3.2 ⟨by rw [Int.mul_comm V q];omega,by omega,by omega⟩
 exact h4
end Go.Proofs.YthaegflpecbfgaaGreatDoor.D
namespace Go.Proofs.YthaegflpecbfgaaGreatDoor.D
open Go Rt M
theorem inc64{i:Nat}(h:i<4611686018427387904):iadd .i64 (i:Int) 1=((i+1:Nat):Int):=by rw [a1s (by omega) (by omega)];omega
theorem e5o{i:Nat}(h:i<4611686018427387904):isub .i64 ((i+1:Nat):Int) 1=(i:Int):=by rw [a1c (by omega) (by omega)];omega
theorem drop_cons{α:Type}{a:List α}{i:Nat}{x:α}{xs:List α}(h:a.drop i=x::xs):ix a (i:Int)=some x/\a.drop (i+1)=xs/\i<a.length:=by
 have h1:a[i]?=some x:=by have:=congrArg (fun l=>l[0]?) h;simpa using this
 refine⟨by rw [b1z];exact h1,?_,(List.getElem?_eq_some_iff.1 h1).1⟩
 rw [<-List.drop_drop,h];rfl
theorem drop_nil{α:Type}{a:List α}{i:Nat}(h:a.drop i= []):a.length<=i:=by simpa using h
theorem InR.drop{l:List Int}(h:InR l)(k:Nat):InR (l.drop k):=fun e he=>h e (List.mem_of_mem_drop he)
theorem InR.take{l:List Int}(h:InR l)(k:Nat):InR (l.take k):=fun e he=>h e (List.mem_of_mem_take he)
theorem e4e(n:Nat)(kont:Int->Option (List Int)):∀(r:Nat)(c:List Int)(m:Nat),Canon c->c.length+r<1099511627776->r<m->
 big_trim_L1 n (c++List.replicate r 0) kont m ((c.length+r:Nat):Int)=kont (c.length:Int)
 |0,c,m+1,hc,hl,_=>by
  rw [big_trim_L1_s]
  simp only [Nat.add_zero,List.replicate_zero,List.append_nil]
  rcases List.eq_nil_or_concat c with rfl|⟨p,d,rfl⟩
  ·rfl
  ·rw [List.concat_eq_append]at*
   have hd:(d==0)=false:=by
    have:=hc.2
    simpa using this
   have e0:isub .i64 (((p++ [d]).length:Nat):Int) 1=(p.length:Int):=by rw [List.length_append,List.length_singleton];exact e5o (by simp at hl;omega)
   have e1:decide ((0:Int)<((p++ [d]).length:Int))=true:=by rw [decide_eq_true_eq,List.length_append,List.length_singleton];omega
   rw [e1,e0,a5s p d [] rfl]
   simp only [cond_true,Option.bind_some,hd,cond_false]
 |r+1,c,m+1,hc,hl,hm=>by
  rw [big_trim_L1_s]
  have e1:decide ((0:Int)<((c.length+(r+1):Nat):Int))=true:=by simp;try omega
  have e0:isub .i64 ((c.length+(r+1):Nat):Int) 1=((c.length+r:Nat):Int):=by rw [a1c (by omega) (by omega)];omega
  have e2:ix (c++List.replicate (r+1) 0) ((c.length+r:Nat):Int)=some 0:=by
   rw [b1z,List.getElem?_append_right (by omega)]
   simp
  rw [e1,e0,e2]
  simp only [cond_true,Option.bind_some,beq_self_eq_true]
  have e3:∀(m:Nat)(k:Nat),k<=c.length+r->big_trim_L1 n (c++List.replicate (r+1) 0) kont m (k:Int)=big_trim_L1 n (c++List.replicate r 0) kont m (k:Int):=by
   intro m
   induction m with
   |zero=>intro k _;rfl
   |succ m ih=>
    intro k hk
    rw [big_trim_L1_s,big_trim_L1_s]
    cases k with
    |zero=>rfl
    |succ k=>
     rw [e5o (by omega)]
     have e4:ix (c++List.replicate (r+1) 0) (k:Int)=ix (c++List.replicate r 0) (k:Int):=by
      rw [b1z,b1z,List.replicate_succ',<-List.append_assoc,List.getElem?_append_left (by simp;omega)]
     rw [e4,ih k (by omega)]
  rw [e3 m _ (Nat.le_refl _)]
  exact e4e n kont r c m hc (by omega) (by omega)
 |_,_,0,_,_,h=>by omega
theorem c3h{l:List Int}(hl:InR l)(hlen:l.length<1099511627776){n:Nat}(hn:l.length<n):a2s n l=some (dig (val l).toNat):=by
 obtain⟨r,hr⟩:=split_dig hl
 have h1:l.length=(dig (val l).toNat).length+r:=by conv=>lhs;rw [hr]
                                                   simp
 unfold a2s
 have h2:=e4e n (fun(nx2:Int)=>(lsl l 0 nx2).bind fun l2=>some l2) r (dig (val l).toNat) n (b0b _) (by omega) (by omega)
 rw [<-hr,<-h1]at h2
 rw [h2]
 have h3:=d3g (l:=l) (p:=0) (q:=(dig (val l).toNat).length) (by omega) (by omega)
 rw [show((0:Nat):Int)=0 from rfl]at h3
 rw [h3]
 simp only [Option.bind_some,List.drop_zero]
 have h4:∀c:List Int,l=c++List.replicate r 0->l.take c.length=c:=fun c hc=>by rw [hc];exact List.take_left
 rw [h4 _ hr]
theorem d8g{l:List Int}(hl:InR l)(hlen:l.length<1099511627776):Ev (fun n=>a2s n l) (dig (val l).toNat):=⟨l.length+1,fun _ hn=>c3h hl hlen hn⟩
theorem e9e(n:Nat)(a b:List Int)(kont:Int->List Int->Option (List Int))(ha:a.length<1099511627776)(hb:InR b):∀(us:List Int)(i:Nat)(c:Int)(pre suf:List Int)(m:Nat),a.drop i=us->InR us->0<=c->c<=1->pre.length=i->us.length<=suf.length->us.length<m->
 big_add_L1 n a b kont m c (i:Int) (pre++suf)=kont (addD c us (b.drop i)).2 (pre++((addD c us (b.drop i)).1++suf.drop us.length))
 | [],i,c,pre,suf,m+1,hd,_,_,_,_,_,_=>by
  rw [big_add_L1_s]
  have:=drop_nil hd
  have e1:decide ((i:Int)<(a.length:Int))=false:=by simp;omega
  rw [e1];simp [addD]
 |x::xs,i,c,pre,[],m+1,_,_,_,_,_,hs,_=>by simp at hs
 |x::xs,i,c,pre,z::suf,m+1,hd,hx,h0,h1,hp,hs,hm=>by
  rw [big_add_L1_s]
  obtain⟨e1,e2,e3⟩:=drop_cons hd
  have e4:decide ((i:Int)<(a.length:Int))=true:=by simp;omega
  have hx0:=hx.head
  have hy0:=(InR.drop hb i).headD
  have e5:(bif decide ((i:Int)<(b.length:Int))then(ix b (i:Int)).bind fun ex4=>some (iadd .i64 (iadd .i64 c x) ex4)else some (iadd .i64 c x))=some (c+x+(b.drop i).headD 0):=by
   cases hbd:b.drop i with
   |nil=>
    have:=drop_nil hbd
    have e6:decide ((i:Int)<(b.length:Int))=false:=by simp;omega
    rw [e6,a1s (by omega) (by omega)];simp
   |cons y ys=>
    obtain⟨f1,_,f3⟩:=drop_cons hbd
    have e6:decide ((i:Int)<(b.length:Int))=true:=by simp;omega
    rw [hbd]at hy0
    simp only [List.headD_cons]at hy0
    rw [e6,f1,a1s (x:=c) (by omega) (by omega)]
    simp only [cond_true,Option.bind_some,List.headD_cons]
    rw [a1s (by omega) (by omega)]
  rw [e4,e1]
  simp only [cond_true,Option.bind_some]
  rw [e5]
  simp only [Option.bind_some]
  rw [a5s pre z suf (by omega),b5w,a9c pre z _ suf (by omega),c4d,inc64 (by omega)]
  simp only [Option.bind_some]
  have ih:=e9e n a b kont ha hb xs (i+1) ((c+x+(b.drop i).headD 0)/1048576) (pre++ [(c+x+(b.drop i).headD 0) %1048576]) suf m e2 hx.tail (by omega) (by omega) (by simp;omega) (by simpa using hs) (by simpa using hm)
  rw [List.append_assoc,List.singleton_append]at ih
  rw [ih]
  have e7:b.drop (i+1)=(b.drop i).tail:=by simp
  simp only [addD,e7,List.append_assoc,List.nil_append,List.cons_append,List.drop_succ_cons,List.length_cons]
 |_,_,_,_,_,0,_,_,_,_,_,_,h=>by omega
theorem e8j{a b:List Int}(ha:InR a)(hb:InR b)(hla:a.length<1073741824)(hlb:b.length<1073741824):Ev (fun n=>b8i n a b) (dig (val a+val b).toNat):=by
 have key:∀{a b:List Int},InR a->InR b->a.length<1073741824->b.length<=a.length->Ev (fun n=>(mks 8 (0:Int) (iadd .i64 (a.length:Int) 1)).bind fun l1=>
  big_add_L1 n a b (fun(carry2:Int)(l3:List Int)=>(ix l3 (a.length:Int)).bind fun _=>(lset l3 (a.length:Int) carry2).bind fun l4=>(a2s n l4).bind fun v1=>some v1) n 0 0 l1) (dig (val a+val b).toNat):=by
  intro a b ha hb hla hle
  refine Ev.step (by rw [inc64 (by omega)];exact c3y (by omega)) ?_
  refine⟨a.length+2,fun n hn=> ?_⟩
  have h1:=e9e n a b (fun(carry2:Int)(l3:List Int)=>(ix l3 (a.length:Int)).bind fun _=>(lset l3 (a.length:Int) carry2).bind fun l4=>(a2s n l4).bind fun v1=>some v1) (by omega) hb a 0 0 [] (List.replicate (a.length+1) 0) n rfl ha (by decide) (by decide) rfl (by simp) (by omega)
  simp only [List.nil_append,List.drop_zero]at h1
  rw [show((0:Nat):Int)=0 from rfl]at h1
  dsimp only
  rw [h1]
  have e1:(List.replicate (a.length+1) (0:Int)).drop a.length= [0]:=by simp
  have e2:=addD_len a b 0
  have e3:=addD_carry a b 0 ha hb (by decide) (by decide)
  have e4:=addD_val a b 0 hle
  rw [e1,a5s _ 0 [] (by rw [e2]),a9c _ 0 _ [] (by rw [e2])]
  simp only [Option.bind_some]
  have e5:InR ((addD 0 a b).1++ [(addD 0 a b).2]):=(addD_in a b 0).append (InR.cons e3.1 (by omega) InR.nil)
  rw [c3h e5 (by simp [e2];omega) (by simp [e2];omega)]
  simp only [Option.bind_some]
  have e6:val ((addD 0 a b).1++ [(addD 0 a b).2])=val a+val b:=by
   rw [<-b8k]
   simp only [val,Int.mul_zero,Int.add_zero]
   omega
  rw [e6]
 unfold b8i
 by_cases hlt:a.length<b.length
 ·refine Ev.step (a:=(b,a)) (by rw [show decide ((a.length:Int)<(b.length:Int))=true from by simp;omega];rfl) ?_
  rw [Int.add_comm]
  exact key hb ha hlb (by omega)
 ·refine Ev.step (a:=(a,b)) (by rw [show decide ((a.length:Int)<(b.length:Int))=false from by simp;omega];rfl) ?_
  exact key ha hb hla (by omega)
end Go.Proofs.YthaegflpecbfgaaGreatDoor.D
namespace Go.Proofs.YthaegflpecbfgaaGreatDoor.D
open Go Rt M
theorem e7p(n:Nat){a:List Int}(h:a.length<1073741824):a0r n a=some a:=by
 have h2:(([]:List Int).length+a.length)*8<=140737488355328:=by simp only [List.length_nil,Nat.zero_add];omega
 show app 8 [] a=some a
 rw [b8y h2,List.nil_append]
theorem d5n{a:List Int}(h:a.length<1073741824):∀n,a0r n a=some a:=fun n=>e7p n h
theorem d8x{a:List Int}(h:∀n,a0r n a=some a):Ev (fun n=>a0r n a) a:=⟨0,fun n _=>h n⟩
theorem b3n{a:List Int}(h:a.length<1073741824):Ev (fun n=>a0r n a) a:=d8x (d5n h)
theorem e2s{x c y:Int}(h0:0<=c)(h1:c<=1)(hx0:0<=x)(hx1:x<1048576)(hy0:0<=y)(hy1:y<1048576){t:Int}(ht:t=x-c-y):t/1048576 %2=-(t/1048576)/\0<=-(t/1048576)/\-(t/1048576)<=1:=by
 subst ht;omega
theorem e9p(n:Nat)(b v:List Int)(kont:List Int->Option (List Int))(hv:v.length<1099511627776)(hb:InR b):∀(us:List Int)(i:Nat)(c:Int)(pre:List Int)(m:Nat),InR us->0<=c->c<=1->pre.length=i->i+us.length=v.length->us.length<m->
 big_sub_L1 n b v kont m c (i:Int) (pre++us)=kont (pre++(setD 1 c us (b.drop i)).1)
 | [],i,c,pre,m+1,_,_,_,_,hl,_=>by
  rw [big_sub_L1_s]
  simp only [List.length_nil]at hl
  have e1:decide ((i:Int)<(v.length:Int))=false:=by simp;omega
  rw [e1];simp [setD]
 |x::xs,i,c,pre,m+1,hx,h0,h1,hp,hl,hm=>by
  rw [big_sub_L1_s]
  simp only [List.length_cons]at hl hm
  have e4:decide ((i:Int)<(v.length:Int))=true:=by simp;omega
  have hx0:=hx.head
  have hy0:=(InR.drop hb i).headD
  have e7:b.drop (i+1)=(b.drop i).tail:=by simp
  obtain⟨t,ht⟩:∃t,t=x-c-(b.drop i).headD 0:=⟨_,rfl⟩
  have e5:(bif decide ((i:Int)<(b.length:Int))then(ix b (i:Int)).bind fun ex3=>some (isub .i64 (isub .i64 x c) ex3)else some (isub .i64 x c))=some t:=by
   rw [ht]
   cases hbd:b.drop i with
   |nil=>
    have:=drop_nil hbd
    have e6:decide ((i:Int)<(b.length:Int))=false:=by simp;omega
    rw [e6,a1c (by omega) (by omega)];simp
   |cons y ys=>
    obtain⟨f1,_,f3⟩:=drop_cons hbd
    have e6:decide ((i:Int)<(b.length:Int))=true:=by simp;omega
    rw [hbd]at hy0
    simp only [List.headD_cons]at hy0
    rw [e6,f1,a1c (x:=x) (by omega) (by omega)]
    simp only [cond_true,Option.bind_some,List.headD_cons]
    rw [a1c (by omega) (by omega)]
  obtain⟨b1,b2,b3⟩:=e2s h0 h1 hx0.1 hx0.2 hy0.1 hy0.2 ht
  have e8:x-c-1*(b.drop i).headD 0=t:=by rw [ht,Int.one_mul]
  have e9:setD 1 c (x::xs) (b.drop i)=(t %1048576::(setD 1 (-(t/1048576)) xs (b.drop (i+1))).1,(setD 1 (-(t/1048576)) xs (b.drop (i+1))).2):=by
   rw [e7];simp only [setD,e8]
  have ih:=e9p n b v kont hv hb xs (i+1) (-(t/1048576)) (pre++ [t %1048576]) m hx.tail b2 b3 (by simp;omega) (by omega) (by omega)
  rw [e4,a5s pre x xs (by omega)]
  simp only [cond_true,Option.bind_some]
  rw [e5,Option.bind_some,c4d,b5w,a9c pre x _ xs (by omega),inc64 (by omega)]
  simp only [Option.bind_some]
  rw [e0v,b1,e9]
  rw [List.append_assoc,List.singleton_append]at ih
  rw [ih,List.append_assoc,List.singleton_append]
 |_,_,_,_,0,_,_,_,_,_,h=>by omega
theorem c5u{us vs:List Int}{g:Int}(hu:InR us)(hv:InR vs)(hl:vs.length<=us.length)(hg:0<=g)(h:g*val vs<=val us):(setD g 0 us vs).2=0/\val (setD g 0 us vs).1=val us-g*val vs:=by
 have e1:=c7r g us vs 0 hl
 have e2:=b8j hg us vs 0 hu hv (by decide) hg
 have e3:=val_lt (b5o g us vs 0)
 rw [valc_eq,b6o]at e1
 rw [b6o]at e3
 have hb:(setD g 0 us vs).2=0:=by
  rcases(show 0<(setD g 0 us vs).2∨(setD g 0 us vs).2<=0 by omega)with h4|h4
  ·have h5:pw us.length*(-(setD g 0 us vs).2)<=pw us.length*(-1):=Int.mul_le_mul_of_nonneg_left (by omega) (by have:=pw_pos us.length;omega)
   omega
  ·omega
 refine⟨hb,?_⟩
 rw [hb]at e1
 simp only [Int.neg_zero,Int.mul_zero]at e1
 omega
theorem e8t{a b:List Int}(ha:InR a)(hb:InR b)(hla:a.length<1073741824)(hlb:b.length<=a.length)(h:val b<=val a):Ev (fun n=>b4z n a b) (dig (val a-val b).toNat):=by
 unfold b4z
 refine Ev.bind (b3n hla) ?_
 refine⟨a.length+1,fun n hn=> ?_⟩
 have h1:=e9p n b a (fun(l2:List Int)=>(a2s n l2).bind fun v2=>some v2) (by omega) hb a 0 0 [] n ha (by decide) (by decide) rfl (by simp) (by omega)
 simp only [List.nil_append,List.drop_zero]at h1
 rw [show((0:Nat):Int)=0 from rfl]at h1
 dsimp only
 rw [h1,c3h (b5o _ _ _ _) (by rw [b6o];omega) (by rw [b6o];omega)]
 have h2:=c5u (g:=1) ha hb hlb (by decide) (by omega)
 simp only [Option.bind_some]
 rw [h2.2,Int.one_mul]
theorem c9z(n:Nat)(u v:List Int)(g:Int)(kont:Int->List Int->Option (List Int×Int))(hlu:u.length<1099511627776)(hv:InR v)(hg0:0<=g)(hg1:g<=1048576):∀(us:List Int)(i:Nat)(c:Int)(pre:List Int)(m:Nat),InR us->0<=c->c<=g->pre.length=i->i+us.length=u.length->us.length<m->
 big_settle_L1 n u v g kont m c (i:Int) (pre++us)=kont (setD g c us (v.drop i)).2 (pre++(setD g c us (v.drop i)).1)
 | [],i,c,pre,m+1,_,_,_,_,hl,_=>by
  rw [big_settle_L1_s]
  simp only [List.length_nil]at hl
  have e1:decide ((i:Int)<(u.length:Int))=false:=by simp;omega
  rw [e1];simp [setD]
 |x::xs,i,c,pre,m+1,hx,h0,h1,hp,hl,hm=>by
  rw [big_settle_L1_s]
  simp only [List.length_cons]at hl hm
  have e4:decide ((i:Int)<(u.length:Int))=true:=by simp;omega
  have hx0:=hx.head
  have hy0:=(InR.drop hv i).headD
  have hmul:=b8h hg0 hy0.1 hy0.2
  have e5:(bif decide ((i:Int)<(v.length:Int))then(ix v (i:Int)).bind fun ex6=>some (isub .i64 (isub .i64 x c) (imul .i64 g ex6))else some (isub .i64 x c))=some (x-c-g*(v.drop i).headD 0):=by
   cases hbd:v.drop i with
   |nil=>
    have:=drop_nil hbd
    have e6:decide ((i:Int)<(v.length:Int))=false:=by simp;omega
    rw [e6,a1c (by omega) (by omega)];simp
   |cons y ys=>
    obtain⟨f1,_,f3⟩:=drop_cons hbd
    have e6:decide ((i:Int)<(v.length:Int))=true:=by simp;omega
    rw [hbd]at hy0 hmul
    simp only [List.headD_cons]at hy0 hmul
    rw [e6,f1,a1c (x:=x) (by omega) (by omega)]
    simp only [cond_true,Option.bind_some,List.headD_cons]
    rw [a6w (by omega) (by omega),a1c (by omega) (by omega)]
  rw [e4,a5s pre x xs (by omega)]
  simp only [cond_true,Option.bind_some]
  rw [e5]
  simp only [Option.bind_some]
  rw [c4d,b5w,a9c pre x _ xs (by omega),inc64 (by omega)]
  simp only [Option.bind_some]
  rw [Int.zero_sub,a5f (by omega) (by omega)]
  have ih:=c9z n u v g kont hlu hv hg0 hg1 xs (i+1) (-((x-c-g*(v.drop i).headD 0)/1048576)) (pre++ [(x-c-g*(v.drop i).headD 0) %1048576]) m hx.tail (by omega) (by omega) (by simp;omega) (by omega) (by omega)
  rw [List.append_assoc,List.singleton_append]at ih
  rw [ih]
  have e7:v.drop (i+1)=(v.drop i).tail:=by simp
  simp only [setD,e7,List.append_assoc,List.nil_append,List.cons_append]
 |_,_,_,_,0,_,_,_,_,_,h=>by omega
theorem c9j(n:Nat)(v l0:List Int)(kont:List Int->Option (List Int×Int))(hl0:l0.length<1099511627776)(hv:InR v):∀(us:List Int)(i:Nat)(c:Int)(pre:List Int)(m:Nat),InR us->0<=c->c<=1->pre.length=i->i+us.length=l0.length->us.length<m->
 big_settle_L2 n v l0 kont m c (i:Int) (pre++us)=kont (pre++(addD c us (v.drop i)).1)
 | [],i,c,pre,m+1,_,_,_,_,hl,_=>by
  rw [big_settle_L2_s]
  simp only [List.length_nil]at hl
  have e1:decide ((i:Int)<(l0.length:Int))=false:=by simp;omega
  rw [e1];simp [addD]
 |x::xs,i,c,pre,m+1,hx,h0,h1,hp,hl,hm=>by
  rw [big_settle_L2_s]
  simp only [List.length_cons]at hl hm
  have e4:decide ((i:Int)<(l0.length:Int))=true:=by simp;omega
  have hx0:=hx.head
  have hy0:=(InR.drop hv i).headD
  have e5:(bif decide ((i:Int)<(v.length:Int))then(ix v (i:Int)).bind fun ex3=>some (iadd .i64 (iadd .i64 c x) ex3)else some (iadd .i64 c x))=some (c+x+(v.drop i).headD 0):=by
   cases hbd:v.drop i with
   |nil=>
    have:=drop_nil hbd
    have e6:decide ((i:Int)<(v.length:Int))=false:=by simp;omega
    rw [e6,a1s (by omega) (by omega)];simp
   |cons y ys=>
    obtain⟨f1,_,f3⟩:=drop_cons hbd
    have e6:decide ((i:Int)<(v.length:Int))=true:=by simp;omega
    rw [hbd]at hy0
    simp only [List.headD_cons]at hy0
    rw [e6,f1,a1s (x:=c) (by omega) (by omega)]
    simp only [cond_true,Option.bind_some,List.headD_cons]
    rw [a1s (by omega) (by omega)]
  rw [e4,a5s pre x xs (by omega)]
  simp only [cond_true,Option.bind_some]
  rw [e5]
  simp only [Option.bind_some]
  rw [c4d,b5w,a9c pre x _ xs (by omega),inc64 (by omega)]
  simp only [Option.bind_some]
  have ih:=c9j n v l0 kont hl0 hv xs (i+1) ((c+x+(v.drop i).headD 0)/1048576) (pre++ [(c+x+(v.drop i).headD 0) %1048576]) m hx.tail (by omega) (by omega) (by simp;omega) (by omega) (by omega)
  rw [List.append_assoc,List.singleton_append]at ih
  rw [ih]
  have e7:v.drop (i+1)=(v.drop i).tail:=by simp
  simp only [addD,e7,List.append_assoc,List.nil_append,List.cons_append]
 |_,_,_,_,0,_,_,_,_,_,h=>by omega
theorem e1l{u v:List Int}{g:Int}(hu:InR u)(hv:InR v)(hl:v.length<=u.length)(hlu:u.length<1073741824)(hg0:0<=g)(hg1:g<=1048576)(hV:0<val v)(h1:val u<(g+1)*val v)(h2:(g-1)*val v<=val u){n:Nat}(hn:u.length<n):
 ∃r,a9v n u v g=some (r,val u/val v)/\InR r/\r.length=u.length/\val r=val u %val v:=by
 have e0:=c9z n u v g (fun(borrow2:Int)(l2:List Int)=>bif borrow2==0 then some (l2,g)else big_settle_L2 n v l2 (fun(l4:List Int)=>some (l4,isub .i64 g 1)) n 0 0 l2) (by omega) hv hg0 hg1 u 0 0 [] n hu (by decide) hg0 rfl (by simp) hn
 simp only [List.nil_append,List.drop_zero]at e0
 rw [show((0:Nat):Int)=0 from rfl]at e0
 have e1:=b6o g u v 0
 by_cases h:g*val v<=val u
 ·obtain⟨f1,f2⟩:=c5u hu hv hl hg0 h
  obtain⟨q1,q2⟩:=c7y hV h h1
  refine⟨(setD g 0 u v).1,?_,b5o g u v 0,e1,by rw [f2,q2]⟩
  unfold a9v
  rw [e0,f1,q1];rfl
 ·have e2:=c7r g u v 0 hl
  have e3:=b8j hg0 u v 0 hu hv (by decide) hg0
  have e4:=val_lt (b5o g u v 0)
  have e5:=val_nonneg (b5o g u v 0)
  have e6:=val_lt hv
  have e7:=pw_mono hl
  have e8:=pw_pos u.length
  rw [valc_eq,e1]at e2
  rw [e1]at e4
  have e9:(g-1)*val v=g*val v-val v:=by grind
  have hb:(setD g 0 u v).2=1:=by
   rcases(show 1<(setD g 0 u v).2∨(setD g 0 u v).2<=1 by omega)with h4|h4
   ·have h5:pw u.length*(-(setD g 0 u v).2)<=pw u.length*(-2):=Int.mul_le_mul_of_nonneg_left (by omega) (by omega)
    omega
   ·rcases(show 0<(setD g 0 u v).2∨(setD g 0 u v).2<=0 by omega)with h5|h5
    ·omega
    ·have:(setD g 0 u v).2=0:=by omega
     rw [this]at e2
     simp only [Int.neg_zero,Int.mul_zero]at e2
     omega
  rw [hb]at e2
  have e10:=c9j n v (setD g 0 u v).1 (fun(l4:List Int)=>some (l4,isub .i64 g 1)) (by rw [e1];omega) hv (setD g 0 u v).1 0 0 [] n (b5o g u v 0) (by decide) (by decide) rfl (by simp) (by rw [e1];exact hn)
  simp only [List.nil_append,List.drop_zero]at e10
  rw [show((0:Nat):Int)=0 from rfl]at e10
  have a1:=addD_len (setD g 0 u v).1 v 0
  have a2:=addD_val (setD g 0 u v).1 v 0 (by rw [e1];exact hl)
  have a3:=addD_carry (setD g 0 u v).1 v 0 (b5o g u v 0) hv (by decide) (by decide)
  have a4:=addD_in (setD g 0 u v).1 v 0
  have a5:=val_lt a4
  have a6:=val_nonneg a4
  rw [valc_eq,a1,e1]at a2
  rw [a1,e1]at a5
  obtain⟨q1,q2⟩:=c7y (q:=g-1) hV h2 (by rw [show g-1+1=g by omega];omega)
  have hc:(addD 0 (setD g 0 u v).1 v).2=1:=by
   rcases(show 0<(addD 0 (setD g 0 u v).1 v).2∨(addD 0 (setD g 0 u v).1 v).2<=0 by omega)with h5|h5
   ·omega
   ·have:(addD 0 (setD g 0 u v).1 v).2=0:=by omega
    rw [this]at a2
    omega
  rw [hc]at a2
  refine⟨(addD 0 (setD g 0 u v).1 v).1,?_,a4,by rw [a1,e1],by rw [q2];omega⟩
  unfold a9v
  have hb':((setD g 0 u v).2==0)=false:=by rw [hb];rfl
  rw [e0,hb']
  simp only [cond_false]
  rw [e10,a1c (by omega) (by omega),q1]
theorem e3v(n:Nat)(b:List Int)(i:Nat)(x:Int)(kont:Int->List Int->Option (List Int))(hlb:b.length<1073741824)(hi:i<1073741824)(hx0:0<=x)(hx1:x<1048576):∀(ys ws:List Int)(k:Nat)(c:Int)(pre rest:List Int)(m:Nat),b.drop k=ys->InR ys->InR ws->ws.length=ys.length->0<=c->c<1048576->pre.length=i+k->ys.length<m->
 big_mul_L2 n b (i:Int) x kont m c (k:Int) (pre++(ws++rest))=kont (mulD x c ys ws).2 (pre++((mulD x c ys ws).1++rest))
 | [],ws,k,c,pre,rest,m+1,hd,_,_,hw,_,_,_,_=>by
  rw [big_mul_L2_s]
  have:=drop_nil hd
  have e1:decide ((k:Int)<(b.length:Int))=false:=by simp;omega
  have:ws= []:=List.eq_nil_of_length_eq_zero (by simpa using hw)
  subst this
  rw [e1];simp [mulD]
 |y::ys,[],k,c,pre,rest,m+1,_,_,_,hw,_,_,_,_=>by simp at hw
 |y::ys,w::ws,k,c,pre,rest,m+1,hd,hy,hws,hw,h0,h1,hp,hm=>by
  rw [big_mul_L2_s]
  obtain⟨f1,f2,f3⟩:=drop_cons hd
  simp only [List.length_cons]at hw hm
  have e4:decide ((k:Int)<(b.length:Int))=true:=by simp;omega
  have hw0:=hws.head
  have hy0:=hy.head
  have hmul:=c3g hx0 hx1 hy0.1 hy0.2
  have e5:iadd .i64 (i:Int) (k:Int)=(pre.length:Int):=by rw [a1s (by omega) (by omega)];omega
  rw [e4,f1,e5,List.cons_append,a5s pre w _ rfl]
  simp only [cond_true,Option.bind_some]
  rw [a6w (by omega) (by omega),a1s (x:=w) (by omega) (by omega),a1s (by omega) (by omega),b5w,a9c pre w _ _ rfl,c4d,inc64 (by omega)]
  simp only [Option.bind_some]
  have ih:=e3v n b i x kont hlb hi hx0 hx1 ys ws (k+1) ((w+x*y+c)/1048576) (pre++ [(w+x*y+c) %1048576]) rest m f2 hy.tail hws.tail (by omega) (by omega) (by omega) (by simp;omega) (by omega)
  rw [List.append_assoc,List.singleton_append]at ih
  rw [ih]
  simp only [mulD,List.headD_cons,List.tail_cons,List.append_assoc,List.nil_append,List.cons_append]
 |_,_,_,_,_,_,0,_,_,_,_,_,_,_,h=>by omega
theorem e3a(n:Nat)(a b:List Int)(kont:List Int->Option (List Int))(hla:a.length<1073741824)(hlb:b.length<1073741824)(hb:InR b)(hn:b.length<n):∀(us:List Int)(w:List Int)(i:Nat)(pre:List Int)(m:Nat),a.drop i=us->InR us->InR w->w.length=b.length->pre.length=i->us.length<m->
 big_mul_L1 n a b kont m (i:Int) (pre++(w++List.replicate us.length 0))=kont (pre++mulF b us w)
 | [],w,i,pre,m+1,hd,_,_,_,_,_=>by
  rw [big_mul_L1_s]
  have:=drop_nil hd
  have e1:decide ((i:Int)<(a.length:Int))=false:=by simp;omega
  rw [e1];simp [mulF]
 |x::xs,w,i,pre,m+1,hd,hx,hw,hwl,hp,hm=>by
  rw [big_mul_L1_s]
  obtain⟨f1,f2,f3⟩:=drop_cons hd
  simp only [List.length_cons]at hm
  have e4:decide ((i:Int)<(a.length:Int))=true:=by simp;omega
  have hx0:=hx.head
  rw [e4,f1]
  simp only [cond_true,Option.bind_some,List.length_cons,List.replicate_succ]
  have h2:=e3v n b i x (fun(carry2:Int)(l5:List Int)=>
   (ix l5 (iadd .i64 (i:Int) (b.length:Int))).bind fun ex2=>
   (ix l5 (iadd .i64 (i:Int) (b.length:Int))).bind fun _=>
   (lset l5 (iadd .i64 (i:Int) (b.length:Int)) (iadd .i64 ex2 carry2)).bind fun l6=>
   big_mul_L1 n a b kont m (iadd .i64 (i:Int) 1) l6) hlb (by omega) hx0.1 hx0.2 b w 0 0 pre (0::List.replicate xs.length 0) n rfl hb hw hwl (by decide) (by decide) (by omega) hn
  rw [show((0:Nat):Int)=0 from rfl]at h2
  rw [h2]
  have hc:=c0i hx0.1 hx0.2 b w 0 hb hw (by decide) (by decide)
  have hlen:=c2g x b w 0
  have e5:iadd .i64 (i:Int) (b.length:Int)=(((pre++(mulD x 0 b w).1).length:Nat):Int):=by
   rw [a1s (by omega) (by omega),List.length_append,hlen];omega
  rw [e5,<-List.append_assoc,a5s _ 0 _ rfl]
  simp only [Option.bind_some]
  rw [a9c _ 0 _ _ rfl,a1s (by omega) (by omega),inc64 (by omega)]
  simp only [Option.bind_some,Int.zero_add]
  have hne:(mulD x 0 b w).1++ [(mulD x 0 b w).2]≠ []:=by simp
  obtain⟨h,t,ht⟩:=List.exists_cons_of_ne_nil hne
  have e6:pre++(mulD x 0 b w).1++(mulD x 0 b w).2::List.replicate xs.length 0=(pre++ [h])++(t++List.replicate xs.length 0):=by
   rw [List.append_assoc,List.append_assoc,<-List.singleton_append (x:=(mulD x 0 b w).2),<-List.append_assoc (mulD x 0 b w).1,ht]
   simp
  have hin:InR ((mulD x 0 b w).1++ [(mulD x 0 b w).2]):=(d0m x b w 0).append (InR.cons hc.1 hc.2 InR.nil)
  rw [ht]at hin
  have htl:t.length=b.length:=by
   have:=congrArg List.length ht
   simp [hlen]at this
   omega
  have ih:=e3a n a b kont hla hlb hb hn xs t (i+1) (pre++ [h]) m f2 hx.tail hin.tail htl (by simp;omega) (by omega)
  rw [e6,ih]
  simp only [mulF,ht,List.headD_cons,List.tail_cons,List.append_assoc,List.singleton_append]
 |_,_,_,_,0,_,_,_,_,_,h=>by omega
theorem d8p{a b:List Int}(ha:InR a)(hb:InR b)(hla:a.length<536870912)(hlb:b.length<536870912):Ev (fun n=>b0n n a b) (dig (val a*val b).toNat):=by
 unfold b0n
 refine Ev.step (by rw [a1s (by omega) (by omega),show(a.length:Int)+(b.length:Int)=((a.length+b.length:Nat):Int) by omega];exact c3y (by omega)) ?_
 refine⟨a.length+b.length+1,fun n hn=> ?_⟩
 have h1:=e3a n a b (fun(l3:List Int)=>(a2s n l3).bind fun v1=>some v1) (by omega) (by omega) hb (by omega) a (List.replicate b.length 0) 0 [] n rfl ha (InR.rep _) (by simp) rfl (by omega)
 simp only [List.nil_append,List.replicate_append_replicate]at h1
 rw [show((0:Nat):Int)=0 from rfl,Nat.add_comm]at h1
 dsimp only
 rw [h1,c3h (d0g hb _ _ ha (InR.rep _)) (by rw [c2c b a _ (by simp)];omega) (by rw [c2c b a _ (by simp)];omega)]
 simp only [Option.bind_some]
 rw [c7o b a _ (by simp),val_rep,Int.zero_add]
theorem d7e(n:Nat)(a:List Int)(d:Int)(kont:Int->List Int->Option (List Int×Int))(ha:InR a)(hla:a.length<1073741824)(hd:0<d)(hd1:d<=1048576):∀(k:Nat)(m:Nat),k<=a.length->k<m->
 big_short_L1 n a d kont m (a5x d (a.drop k) 0).2 ((k:Int)-1) (List.replicate k 0++(a5x d (a.drop k) 0).1)=kont (a5x d a 0).2 (a5x d a 0).1
 |0,m+1,_,_=>by
  rw [big_short_L1_s]
  have e1:decide ((0:Int)<=((0:Nat):Int)-1)=false:=by decide
  rw [e1];simp
 |k+1,m+1,hk,hm=>by
  rw [big_short_L1_s]
  have hk':k<a.length:=by omega
  have hdrop:a.drop k=a[k]::a.drop (k+1):=List.drop_eq_getElem_cons hk'
  have hx:=ha a[k] (List.getElem_mem hk')
  have e0:((k+1:Nat):Int)-1=(k:Int):=by omega
  have e1:decide ((0:Int)<=(k:Int))=true:=by simp
  have e2:ix a (k:Int)=some a[k]:=(drop_cons hdrop).1
  have hr:=b8u hd (a.drop (k+1)) 0 (by decide) hd
  rw [e0,e1,e2,c3q (by omega) (by omega)]
  simp only [cond_true,Option.bind_some]
  have e3:0<=(a5x d (a.drop (k+1)) 0).2*1048576+a[k]:=by omega
  rw [c3j hr.1 (by omega) hx.1 hx.2,c2h e3 (by omega) hd,c3k e3 hd,List.replicate_succ',List.append_assoc,List.singleton_append,a5s _ 0 _ (by simp)]
  simp only [Option.bind_some]
  rw [a9c _ 0 _ _ (by simp)]
  simp only [Option.bind_some]
  have e4:isub .i64 (k:Int) 1=(k:Int)-1:=a1c (by omega) (by omega)
  have ih:=d7e n a d kont ha hla hd hd1 k m (by omega) (by omega)
  rw [hdrop]at ih
  simp only [a5x]at ih
  rw [e4,ih]
 |_,0,_,h=>by omega
theorem d8r{a:List Int}{d:Int}(ha:InR a)(hla:a.length<1073741824)(hd:0<d)(hd1:d<=1048576){n:Nat}(hn:a.length<n):a8b n a d=some (dig (val a/d).toNat,val a %d):=by
 unfold a8b
 rw [c3y (by omega),Option.bind_some]
 have h1:=d7e n a d (fun(rx2:Int)(l3:List Int)=>(a2s n l3).bind fun v1=>some (v1,rx2)) ha hla hd hd1 a.length n (by omega) (by omega)
 simp only [List.drop_length,a5x,List.append_nil]at h1
 rw [a1c (by omega) (by omega),h1,c3h (c6g hd a 0 ha (by decide) hd) (by rw [b8o];omega) (by rw [b8o];omega)]
 simp only [Option.bind_some]
 have h2:=c3c (V:=d) a 0
 have h3:=b8u hd a 0 (by decide) hd
 rw [valc_eq,Int.mul_zero,Int.add_zero]at h2
 have h4:((val (a5x d a 0).1)+1)*d=val (a5x d a 0).1*d+d:=by grind
 obtain⟨q1,q2⟩:=c7y (U:=val a) (q:=val (a5x d a 0).1) hd (by omega) (by omega)
 rw [q1,show(a5x d a 0).2=val a %d by omega]
theorem e1p{a:List Int}{d:Int}(ha:InR a)(hla:a.length<1073741824)(hd:0<d)(hd1:d<=1048576):Ev (fun n=>a8b n a d) (dig (val a/d).toNat,val a %d):=
 ⟨a.length+1,fun _ hn=>d8r ha hla hd hd1 hn⟩
theorem b8b(n:Nat)(x y:Int):a4t n x y=some (sg (x-y)):=by
 unfold a4t a9g
 simp only [Option.bind_some,bne_self_eq_false,cond_false]
 unfold sg
 by_cases h:x<y
 ·simp only [h,decide_true,cond_true];rw [if_pos (by omega)]
 ·by_cases h2:y<x
  ·simp only [h,h2,decide_true,decide_false,cond_true,cond_false];rw [if_neg (by omega),if_pos (by omega)]
  ·simp only [h,h2,decide_false,cond_false];rw [if_neg (by omega),if_neg (by omega)]
theorem c9w(n:Nat)(a b:List Int)(hl:a.length=b.length)(hla:a.length<1099511627776):∀(k:Nat)(m:Nat),k<=a.length->k<m->cmpD (a.drop k) (b.drop k)=0->big_compare_L1 n a b (some 0) m ((k:Int)-1)=some (cmpD a b)
 |0,m+1,_,_,h=>by
  rw [big_compare_L1_s]
  have e1:decide ((0:Int)<=((0:Nat):Int)-1)=false:=by decide
  rw [e1]
  simp only [List.drop_zero]at h
  rw [h];rfl
 |k+1,m+1,hk,hm,h=>by
  rw [big_compare_L1_s]
  have hk':k<a.length:=by omega
  have hkb:k<b.length:=by omega
  have hda:a.drop k=a[k]::a.drop (k+1):=List.drop_eq_getElem_cons hk'
  have hdb:b.drop k=b[k]::b.drop (k+1):=List.drop_eq_getElem_cons hkb
  have e0:((k+1:Nat):Int)-1=(k:Int):=by omega
  have e1:decide ((0:Int)<=(k:Int))=true:=by simp
  rw [e0,e1,(drop_cons hda).1,(drop_cons hdb).1]
  simp only [cond_true,Option.bind_some,b8b]
  have e2:cmpD (a.drop k) (b.drop k)=sg (a[k]-b[k]):=by rw [hda,hdb];simp only [cmpD,h,if_true]
  by_cases hne:a[k]=b[k]
  ·have e3:(a[k] !=b[k])=false:=by simp [hne]
   rw [e3]
   simp only [cond_false]
   rw [a1c (by omega) (by omega)]
   refine c9w n a b hl hla k m (by omega) (by omega) ?_
   rw [e2,hne];simp [sg]
  ·have e3:(a[k] !=b[k])=true:=by simpa using hne
   rw [e3]
   simp only [cond_true]
   have e4:sg (a[k]-b[k])≠0:=by unfold sg;split<;>(try split)<;>omega
   rw [cmpD_drop k a b (by rw [e2];exact e4),e2]
 |_,0,_,h,_=>by omega
theorem c9y{a b:List Int}(ha:Canon a)(hb:Canon b)(hla:a.length<1099511627776){n:Nat}(hn:a.length<n):a6j n a b=some (sg (val a-val b)):=by
 unfold a6j
 by_cases hl:a.length=b.length
 ·have e1:((a.length:Int) !=(b.length:Int))=false:=by rw [hl];simp
  rw [e1]
  simp only [cond_false]
  have h:=c9w n a b hl hla a.length n (Nat.le_refl _) hn (by rw [List.drop_length];rfl)
  rw [a1c (by omega) (by omega),h,cmpD_val ha.1 hb.1 hl]
 ·have e1:((a.length:Int) !=(b.length:Int))=true:=by simp;omega
  rw [e1]
  simp only [cond_true,b8b,Option.bind_some]
  congr 1
  unfold sg
  rcases Nat.lt_or_ge a.length b.length with h|h
  ·have:=val_lt_of_len ha.1 hb h
   rw [if_pos (by omega),if_pos (by omega)]
  ·have:=val_lt_of_len hb.1 ha (by omega)
   rw [if_neg (by omega),if_pos (by omega),if_neg (by omega),if_pos (by omega)]
end Go.Proofs.YthaegflpecbfgaaGreatDoor.D
namespace Go.Proofs.YthaegflpecbfgaaGreatDoor.D
open Go Rt M
theorem f0c(n:Nat)(v u:List Int)(k:Nat){vl ul lo zs:List Int}{v1 v2 t1 t0 u2:Int}(hv:v=vl++ [v2,v1])(hu:u=lo++(ul++ [u2,t0,t1])++zs)(hlo:lo.length=k)(hul:ul.length=vl.length)
 (hlv:v.length<1073741824) (hlu:u.length<1073741824) (hvi:InR v) (hui:InR (ul++ [u2,t0,t1])) (hv1:1<=v1) (hlt:val (ul++ [u2,t0,t1])<1048576*val v):
 ∀(N:Nat)(g rest:Int),g.toNat=N->0<=g->0<=rest->g*v1+rest=t1*1048576+t0->val (ul++ [u2,t0,t1])<(g+1)*val v->
  ∃g',0<=g'/\g'<=1048576/\val (ul++ [u2,t0,t1])<(g'+1)*val v/\(g'-1)*val v<=val (ul++ [u2,t0,t1])/\∀(kont:Int->Option (List Int×List Int))m,N<m->big_div_L3 n v (k:Int) u kont m g rest=kont g':=by
 have hv2:0<=v2/\v2<1048576:=hvi v2 (by rw [hv];simp)
 have hv1':0<=v1/\v1<1048576:=hvi v1 (by rw [hv];simp)
 have ht1:0<=t1/\t1<1048576:=hui t1 (by simp)
 have ht0:0<=t0/\t0<1048576:=hui t0 (by simp)
 have hu2:0<=u2/\u2<1048576:=hui u2 (by simp)
 have hvl:InR vl:=fun e he=>hvi e (by rw [hv];simp [he])
 have hull:InR ul:=fun e he=>hui e (by simp [he])
 have eV:val v=val vl+pw vl.length*(v2+1048576*v1):=by rw [hv,val_append];simp [val]
 have eU:val (ul++ [u2,t0,t1])=val ul+pw vl.length*(u2+1048576*(t1*1048576+t0)):=by
  rw [val_append,hul]
  simp only [val]
  have:t0+1048576*(t1+1048576*0)=t1*1048576+t0:=by omega
  rw [this]
 have hP:=pw_pos vl.length
 have hvlP:=val_lt hvl
 have hulP:=val_lt hull
 rw [hul]at hulP
 have hvl0:=val_nonneg hvl
 have hul0:=val_nonneg hull
 have hlen:v.length=vl.length+2:=by rw [hv];simp
 have hlenu:u.length=k+vl.length+3+zs.length:=by rw [hu];simp [hlo,hul];omega
 have i1:isub .i64 (v.length:Int) 2=((vl.length:Nat):Int):=by rw [a1c (by omega) (by omega)];omega
 have i2:isub .i64 (v.length:Int) 1=((vl.length+1:Nat):Int):=by rw [a1c (by omega) (by omega)];omega
 have i3:isub .i64 (iadd .i64 (k:Int) (v.length:Int)) 2=((k+vl.length:Nat):Int):=by rw [a1s (by omega) (by omega),a1c (by omega) (by omega)];omega
 have r1:ix v ((vl.length:Nat):Int)=some v2:=by rw [hv];exact a5s vl v2 [v1] rfl
 have r2:ix v ((vl.length+1:Nat):Int)=some v1:=by
  rw [hv,show vl++ [v2,v1]=(vl++ [v2])++ [v1] by simp];exact a5s (vl++ [v2]) v1 [] (by simp)
 have r3:ix u ((k+vl.length:Nat):Int)=some u2:=by
  rw [hu,show lo++(ul++ [u2,t0,t1])++zs=(lo++ul)++u2::([t0,t1]++zs) by simp]
  exact a5s (lo++ul) u2 _ (by simp [hlo,hul])
 intro N
 induction N with
 |zero=>
  intro g rest hg h0 hr hT hq
  have hg0:g=0:=by omega
  subst hg0
  refine⟨0,by decide,by decide,hq,?_,fun kont m hm=> ?_⟩
  ·have:0<=val v:=val_nonneg hvi
   have:=val_nonneg hui
   omega
  ·obtain⟨m,rfl⟩:∃m',m=m'+1:=⟨m-1,by omega⟩
   rw [big_div_L3_s]
   have e1:decide ((1048576:Int)<=0)=false:=by decide
   rw [e1]
   simp only [cond_false]
   by_cases hr2:rest<1048576
   ·have e2:decide (rest<1048576)=true:=by simpa using hr2
    rw [e2,i1,r1,i3,r3,c3q (by omega) (by omega)]
    simp only [cond_true,Option.bind_some]
    rw [c3j hr (by omega) hu2.1 hu2.2,a6w (by omega) (by omega)]
    have e3:decide (rest*1048576+u2<0*v2)=false:=by simp;omega
    rw [e3];rfl
   ·have e2:decide (rest<1048576)=false:=by simpa using hr2
    rw [e2];rfl
 |succ N ih=>
  intro g rest hg h0 hr hT hq
  by_cases hbig:1048576<=g∨(rest<1048576/\rest*1048576+u2<g*v2)
  ·have hq':val (ul++ [u2,t0,t1])<(g-1+1)*val v:=by
    rw [show g-1+1=g by omega]
    rcases hbig with h|⟨h1,h2⟩
    ·have:1048576*val v<=g*val v:=Int.mul_le_mul_of_nonneg_right h (val_nonneg hvi)
     omega
    ·rw [eU,eV]
     exact d4r rfl hT hvl0 hulP h0 h2 hP
   have hT':(g-1)*v1+(rest+v1)=t1*1048576+t0:=by rw [<-hT];grind
   obtain⟨g',a1,a2,a3,a4,a5⟩:=ih (g-1) (rest+v1) (by omega) (by omega) (by omega) hT' hq'
   have hgv:0<=g*v1:=Int.mul_nonneg h0 (by omega)
   have hgle:g*1<=g*v1:=Int.mul_le_mul_of_nonneg_left hv1 h0
   refine⟨g',a1,a2,a3,a4,fun kont m hm=> ?_⟩
   obtain⟨m,rfl⟩:∃m',m=m'+1:=⟨m-1,by omega⟩
   rw [big_div_L3_s]
   have hflag:((bif decide ((1048576:Int)<=g)then some true else(bif decide (rest<1048576)then(ix v (isub .i64 (v.length:Int) 2)).bind fun ex8=>(shl .i64 rest 20).bind fun q4=>(ix u (isub .i64 (iadd .i64 (k:Int) (v.length:Int)) 2)).bind fun ex9=>some (decide ((ior .i64 q4 ex9)<(imul .i64 g ex8)))else some false).bind fun v12=>some v12):Option Bool)=some true:=by
    by_cases hgB:1048576<=g
    ·rw [show decide ((1048576:Int)<=g)=true by simpa using hgB];rfl
    ·rcases hbig with h|⟨h1,h2⟩
     ·exact absurd h hgB
     ·have hm1:=b8h (g:=g) h0 hv2.1 hv2.2
      rw [show decide ((1048576:Int)<=g)=false by simpa using hgB,show decide (rest<1048576)=true by simpa using h1,i1,r1,i3,r3,c3q (by omega) (by omega)]
      simp only [cond_true,cond_false,Option.bind_some]
      rw [c3j hr (by omega) hu2.1 hu2.2,a6w (by omega) (by omega),show decide (rest*1048576+u2<g*v2)=true by simpa using h2]
   rw [hflag]
   simp only [Option.bind_some,cond_true]
   rw [i2,r2]
   simp only [Option.bind_some]
   rw [a1c (by omega) (by omega),a1s (by omega) (by omega)]
   exact a5 kont m (by omega)
  ·have hgB:g<1048576:=by omega
   have hsm:g*v2<=rest*1048576+u2:=by
    by_cases h1:rest<1048576
    ·omega
    ·have hm1:=b8h (g:=g) h0 hv2.1 hv2.2
     omega
   refine⟨g,h0,by omega,hq,?_,fun kont m hm=> ?_⟩
   ·rw [eU,eV]
    exact e0e rfl hT hvl0 (by omega) hul0 (by omega) hsm hP hv1 hv2.1
   ·obtain⟨m,rfl⟩:∃m',m=m'+1:=⟨m-1,by omega⟩
    rw [big_div_L3_s]
    have hflag:((bif decide ((1048576:Int)<=g)then some true else(bif decide (rest<1048576)then(ix v (isub .i64 (v.length:Int) 2)).bind fun ex8=>(shl .i64 rest 20).bind fun q4=>(ix u (isub .i64 (iadd .i64 (k:Int) (v.length:Int)) 2)).bind fun ex9=>some (decide ((ior .i64 q4 ex9)<(imul .i64 g ex8)))else some false).bind fun v12=>some v12):Option Bool)=some false:=by
     rw [show decide ((1048576:Int)<=g)=false by simp;omega]
     by_cases h1:rest<1048576
     ·have hm1:=b8h (g:=g) h0 hv2.1 hv2.2
      rw [show decide (rest<1048576)=true by simpa using h1,i1,r1,i3,r3,c3q (by omega) (by omega)]
      simp only [cond_true,cond_false,Option.bind_some]
      rw [c3j hr (by omega) hu2.1 hu2.2,a6w (by omega) (by omega),show decide (rest*1048576+u2<g*v2)=false by simp;omega]
     ·rw [show decide (rest<1048576)=false by simpa using h1];rfl
    rw [hflag];rfl
theorem f1h{l:List Int}(h:3<=l.length):∃ul a b c,l=ul++ [a,b,c]:=by
 refine⟨l.take (l.length-3),l[l.length-3],l[l.length-2],l[l.length-1],?_⟩
 have h1:l.drop (l.length-3)= [l[l.length-3],l[l.length-2],l[l.length-1]]:=by
  rw [List.drop_eq_getElem_cons (by omega),List.drop_eq_getElem_cons (by omega),List.drop_eq_getElem_cons (by omega),List.drop_eq_nil_of_le (by omega)]
  simp only [show l.length-3+1=l.length-2 by omega,show l.length-2+1=l.length-1 by omega]
 rw [<-h1,List.take_append_drop]
theorem f1k{l:List Int}(h:2<=l.length):∃ul a b,l=ul++ [a,b]:=by
 refine⟨l.take (l.length-2),l[l.length-2],l[l.length-1],?_⟩
 have h1:l.drop (l.length-2)= [l[l.length-2],l[l.length-1]]:=by
  rw [List.drop_eq_getElem_cons (by omega),List.drop_eq_getElem_cons (by omega),List.drop_eq_nil_of_le (by omega)]
  simp only [show l.length-2+1=l.length-1 by omega]
 rw [<-h1,List.take_append_drop]
theorem e2m{l:List Int}(h:1<=l.length):∃ul a,l=ul++ [a]:=
 ⟨l.take (l.length-1),l[l.length-1],by
  have h1:l.drop (l.length-1)= [l[l.length-1]]:=by
   rw [List.drop_eq_getElem_cons (by omega),List.drop_eq_nil_of_le (by omega)]
  rw [<-h1,List.take_append_drop]⟩
theorem d1x{P Ul u2 T V1 V2 Vl g:Int}(hP:0<P)(hU:Ul<P)(hu:u2<1048576)(hV:0<=Vl)(h2:0<=V2)(hg:T<(g+1)*V1)(hg0:0<=g):
 Ul+P*(u2+1048576*T)<(g+1)*(Vl+P*(V2+1048576*V1)):=by
 have e1:P*u2<=P*1048575:=Int.mul_le_mul_of_nonneg_left (by omega) (by omega)
 have e2:P*(T+1)<=P*((g+1)*V1):=Int.mul_le_mul_of_nonneg_left (by omega) (by omega)
 have e3:0<=(g+1)*Vl:=Int.mul_nonneg (by omega) hV
 have e4:0<=(g+1)*(P*V2):=Int.mul_nonneg (by omega) (Int.mul_nonneg (by omega) h2)
 have e5:(g+1)*(Vl+P*(V2+1048576*V1))=(g+1)*Vl+(g+1)*(P*V2)+1048576*(P*((g+1)*V1)):=by grind
 have e6:Ul+P*(u2+1048576*T)=Ul+P*u2+1048576*(P*(T+1))-1048576*P:=by grind
 omega
theorem e4k(n:Nat)(v:List Int)(kont:List Int->List Int->Option (List Int×List Int))(hv:Canon v)(hl2:2<=v.length)(hlv:v.length<268435456)(hn:4398046511104<n):
 ∀(k:Nat)(lo w zs qd:List Int)(m:Nat),lo.length=k->w.length=v.length->InR lo->InR w->InR zs->val zs=0->val w<val v->k+v.length+zs.length<1073741824->k<m->
  ∃uf,big_div_L2 n v kont m ((k:Int)-1) (List.replicate k 0++qd) (lo++(w++zs))=kont ((a5x (val v) lo (val w)).1++qd) uf/\InR uf/\uf.length=k+v.length+zs.length/\val uf=(a5x (val v) lo (val w)).2
 |0,lo,w,zs,qd,m+1,hlo,hw,hil,hiw,hiz,hz,hlt,hlen,hm=>by
  have:lo= []:=List.eq_nil_of_length_eq_zero hlo
  subst this
  refine⟨w++zs,?_,hiw.append hiz,by simp [hw],?_⟩
  ·rw [big_div_L2_s]
   have e1:decide ((0:Int)<=((0:Nat):Int)-1)=false:=by decide
   rw [e1];simp [a5x]
  ·rw [val_append,hz];simp [a5x]
 |k+1,lo,w,zs,qd,m+1,hlo,hw,hil,hiw,hiz,hz,hlt,hlen,hm=>by
  obtain⟨lo',d,rfl⟩:=e2m (l:=lo) (by omega)
  obtain⟨vl,v2,v1,hvd⟩:=f1k hl2
  obtain⟨ul,u2,t0,t1,hwin⟩:=f1h (l:=d::w) (by simp;omega)
  have hlo':lo'.length=k:=by simpa using hlo
  have hid:0<=d/\d<1048576:=hil d (by simp)
  have hiwin:InR (ul++ [u2,t0,t1]):=by rw [<-hwin];exact InR.cons hid.1 hid.2 hiw
  have hv1:1<=v1/\v1<1048576:=by
   have h1:=hv.1 v1 (by rw [hvd];simp)
   have h2:=hv.2
   rw [hvd]at h2
   have:v1≠0:=by simpa using h2
   omega
  have ht1:0<=t1/\t1<1048576:=hiwin t1 (by simp)
  have ht0:0<=t0/\t0<1048576:=hiwin t0 (by simp)
  have hu2:0<=u2/\u2<1048576:=hiwin u2 (by simp)
  have hv2:0<=v2/\v2<1048576:=hv.1 v2 (by rw [hvd];simp)
  have hvll:v.length=vl.length+2:=by rw [hvd];simp
  have hull:ul.length=vl.length:=by
   have:=congrArg List.length hwin
   simp at this;omega
  have hV:=val_nonneg hv.1
  have hU0:=val_nonneg hiwin
  have hUw:val (ul++ [u2,t0,t1])=d+1048576*val w:=by rw [<-hwin];rfl
  have hw0:=val_nonneg hiw
  have hult:val (ul++ [u2,t0,t1])<1048576*val v:=by omega
  have eV:val v=val vl+pw vl.length*(v2+1048576*v1):=by rw [hvd,val_append];simp [val]
  have eU:val (ul++ [u2,t0,t1])=val ul+pw vl.length*(u2+1048576*(t1*1048576+t0)):=by
   rw [val_append,hull]
   simp only [val]
   have:t0+1048576*(t1+1048576*0)=t1*1048576+t0:=by omega
   rw [this]
  obtain⟨T,hT⟩:∃T,T=t1*1048576+t0:=⟨_,rfl⟩
  have hT0:0<=T:=by omega
  have hT1:T<1099511627776:=by omega
  have hg0:0<=T/v1:=Int.ediv_nonneg hT0 (by omega)
  have hgT:T/v1<=T:=Int.ediv_le_self v1 hT0
  have hr0:0<=T %v1:=Int.emod_nonneg _ (by omega)
  have hr1:T %v1<v1:=Int.emod_lt_of_pos _ (by omega)
  have hsum:T/v1*v1+T %v1=T:=by have:=Int.mul_ediv_add_emod T v1;rw [Int.mul_comm]at this;exact this
  have hq0:val (ul++ [u2,t0,t1])<(T/v1+1)*val v:=by
   rw [eU,eV,<-hT]
   have h1:=val_lt (l:=ul) (fun e he=>hiwin e (by simp [he]))
   rw [hull]at h1
   refine d1x (pw_pos _) h1 hu2.2 (val_nonneg (fun e he=>hv.1 e (by rw [hvd];simp [he]))) hv2.1 ?_ hg0
   rw [Int.add_mul,Int.one_mul];omega
  obtain⟨u,hu⟩:∃u,u=lo'++(ul++ [u2,t0,t1])++zs:=⟨_,rfl⟩
  have hu':lo'++ [d]++(w++zs)=u:=by rw [hu,<-hwin];simp
  have hulen:u.length=k+v.length+1+zs.length:=by rw [<-hu'];simp [hlo',hw];omega
  obtain⟨g',a1,a2,a3,a4,a5⟩:=f0c n v u k hvd hu hlo' hull (by omega) (by omega) hv.1 hiwin hv1.1 hult (T/v1).toNat (T/v1) (T %v1) rfl hg0 hr0 (by rw [hsum,hT]) hq0
  obtain⟨r,s1,s2,s3,s4⟩:=e1l (n:=n) hiwin hv.1 (by simp;omega) (by simp;omega) a1 a2 (by omega) a3 a4 (by simp;omega)
  have hVpos:0<val v:=by omega
  have hrlt:val r<val v:=by rw [s4];exact Int.emod_lt_of_pos _ hVpos
  obtain⟨w'',z,hrw⟩:=e2m (l:=r) (by rw [s3];simp)
  have hw''l:w''.length=v.length:=by
   have:=congrArg List.length hrw
   rw [s3]at this
   simp at this;omega
  have hz0:z=0:=by
   have h1:=val_lt hv.1
   have h2:0<=z/\z<1048576:=s2 z (by rw [hrw];simp)
   have h3:=val_nonneg (l:=w'') (fun e he=>s2 e (by rw [hrw];simp [he]))
   rw [hrw,val_append,hw''l]at hrlt
   simp only [val,Int.mul_zero,Int.add_zero]at hrlt
   rcases(show z=0∨1<=z by omega)with h4|h4
   ·exact h4
   ·have h5:pw v.length*1<=pw v.length*z:=Int.mul_le_mul_of_nonneg_left h4 (by have:=pw_pos v.length;omega)
    omega
  subst hz0
  have hrval:val r=val w'':=by rw [hrw,val_append];simp [val]
  have hiw'':InR w'':=fun e he=>s2 e (by rw [hrw];simp [he])
  have hqi:InR [val (ul++ [u2,t0,t1])/val v]:=InR.cons (Int.ediv_nonneg hU0 (by omega)) (Int.ediv_lt_of_lt_mul hVpos (by omega)) InR.nil
  obtain⟨uf,b1,b2,b3,b4⟩:=e4k n v kont hv hl2 hlv hn k lo' w'' (0::zs) (val (ul++ [u2,t0,t1])/val v::qd) m hlo' hw''l (fun e he=>hil e (by simp [he])) hiw'' (InR.cons (by decide) (by decide) hiz) (by simp [val,hz]) (by omega) (by simp;omega) (by omega)
  refine⟨uf,?_,b2,by rw [b3];simp;omega,?_⟩
  ·rw [big_div_L2_s,hu']
   have e0:((k+1:Nat):Int)-1=(k:Int):=by omega
   have e1:decide ((0:Int)<=(k:Int))=true:=by simp
   have i1:iadd .i64 (k:Int) (v.length:Int)=((k+v.length:Nat):Int):=by rw [a1s (by omega) (by omega)];omega
   have i2:isub .i64 ((k+v.length:Nat):Int) 1=((k+vl.length+1:Nat):Int):=by rw [a1c (by omega) (by omega)];omega
   have i3:isub .i64 (v.length:Int) 1=((vl.length+1:Nat):Int):=by rw [a1c (by omega) (by omega)];omega
   have r1:ix u ((k+v.length:Nat):Int)=some t1:=by
    rw [hu,show lo'++(ul++ [u2,t0,t1])++zs=(lo'++(ul++ [u2,t0]))++t1::zs by simp]
    exact a5s _ t1 _ (by simp [hlo',hull];omega)
   have r2:ix u ((k+vl.length+1:Nat):Int)=some t0:=by
    rw [hu,show lo'++(ul++ [u2,t0,t1])++zs=(lo'++(ul++ [u2]))++t0::(t1::zs) by simp]
    exact a5s _ t0 _ (by simp [hlo',hull];omega)
   have r3:ix v ((vl.length+1:Nat):Int)=some v1:=by
    rw [hvd,show vl++ [v2,v1]=(vl++ [v2])++ [v1] by simp];exact a5s (vl++ [v2]) v1 [] (by simp)
   rw [e0,e1,i1,r1,cond_true,Option.bind_some,c3q (by omega) (by omega),Option.bind_some,i2,r2,Option.bind_some,i3,r3,Option.bind_some,c3j ht1.1 (by omega) ht0.1 ht0.2,<-hT,c2h hT0 (by omega) (by omega),Option.bind_some,Option.bind_some,c3k hT0 (by omega),Option.bind_some]
   rw [a5 _ n (by omega)]
   have i4:iadd .i64 ((k+v.length:Nat):Int) 1=((k+v.length+1:Nat):Int):=inc64 (by omega)
   have r4:lsl u (k:Int) ((k+v.length+1:Nat):Int)=some (ul++ [u2,t0,t1]):=by
    rw [d3g (by omega) (by omega),hu]
    congr 1
    rw [List.take_append_of_le_length (by simp [hlo',hull];omega),List.take_of_length_le (by simp [hlo',hull];omega),<-hlo',List.drop_left]
   rw [i4,r4,Option.bind_some,s1,Option.bind_some,List.replicate_succ',List.append_assoc,List.singleton_append,a5s _ 0 _ (by simp),Option.bind_some,a9c _ 0 _ _ (by simp),Option.bind_some,a1c (by omega) (by omega)]
   have r5:lput u (k:Int) r ((k+v.length+1:Nat):Int)=lo'++(w''++0::zs):=by
    have hX:(lo'++(ul++ [u2,t0,t1])).length=k+v.length+1:=by simp [hlo',hull];omega
    have d1:u.drop (k+v.length+1)=zs:=by rw [hu,<-hX];exact List.drop_left
    have d2:u.take k=lo':=by rw [hu,List.append_assoc,<-hlo'];exact List.take_left
    unfold lput
    rw [Int.toNat_natCast,Int.toNat_natCast,d1,d2,hrw]
    simp
   rw [r5,b1]
   congr 1
   rw [b4u]
   simp only [a5x]
   have e2:val w*1048576+d=val (ul++ [u2,t0,t1]):=by omega
   rw [e2,<-s4,hrval]
   simp
  ·rw [b4,b4u]
   simp only [a5x]
   have e2:val w*1048576+d=val (ul++ [u2,t0,t1]):=by omega
   rw [e2,<-s4,hrval]
 |_,_,_,_,_,0,_,_,_,_,_,_,_,_,h=>by omega
theorem e8u(b:List Int)(hl:1<=b.length)(hlb:b.length<1073741824){top:Int}(htop:ix b ((b.length-1:Nat):Int)=some top)(h1:1<=top)(h2:top<1048576):
 ∀(N j:Nat),j+N=19->∃s':Int,1<=s'/\s'<=524288/\∀(n:Nat)(kont:Int->Option (List Int×List Int))m,N<m->big_div_L1 n b kont m ((2^j:Nat):Int)=kont s':=by
 have i1:isub .i64 (b.length:Int) 1=((b.length-1:Nat):Int):=by rw [a1c (by omega) (by omega)];omega
 have htm:∀s:Int,1<=s->s<=524288->0<=top*s/\top*s<=549755813888:=fun s a1 a2=>
  ⟨Int.mul_nonneg (by omega) (by omega),by have:=Int.mul_le_mul (show top<=1048576 by omega) a2 (by omega) (by omega);omega⟩
 have hpow:∀j:Nat,j<=19->1<=((2^j:Nat):Int)/\((2^j:Nat):Int)<=524288:=fun j hj=>by
  have h1:=Nat.pow_le_pow_right (n:=2) (by decide) hj
  have h2:=Nat.pow_pos (n:=j) (show 0<2 by decide)
  have h3:2^19=524288:=by decide
  omega
 intro N
 induction N with
 |zero=>
  intro j hj
  obtain rfl:j=19:=by omega
  have hp:=hpow 19 (by omega)
  refine⟨((2^19:Nat):Int),hp.1,hp.2,fun n kont m hm=> ?_⟩
  obtain⟨m,rfl⟩:∃m',m=m'+1:=⟨m-1,by omega⟩
  have:=htm _ hp.1 hp.2
  have hs:((2^19:Nat):Int)=524288:=by decide
  have e1:decide (top*((2^19:Nat):Int)<524288)=false:=by
   rw [hs,decide_eq_false_iff_not]
   omega
  rw [big_div_L1_s,i1,htop,Option.bind_some,a6w (by omega) (by omega),e1,cond_false]
 |succ N ih=>
  intro j hj
  have hp:=hpow j (by omega)
  have hp2:=hpow (j+1) (by omega)
  have hm0:=htm _ hp.1 hp.2
  have hdbl:((2^j:Nat):Int)*2=((2^(j+1):Nat):Int):=by rw [Nat.pow_succ];omega
  by_cases h:top*((2^j:Nat):Int)<524288
  ·obtain⟨s',a1,a2,a3⟩:=ih (j+1) (by omega)
   refine⟨s',a1,a2,fun n kont m hm=> ?_⟩
   obtain⟨m,rfl⟩:∃m',m=m'+1:=⟨m-1,by omega⟩
   rw [big_div_L1_s,i1,htop,Option.bind_some,a6w (by omega) (by omega),show decide (top*((2^j:Nat):Int)<524288)=true by simpa using h,cond_true,a6w (by omega) (by omega),hdbl]
   exact a3 n kont m (by omega)
  ·refine⟨_,hp.1,hp.2,fun n kont m hm=> ?_⟩
   obtain⟨m,rfl⟩:∃m',m=m'+1:=⟨m-1,by omega⟩
   rw [big_div_L1_s,i1,htop,Option.bind_some,a6w (by omega) (by omega),show decide (top*((2^j:Nat):Int)<524288)=false by rw [decide_eq_false_iff_not];exact h,cond_false]
theorem c6s{a b s:Nat}(hs:0<s):a*s/(b*s)=a/b/\a*s %(b*s)=a %b*s:=⟨Nat.mul_div_mul_right _ _ hs,Nat.mul_mod_mul_right _ _ _⟩
theorem e3i{x y:Nat}(hy:y≠0)(hlx:(dig x).length<16777216)(hly:(dig y).length<16777216):Ev (fun n=>b5d n (dig x) (dig y)) (dig (x/y),dig (x %y)):=by
 unfold b5d
 refine Ev.bind (a:=sg ((x:Int)-y)) ⟨(dig x).length+1,fun n hn=> ?_⟩ ?_
 ·have:=c9y (n:=n) (b0b x) (b0b y) (by omega) (by omega)
  rw [a1l,a1l]at this;exact this
 by_cases hlt:x<y
 ·refine Ev.then (by simp [sg];omega) ?_
  refine Ev.bind (b3n (by omega)) ?_
  rw [Nat.div_eq_of_lt hlt,Nat.mod_eq_of_lt hlt,dig_zero]
  exact Ev.pure _
 refine Ev.else (by simp [sg];split<;>(try split)<;>omega) ?_
 have hyl:1<=(dig y).length:=by
  have:=b6z hy
  cases h:dig y with
  |nil=>exact absurd h this
  |cons=>simp
 by_cases h1:(dig y).length=1
 ·refine Ev.then (by simp [h1]) ?_
  obtain⟨d,hd⟩:∃d,dig y= [d]:=List.length_eq_one_iff.1 h1
  have hdy:d=y:=by have:=a1l y;rw [hd]at this;simpa [val]using this
  have hd1:0<=d/\d<1048576:=a2b y d (by rw [hd];simp)
  refine Ev.step (a:=d) (by rw [hd];rfl) ?_
  refine Ev.bind (e1p (a2b x) (by omega) (by omega) (by omega)) ?_
  have hm:0<=(x:Int) %y/\(x:Int) %y<1048576:=⟨Int.emod_nonneg _ (by omega),by have:=Int.emod_lt_of_pos (x:Int) (show(0:Int)<y by omega);omega⟩
  refine Ev.bind (d8g (InR.cons (by rw [a1l,hdy];exact hm.1) (by rw [a1l,hdy];exact hm.2) InR.nil) (by simp)) ?_
  refine(Ev.pure _).eq ?_
  simp only [a1l,hdy,val,Int.mul_zero,Int.add_zero]
  rw [<-Int.natCast_ediv,<-Int.natCast_emod,Int.toNat_natCast,Int.toNat_natCast]
 refine Ev.else (by simp;omega) ?_
 obtain⟨pl,top,hpt⟩:=e2m (l:=dig y) hyl
 have htop:ix (dig y) (((dig y).length-1:Nat):Int)=some top:=by
  have:∀l:List Int,l=pl++ [top]->ix l ((l.length-1:Nat):Int)=some top:=fun l hl=>by subst hl;exact a5s pl top [] (by simp)
  exact this _ hpt
 have ht1:0<=top/\top<1048576:=a2b y top (by rw [hpt];simp)
 have ht2:top≠0:=by have:=b9q y;rw [hpt]at this;simpa using this
 obtain⟨s,hs1,hs2,hL1⟩:=e8u (dig y) hyl (by omega) htop (by omega) ht1.2 19 0 rfl
 rw [show((2^0:Nat):Int)=1 from rfl]at hL1
 refine Ev.from 20 (fun n hn=>hL1 n _ n (by omega)) ?_
 obtain⟨S,rfl⟩:=Int.eq_ofNat_of_zero_le (show 0<=s by omega)
 have hS:0<S:=by omega
 have hSi:InR [(S:Int)]:=InR.cons (by omega) (by omega) InR.nil
 have hmul:∀z:Nat,(val (dig z)*val [(S:Int)]).toNat=z*S:=fun z=>by
  rw [a1l];simp only [val,Int.mul_zero,Int.add_zero]
  rw [<-Int.natCast_mul,Int.toNat_natCast]
 have m1:=d8p (a2b x) hSi (by omega) (by simp)
 have m2:=d8p (a2b y) hSi (by omega) (by simp)
 rw [hmul]at m1 m2
 have hxS:x<=x*S:=Nat.le_mul_of_pos_right _ hS
 have hyS:y<=y*S:=Nat.le_mul_of_pos_right _ hS
 have hxy:y*S<=x*S:=Nat.mul_le_mul_right _ (by omega)
 have l1:=a4o hxS
 have l2:=a4o hyS
 have l3:=a4o hxy
 have l4:(dig (x*S)).length<=(dig x).length+1:=by
  have h:=c2c [(S:Int)] (dig x) [0] rfl
  have h2:=c0e (d0g hSi (dig x) [0] (a2b x) (InR.rep 1))
  rw [c7o [(S:Int)] (dig x) [0] rfl,show val [(0:Int)]=0 from rfl,Int.zero_add,hmul,h]at h2
  simpa using h2
 refine Ev.bind m1 ?_
 refine Ev.step (a:=dig (x*S)++ [0]) (b8y (by simp;omega)) ?_
 refine Ev.bind m2 ?_
 refine Ev.step (a:=dig (x*S)++ [0]) (by
  have:(((dig (x*S)++ [(0:Int)]).length:Int)==((dig x).length:Int))=false:=by simp;omega
  rw [this,cond_false]) ?_
 obtain⟨k,hk⟩:∃k,(dig (x*S)).length+1=(dig (y*S)).length+k:=⟨(dig (x*S)).length+1-(dig (y*S)).length,by omega⟩
 have hk1:1<=k:=by omega
 have hkle:k<=(dig (x*S)).length:=by omega
 refine Ev.step (a:=List.replicate k 0) (by
  rw [a1c (by simp;omega) (by simp;omega),show(((dig (x*S)++ [(0:Int)]).length:Int)-((dig (y*S)).length:Int))=(k:Int) by simp;omega]
  exact c3y (by omega)) ?_
 have hyS0:y*S≠0:=by omega
 obtain⟨pl',top',hpt'⟩:=e2m (l:=dig (y*S)) (by omega)
 have htop':1<=top':=by
  have h1:=a2b (y*S) top' (by rw [hpt'];simp)
  have h2:=b9q (y*S)
  rw [hpt']at h2
  have:top'≠0:=by simpa using h2
  omega
 have hVge:pw ((dig (y*S)).length-1)<=val (dig (y*S)):=by
  have h0:(dig (y*S)).length-1=pl'.length:=by rw [hpt'];simp
  rw [h0,hpt',val_append]
  have h1:=val_nonneg (l:=pl') (fun e he=>a2b (y*S) e (by rw [hpt'];simp [he]))
  have h2:pw pl'.length*1<=pw pl'.length*top':=Int.mul_le_mul_of_nonneg_left htop' (by have:=pw_pos pl'.length;omega)
  simp only [val,Int.mul_zero,Int.add_zero]
  omega
 have hw:(dig (x*S)++ [(0:Int)]).drop k=(dig (x*S)).drop k++ [0]:=List.drop_append_of_le_length hkle
 have hwlt:val ((dig (x*S)++ [(0:Int)]).drop k)<val (dig (y*S)):=by
  rw [hw,val_append]
  have h1:=val_lt ((a2b (x*S)).drop k)
  have h2:((dig (x*S)).drop k).length=(dig (y*S)).length-1:=by simp;omega
  rw [h2]at h1
  simp only [val,Int.mul_zero,Int.add_zero]
  omega
 have hui:InR (dig (x*S)++ [(0:Int)]):=(a2b _).append (InR.cons (by decide) (by decide) InR.nil)
 refine⟨4398046511105+k+(dig (x*S)).length,fun n hn=> ?_⟩
 obtain⟨uf,r1,r2,r3,r4⟩:=e4k n (dig (y*S)) (fun(l6:List Int)(l7:List Int)=>(a2s n l7).bind fun v7=>(a8b n v7 (S:Int)).bind fun v8=>(a2s n l6).bind fun v9=>some (v9,v8.1)) (b0b _) (by omega) (by omega) (by omega)
  k ((dig (x*S)++ [(0:Int)]).take k) ((dig (x*S)++ [(0:Int)]).drop k) [] [] n (by simp;omega) (by simp;omega) (hui.take k) (hui.drop k) InR.nil rfl hwlt (by simp;omega) (by omega)
 simp only [List.append_nil,List.take_append_drop]at r1
 have hV:(0:Int)<val (dig (y*S)):=by rw [a1l];omega
 have h0:=val_nonneg (hui.drop k)
 have q1:=c3c (V:=val (dig (y*S))) ((dig (x*S)++ [(0:Int)]).take k) (val ((dig (x*S)++ [(0:Int)]).drop k))
 have q2:=b8u hV ((dig (x*S)++ [(0:Int)]).take k) _ h0 hwlt
 have q3:=c6g hV ((dig (x*S)++ [(0:Int)]).take k) _ (hui.take k) h0 hwlt
 have q4:=b8o (val (dig (y*S))) ((dig (x*S)++ [(0:Int)]).take k) (val ((dig (x*S)++ [(0:Int)]).drop k))
 rw [b8k,List.take_append_drop]at q1
 have q5:val (dig (x*S)++ [(0:Int)])=((x*S:Nat):Int):=by rw [val_append,a1l];simp [val]
 rw [q5]at q1
 have hVy:val (dig (y*S))=((y*S:Nat):Int):=a1l _
 rw [hVy]at q1 q2 q3 q4 r1 r4
 obtain⟨g1,g2⟩:=c7y (U:=((x*S:Nat):Int)) (V:=((y*S:Nat):Int)) (q:=val (a5x ((y*S:Nat):Int) ((dig (x*S)++ [(0:Int)]).take k) (val ((dig (x*S)++ [(0:Int)]).drop k))).1) (by omega) (by omega) (by rw [Int.add_mul,Int.one_mul];omega)
 obtain⟨n1,n2⟩:=c6s (a:=x) (b:=y) hS
 have e1:val uf=((x %y*S:Nat):Int):=by
  rw [r4,<-n2,Int.natCast_emod];omega
 have e2:val (a5x ((y*S:Nat):Int) ((dig (x*S)++ [(0:Int)]).take k) (val ((dig (x*S)++ [(0:Int)]).drop k))).1=((x/y:Nat):Int):=by
  rw [<-g1,<-n1,Int.natCast_ediv]
 have hul:uf.length<n:=by rw [r3];simp;omega
 have hlu:uf.length<1073741824:=by rw [r3];simp;omega
 have hdl:=c0e r2
 rw [e1,Int.toNat_natCast]at hdl
 dsimp only
 rw [List.length_replicate,a1c (by omega) (by omega),r1,c3h r2 (by omega) hul,e1,Int.toNat_natCast,Option.bind_some,
  d8r (a2b _) (by omega) (by omega) (by omega) (n:=n) (by omega),Option.bind_some,
  c3h q3 (by rw [q4];simp;omega) (by rw [q4];simp;omega),Option.bind_some,e2,Int.toNat_natCast,a1l]
 have e3:((x %y*S:Nat):Int)/(S:Int)=((x %y:Nat):Int):=by
  rw [<-Int.natCast_ediv,Nat.mul_div_cancel _ hS]
 rw [e3,Int.toNat_natCast]
end Go.Proofs.YthaegflpecbfgaaGreatDoor.D
namespace Go.Proofs.YthaegflpecbfgaaGreatDoor.D
open Go Rt M
def toB(x:Int):Big:=⟨sg x,dig x.natAbs⟩
def Sm(k:Nat)(x:Int):Prop:=(x.natAbs:Int)<pw k
theorem a0t(x:Int):(x<0/\sg x=-1)∨(x=0/\sg x=0)∨(0<x/\sg x=1):=by
 unfold sg;split
 ·exact .inl ⟨by assumption,rfl⟩
 ·split
  ·exact .inr (.inr ⟨by assumption,rfl⟩)
  ·exact .inr (.inl ⟨by omega,rfl⟩)
theorem a3p{x:Int}(h:0<x):sg x=1:=by rcases a0t x with h1|h1|h1<;>omega
theorem a4b{x:Int}(h:x<0):sg x=-1:=by rcases a0t x with h1|h1|h1<;>omega
theorem b7i(x y:Int):sg (x*y)=sg x*sg y:=by
 rcases a0t x with⟨h1,h2⟩|⟨h1,h2⟩|⟨h1,h2⟩<;>rcases a0t y with⟨h3,h4⟩|⟨h3,h4⟩|⟨h3,h4⟩<;>rw [h2,h4]
 ·exact a3p (Int.mul_pos_of_neg_of_neg h1 h3)
 ·subst h3;rw [Int.mul_zero];decide
 ·exact a4b (Int.mul_neg_of_neg_of_pos h1 h3)
 ·subst h1;rw [Int.zero_mul];decide
 ·subst h1;rw [Int.zero_mul];decide
 ·subst h1;rw [Int.zero_mul];decide
 ·exact a4b (Int.mul_neg_of_pos_of_neg h1 h3)
 ·subst h3;rw [Int.mul_zero];decide
 ·exact a3p (Int.mul_pos h1 h3)
theorem c4g(x:Int):sg x*(x.natAbs:Int)=x:=by
 rcases a0t x with⟨h1,h2⟩|⟨h1,h2⟩|⟨h1,h2⟩<;>rw [h2]<;>omega
theorem c1w(x:Int):-1<=sg x/\sg x<=1:=by rcases a0t x with h|h|h<;>omega
theorem d4i(a:Nat):∀b,pw (a+b)=pw a*pw b
 |0=>by simp [pw]
 |b+1=>by rw [<-Nat.add_assoc];simp only [pw,d4i a b];grind
theorem a1k{k:Nat}{x:Int}(h:Sm k x):(dig x.natAbs).length<=k:=by
 rcases Nat.lt_or_ge k (dig x.natAbs).length with h1|h1
 ·exfalso
  have h2:val (List.replicate k (1048575:Int))<val (dig x.natAbs):=val_lt_of_len (fun e he=>by rw [(List.mem_replicate.1 he).2];decide) (b0b _) (by simpa using h1)
  have h3:∀k,val (List.replicate k (1048575:Int))=pw k-1:=by
   intro k
   induction k with
   |zero=>rfl
   |succ k ih=>rw [List.replicate_succ];simp only [val,pw,ih];omega
  rw [h3,a1l]at h2
  unfold Sm at h
  omega
 ·exact h1
theorem a6n{k:Nat}{x:Int}(h:(dig x.natAbs).length<=k):Sm k x:=by
 have h1:=val_lt (a2b x.natAbs)
 rw [a1l]at h1
 exact Int.lt_of_lt_of_le h1 (pw_mono h)
theorem Sm.mono{k l:Nat}{x:Int}(h:Sm k x)(hkl:k<=l):Sm l x:=Int.lt_of_lt_of_le h (pw_mono hkl)
theorem Sm.add{k:Nat}{x y:Int}(h:Sm k x)(h2:Sm k y):Sm (k+1) (x+y):=by
 unfold Sm at*;simp only [pw];omega
theorem Sm.neg{k:Nat}{x:Int}(h:Sm k x):Sm k (-x):=by unfold Sm at*;omega
theorem Sm.sub{k:Nat}{x y:Int}(h:Sm k x)(h2:Sm k y):Sm (k+1) (x-y):=by rw [Int.sub_eq_add_neg];exact h.add h2.neg
theorem Sm.mul{k l:Nat}{x y:Int}(h:Sm k x)(h2:Sm l y):Sm (k+l) (x*y):=by
 unfold Sm at*
 rw [d4i,Int.natAbs_mul,Int.natCast_mul]
 have h3:(x.natAbs:Int)*y.natAbs<=x.natAbs*pw l:=Int.mul_le_mul_of_nonneg_left (by omega) (by omega)
 have h4:(x.natAbs:Int)*pw l<pw k*pw l:=Int.mul_lt_mul_of_pos_right h (pw_pos l)
 omega
theorem Sm.le{k:Nat}{x y:Int}(h:Sm k x)(h2:y.natAbs<=x.natAbs):Sm k y:=by unfold Sm at*;omega
def okd(d:Int):Bool:=decide (0<=d)&&decide (d<1048576)
def a9e(a:Big):Bool:=a.Digits.all okd&&(if a.Digits= []then a.Sign==0 else(a.Sign==1||a.Sign==-1)&&(a.Digits.getLast?.getD 0 !=0))
theorem e0l(n:Nat)(a:Big)(kont:Option Bool)(hl:a.Digits.length<1099511627776):∀(us:List Int)(i m:Nat),a.Digits.drop i=us->us.length<m->big_Right_L1 n a kont m (i:Int)=bif us.all okd then kont else some false
 | [],i,m+1,hd,_=>by
  rw [big_Right_L1_s]
  have:=drop_nil hd
  rw [show decide ((i:Int)<(a.Digits.length:Int))=false by simp;omega];rfl
 |x::xs,i,m+1,hd,hm=>by
  rw [big_Right_L1_s]
  obtain⟨f1,f2,f3⟩:=drop_cons hd
  rw [show decide ((i:Int)<(a.Digits.length:Int))=true by simp;omega,cond_true,f1,Option.bind_some]
  have e1:((bif decide (x<0)then some true else some (decide (1048575<x))):Option Bool)=some (!okd x):=by
   unfold okd
   by_cases h:x<0
   ·rw [show decide (x<0)=true by simpa using h,show decide (0<=x)=false by simp;omega];rfl
   ·rw [show decide (x<0)=false by simpa using h,show decide (0<=x)=true by simp;omega,cond_false]
    by_cases h2:x<1048576
    ·rw [show decide (1048575<x)=false by simp;omega,show decide (x<1048576)=true by simpa using h2];rfl
    ·rw [show decide (1048575<x)=true by simp;omega,show decide (x<1048576)=false by simpa using h2];rfl
  rw [e1,Option.bind_some,List.all_cons]
  cases h:okd x with
  |false=>rfl
  |true=>
   rw [inc64 (by omega),e0l n a kont hl xs (i+1) m f2 (by simpa using hm)];rfl
 |_,_,0,_,h=>by omega
theorem e8c{a:Big}(hl:a.Digits.length<1099511627776){n:Nat}(hn:a.Digits.length<n):a3b n a=some (a9e a):=by
 unfold a3b
 have h:=fun kont=>e0l n a kont hl a.Digits 0 n rfl hn
 rw [show((0:Nat):Int)=0 from rfl]at h
 rw [h]
 unfold a9e
 cases ha:a.Digits.all okd with
 |false=>rfl
 |true=>
  rw [cond_true,Bool.true_and]
  rcases List.eq_nil_or_concat a.Digits with h0|⟨p,d,h0⟩
  ·rw [h0];rfl
  ·rw [List.concat_eq_append]at h0
   have hne:a.Digits≠ []:=by rw [h0];simp
   have e1:((a.Digits.length:Int)==0)=false:=by rw [h0];simp;omega
   have e2:isub .i64 (a.Digits.length:Int) 1=(p.length:Int):=by rw [a1c (by omega) (by omega),h0];simp
   have e3:ix a.Digits (p.length:Int)=some d:=by rw [h0];exact a5s p d [] rfl
   rw [e1,cond_false,if_neg hne,e2,e3]
   have e4:a.Digits.getLast?.getD 0=d:=by rw [h0];simp
   rw [e4]
   cases h1:(a.Sign==1)<;>cases h2:(a.Sign==-1)<;>rfl
theorem c7m{a:Big}(hl:a.Digits.length<1099511627776):Ev (fun n=>a3b n a) (a9e a):=⟨a.Digits.length+1,fun _ hn=>e8c hl hn⟩
theorem b6m(x:Int):a9e (toB x)=true:=by
 unfold a9e toB
 have h1:(dig x.natAbs).all okd=true:=by
  rw [List.all_eq_true]
  intro d hd
  have:=a2b _ d hd
  unfold okd;simp;omega
 simp only [h1,Bool.true_and]
 by_cases h:x=0
 ·subst h;rw [show(0:Int).natAbs=0 from rfl,dig_zero];rfl
 ·rw [if_neg (b6z (by omega))]
  have h2:(dig x.natAbs).getLast?.getD 0≠0:=by
   have h3:=b9q x.natAbs
   cases h4:(dig x.natAbs).getLast? with
   |none=>rw [List.getLast?_eq_none_iff]at h4;exact absurd h4 (b6z (by omega))
   |some d=>rw [h4]at h3;simpa using h3
  rcases a0t x with⟨_,h5⟩|⟨h6,_⟩|⟨_,h5⟩
  ·rw [h5];simpa using h2
  ·exact absurd h6 h
  ·rw [h5];simpa using h2
theorem a8s{a:Big}(h:a9e a=true):∃x,a=toB x:=by
 obtain⟨s,l⟩:=a
 unfold a9e at h
 simp only [Bool.and_eq_true,List.all_eq_true]at h
 obtain⟨h1,h2⟩:=h
 have hi:InR l:=fun d hd=>by have:=h1 d hd;unfold okd at this;simpa using this
 by_cases hl:l= []
 ·subst hl
  simp only [if_true,beq_iff_eq]at h2
  subst h2
  exact⟨0,by unfold toB;rw [show(0:Int).natAbs=0 from rfl,dig_zero];rfl⟩
 ·simp only [if_neg hl,Bool.and_eq_true,Bool.or_eq_true,beq_iff_eq,bne_iff_ne]at h2
  have hc:Canon l:=by
   refine⟨hi,fun h3=> ?_⟩
   rw [h3]at h2;exact h2.2 rfl
  have hv:=val_nonneg hi
  have hv0:val l≠0:=fun e=>by have:=dig_val hc;rw [e,Int.toNat_zero,dig_zero]at this;exact hl this.symm
  have hd:=dig_val hc
  rcases h2.1 with h3|h3
  ·refine⟨val l,?_⟩
   unfold toB
   rw [a3p (by omega),h3,show(val l).natAbs=(val l).toNat by omega,hd]
  ·refine⟨-val l,?_⟩
   unfold toB
   rw [a4b (by omega),h3,show(-val l).natAbs=(val l).toNat by omega,hd]
theorem e6i{x y:Int}(h:toB x=toB y):x=y:=by
 unfold toB at h
 simp only [Big.mk.injEq]at h
 have:=e4z h.2
 have h1:=c4g x
 have h2:=c4g y
 rw [h.1,this]at h1
 omega
theorem toB_zero:toB 0=⟨0,[]⟩:=by unfold toB;rw [show(0:Int).natAbs=0 from rfl,dig_zero];rfl
theorem a5d{x:Int}{k:Nat}(h:Sm k x)(hk:k<1099511627776):Ev (fun n=>a3b n (toB x)) true:=by
 have:=c7m (a:=toB x) (by have:=a1k h;simp only [toB];omega)
 rwa [b6m]at this
theorem a7e(s:Int){v:Nat}(h:(dig v).length<1099511627776):Ev (fun n=>a3h n s (dig v)) (if v=0 then⟨0,[]⟩else⟨s,dig v⟩):=by
 unfold a3h
 have h1:=d8g (a2b v) h
 rw [a1l,Int.toNat_natCast]at h1
 refine Ev.bind h1 ?_
 by_cases hv:v=0
 ·rw [if_pos hv]
  refine Ev.then (by rw [hv,dig_zero];rfl) (Ev.pure _)
 ·rw [if_neg hv]
  refine Ev.else ?_ (Ev.pure _)
  have:=b6z hv
  cases hd:dig v with
  |nil=>exact absurd hd this
  |cons a l=>simp;omega
theorem a4r{s:Int}{v:Nat}(z:Int)(hz:z.natAbs=v)(hs:v≠0->s=sg z):(if v=0 then(⟨0,[]⟩:Big)else⟨s,dig v⟩)=toB z:=by
 by_cases hv:v=0
 ·rw [if_pos hv]
  have:z=0:=by omega
  rw [this,toB_zero]
 ·rw [if_neg hv,hs hv];unfold toB;rw [hz]
theorem c5i{x:Int}{k:Nat}(h:Sm k x)(hk:k<1073741824):Ev (fun n=>b2u n (toB x)) (toB (-x)):=by
 unfold b2u
 have hl:=a1k h
 refine Ev.bind (a5d h (by omega)) ?_
 refine Ev.else rfl ?_
 refine Ev.bind (b3n (a:=(toB x).Digits) (by simp only [toB];omega)) ?_
 have hr:=c1w x
 refine Ev.bind (a7e (IntKind.i64.wrap (0-(toB x).Sign)) (v:=x.natAbs) (by omega)) ?_
 refine(Ev.pure _).eq ?_
 rw [a4r (-x) (by omega) (fun hv=>by
  show IntKind.i64.wrap (0-sg x)=_
  rw [a5f (by omega) (by omega)]
  rcases a0t x with⟨h1,h2⟩|⟨h1,h2⟩|⟨h1,h2⟩
  ·rw [h2,a3p (by omega)];rfl
  ·omega
  ·rw [h2,a4b (by omega)];rfl)]
theorem Or_n(n:Nat)(x y:Int)(hn:2<n):b2w n [x,y]=some (if x≠0 then x else y):=by
 obtain⟨n,rfl⟩:∃k,n=k+3:=⟨n-3,by omega⟩
 have h0:ix [x,y] 0=some x:=rfl
 have h1:ix [x,y] 1=some y:=rfl
 have a1:iadd .i64 0 1=1:=by decide
 have a2:iadd .i64 1 1=2:=by decide
 unfold b2w
 rw [cmp_Or_int_L1_s,show decide ((0:Int)<(([x,y]:List Int).length:Int))=true by rfl,cond_true,h0,Option.bind_some]
 by_cases hx:x=0
 ·rw [show(x !=0)=false by simpa using hx,cond_false,a1,cmp_Or_int_L1_s,show decide ((1:Int)<(([x,y]:List Int).length:Int))=true by rfl,cond_true,h1,Option.bind_some,if_neg (by simpa using hx)]
  by_cases hy:y=0
  ·rw [show(y !=0)=false by simpa using hy,cond_false,a2,cmp_Or_int_L1_s,show decide ((2:Int)<(([x,y]:List Int).length:Int))=false by rfl,cond_false,hy]
  ·rw [show(y !=0)=true by simpa using hy,cond_true]
 ·rw [show(x !=0)=true by simpa using hx,cond_true,if_pos hx]
theorem d9d(u v:Nat)(hu:(dig u).length<1073741824)(hv:(dig v).length<1073741824):Ev (fun n=>b8i n (dig u) (dig v)) (dig (u+v)):=by
 have:=e8j (a2b u) (a2b v) hu hv
 rwa [a1l,a1l,show((u:Int)+v).toNat=u+v by omega]at this
theorem d1z(u v:Nat)(hu:(dig u).length<1073741824)(hvu:v<=u):Ev (fun n=>b4z n (dig u) (dig v)) (dig (u-v)):=by
 have:=e8t (a2b u) (a2b v) hu (a4o hvu) (by rw [a1l,a1l];omega)
 rwa [a1l,a1l,show((u:Int)-v).toNat=u-v by omega]at this
theorem e6s(u v:Nat)(hu:(dig u).length<536870912)(hv:(dig v).length<536870912):Ev (fun n=>b0n n (dig u) (dig v)) (dig (u*v)):=by
 have:=d8p (a2b u) (a2b v) hu hv
 rwa [a1l,a1l,<-Int.natCast_mul,Int.toNat_natCast]at this
theorem c4f(u v:Nat)(hu:(dig u).length<1073741824):Ev (fun n=>a6j n (dig u) (dig v)) (sg ((u:Int)-v)):=⟨(dig u).length+1,fun n hn=>by
 have:=c9y (n:=n) (b0b u) (b0b v) (by omega) (by omega)
 rwa [a1l,a1l]at this⟩
theorem b0c(n:Nat)(c:Big):a4s n true c=some (c,0):=rfl
theorem b5v(x y:Int):imul .i64 (sg x) (sg y)=sg (x*y):=by
 rw [b7i]
 have h1:=c1w x
 have h2:=c1w y
 refine a6w ?_ ?_<;>rcases a0t x with⟨_,h⟩|⟨_,h⟩|⟨_,h⟩<;>rw [h]<;>omega
theorem e9w{x y:Int}{k:Nat}(hx:Sm k x)(hy:Sm k y)(hk:k<536870912):Ev (fun n=>c4h n (toB x) (toB y)) (toB (x+y),0):=by
 have lx:=a1k hx
 have ly:=a1k hy
 have lxy:=a1k (hx.add hy)
 unfold c4h
 refine Ev.bind (a5d hx (by omega)) ?_
 refine Ev.bind (a:=false) (Ev.else rfl (Ev.bind (a5d hy (by omega)) (Ev.pure _))) ?_
 refine Ev.else rfl ?_
 show Ev (fun n=>bif decide (0<=imul .i64 (sg x) (sg y))then _ else _) _
 rw [b5v]
 by_cases hs:0<=sg (x*y)
 ·refine Ev.then (by simpa using hs) ?_
  refine Ev.bind (a:=if sg x≠0 then sg x else sg y) ⟨3,fun n hn=>Or_n n _ _ (by omega)⟩ ?_
  refine Ev.bind (d9d x.natAbs y.natAbs (by omega) (by omega)) ?_
  have hab:x.natAbs+y.natAbs=(x+y).natAbs:=by
   rw [b7i]at hs
   rcases a0t x with⟨h1,h2⟩|⟨h1,h2⟩|⟨h1,h2⟩<;>rcases a0t y with⟨h3,h4⟩|⟨h3,h4⟩|⟨h3,h4⟩<;>rw [h2,h4]at hs<;>omega
  rw [hab]
  refine Ev.bind (a7e _ (by omega)) ?_
  rw [a4r (x+y) rfl (fun hv=>by
   rw [b7i]at hs
   rcases a0t x with⟨h1,h2⟩|⟨h1,h2⟩|⟨h1,h2⟩<;>rcases a0t y with⟨h3,h4⟩|⟨h3,h4⟩|⟨h3,h4⟩<;>rw [h2,h4]at hs⊢<;>
    first
     |omega
     |(rw [a4b (by omega)];decide)
     |(rw [a3p (by omega)];decide))]
  exact Ev.step (b0c 0 _) (Ev.pure _)
 ·refine Ev.else (by simpa using hs) ?_
  have hne:x≠0/\y≠0:=by
   constructor
   ·intro h;subst h;rw [Int.zero_mul]at hs;exact hs (by decide)
   ·intro h;subst h;rw [Int.mul_zero]at hs;exact hs (by decide)
  have hop:sg x=-sg y:=by
   rw [b7i]at hs
   rcases a0t x with⟨h1,h2⟩|⟨h1,h2⟩|⟨h1,h2⟩<;>rcases a0t y with⟨h3,h4⟩|⟨h3,h4⟩|⟨h3,h4⟩<;>rw [h2,h4]at hs⊢<;>omega
  refine Ev.bind (c4f x.natAbs y.natAbs (by omega)) ?_
  by_cases hlt:x.natAbs<y.natAbs
  ·refine Ev.then (by rw [a4b (by omega)];rfl) ?_
   refine Ev.bind (d1z y.natAbs x.natAbs (by omega) (by omega)) ?_
   rw [show y.natAbs-x.natAbs=(x+y).natAbs by
    rcases a0t x with⟨h1,h2⟩|⟨h1,h2⟩|⟨h1,h2⟩<;>rcases a0t y with⟨h3,h4⟩|⟨h3,h4⟩|⟨h3,h4⟩<;>omega]
   refine Ev.bind (a7e _ (by omega)) ?_
   rw [a4r (x+y) rfl (fun hv=>by
    show sg y=_
    rcases a0t y with⟨h3,h4⟩|⟨h3,h4⟩|⟨h3,h4⟩
    ·rw [h4,a4b (by omega)]
    ·omega
    ·rw [h4,a3p (by omega)])]
   exact Ev.step (b0c 0 _) (Ev.pure _)
  ·refine Ev.else (by
    rcases a0t ((x.natAbs:Int)-y.natAbs)with h|h|h
    ·omega
    ·rw [h.2];rfl
    ·rw [h.2];rfl) ?_
   refine Ev.bind (d1z x.natAbs y.natAbs (by omega) (by omega)) ?_
   rw [show x.natAbs-y.natAbs=(x+y).natAbs by
    rcases a0t x with⟨h1,h2⟩|⟨h1,h2⟩|⟨h1,h2⟩<;>rcases a0t y with⟨h3,h4⟩|⟨h3,h4⟩|⟨h3,h4⟩<;>omega]
   refine Ev.bind (a7e _ (by omega)) ?_
   rw [a4r (x+y) rfl (fun hv=>by
    show sg x=_
    rcases a0t x with⟨h3,h4⟩|⟨h3,h4⟩|⟨h3,h4⟩
    ·rw [h4,a4b (by omega)]
    ·omega
    ·rw [h4,a3p (by omega)])]
   exact Ev.step (b0c 0 _) (Ev.pure _)
theorem f0s{x y:Int}{k:Nat}(hx:Sm k x)(hy:Sm k y)(hk:k<268435456):Ev (fun n=>c2s n (toB x) (toB y)) (toB (x*y),0):=by
 have lx:=a1k hx
 have ly:=a1k hy
 have lxy:=a1k (hx.mul hy)
 unfold c2s
 refine Ev.bind (a5d hx (by omega)) ?_
 refine Ev.bind (a:=false) (Ev.else rfl (Ev.bind (a5d hy (by omega)) (Ev.pure _))) ?_
 refine Ev.else rfl ?_
 refine Ev.bind (e6s x.natAbs y.natAbs (by omega) (by omega)) ?_
 rw [<-Int.natAbs_mul]
 refine Ev.bind (a7e (imul .i64 (sg x) (sg y)) (by omega)) ?_
 rw [a4r (x*y) rfl (fun _=>b5v x y)]
 exact Ev.step (b0c 0 _) (Ev.pure _)
end Go.Proofs.YthaegflpecbfgaaGreatDoor.D
namespace Go.Proofs.YthaegflpecbfgaaGreatDoor.D
open Go Rt M
def odd(x y:Int):Bool:=decide (x*y<0)&&decide (x.natAbs %y.natAbs≠0)
def dq(x y:Int):Int:=if odd x y then-((x.natAbs/y.natAbs:Nat)+1:Int)else sg (x*y)*(x.natAbs/y.natAbs:Nat)
def dr(x y:Int):Int:=if odd x y then sg y*((y.natAbs-x.natAbs %y.natAbs:Nat):Int)else sg x*((x.natAbs %y.natAbs:Nat):Int)
theorem b4b{x y:Int}:x*y<0↔(x<0/\0<y)∨(0<x/\y<0):=by
 rcases a0t x with⟨h1,h2⟩|⟨h1,h2⟩|⟨h1,h2⟩<;>rcases a0t y with⟨h3,h4⟩|⟨h3,h4⟩|⟨h3,h4⟩
 ·have:=Int.mul_pos_of_neg_of_neg h1 h3;omega
 ·subst h3;simp
 ·have:=Int.mul_neg_of_neg_of_pos h1 h3;omega
 ·subst h1;simp
 ·subst h1;simp
 ·subst h1;simp
 ·have:=Int.mul_neg_of_pos_of_neg h1 h3;omega
 ·subst h3;simp
 ·have:=Int.mul_pos h1 h3;omega
theorem f1b{x y:Int}(hy:y≠0):dq x y*y+dr x y=x/\(dr x y=0∨sg (dr x y)=sg y)/\(dr x y).natAbs<y.natAbs:=by
 have hyn:0<y.natAbs:=by omega
 have h1:=Nat.div_add_mod x.natAbs y.natAbs
 have h2:=Nat.mod_lt x.natAbs hyn
 have h1':(y.natAbs:Int)*((x.natAbs/y.natAbs:Nat):Int)+((x.natAbs %y.natAbs:Nat):Int)=x.natAbs:=by rw [<-Int.natCast_mul];omega
 generalize hq:x.natAbs/y.natAbs=q at*
 generalize hr:x.natAbs %y.natAbs=r at*
 unfold dq dr odd
 rw [hq,hr]
 by_cases ho:x*y<0
 ·by_cases hr0:r=0
  ·rw [show(decide (x*y<0)&&decide (r≠0))=false by simp [hr0]]
   simp only [if_neg Bool.false_ne_true]
   rw [hr0]at h1'⊢
   rw [a4b ho]
   simp only [Int.natCast_zero,Int.mul_zero,Int.add_zero]at h1'⊢
   refine⟨?_,.inl trivial,by omega⟩
   rcases b4b.1 ho with⟨a,b⟩|⟨a,b⟩
   ·have e:(y.natAbs:Int)=y:=by omega
    rw [e]at h1'
    have:-1*(q:Int)*y=-(y*q):=by grind
    omega
   ·have e:(y.natAbs:Int)=-y:=by omega
    rw [e]at h1'
    have:-1*(q:Int)*y=-y*q:=by grind
    omega
  ·rw [show(decide (x*y<0)&&decide (r≠0))=true by simp [hr0,ho]]
   simp only [if_true]
   rcases b4b.1 ho with⟨a,b⟩|⟨a,b⟩
   ·have e:(y.natAbs:Int)=y:=by omega
    rw [e]at h1'
    rw [a3p b]
    have:-((q:Int)+1)*y=-(y*q)-y:=by grind
    exact⟨by omega,.inr (by rw [a3p (by omega)]),by omega⟩
   ·have e:(y.natAbs:Int)=-y:=by omega
    rw [e]at h1'
    rw [a4b b]
    have:-((q:Int)+1)*y=-y*q-y:=by grind
    exact⟨by omega,.inr (by rw [a4b (by omega)]),by omega⟩
 ·rw [show(decide (x*y<0)&&decide (r≠0))=false by simp [ho]]
  simp only [if_neg Bool.false_ne_true]
  rcases a0t x with⟨a,b⟩|⟨a,b⟩|⟨a,b⟩<;>rcases a0t y with⟨c,d⟩|⟨c,d⟩|⟨c,d⟩
  ·rw [b7i,b,d]
   have e:(y.natAbs:Int)=-y:=by omega
   rw [e]at h1'
   have:-1*-1*(q:Int)*y=-(-y*q):=by grind
   refine⟨by omega,?_,by omega⟩
   by_cases hr0:r=0
   ·left;omega
   ·right;rw [a4b (by omega)]
  ·exact absurd c hy
  ·exact absurd (b4b.2 (.inl ⟨a,c⟩)) ho
  ·rw [b7i,b];subst a
   have:r=0:=by rw [<-hr];simp
   refine⟨?_,.inl (by omega),by omega⟩
   simp
  ·exact absurd c hy
  ·rw [b7i,b];subst a
   refine⟨?_,.inl (by omega),by omega⟩
   simp
  ·exact absurd (b4b.2 (.inr ⟨a,c⟩)) ho
  ·exact absurd c hy
  ·rw [b7i,b,d]
   have e:(y.natAbs:Int)=y:=by omega
   rw [e]at h1'
   have:1*1*(q:Int)*y=y*q:=by grind
   refine⟨by omega,?_,by omega⟩
   by_cases hr0:r=0
   ·left;omega
   ·right;rw [a3p (by omega)]
theorem d3t{x y:Int}(ho:odd x y=true):(dq x y).natAbs=x.natAbs/y.natAbs+1/\sg (dq x y)=-1:=by
 unfold dq;rw [if_pos ho]
 generalize x.natAbs/y.natAbs=q
 exact⟨by omega,a4b (by omega)⟩
theorem d3r{x y:Int}(hy:y≠0)(ho:odd x y=true):(dr x y).natAbs=y.natAbs-x.natAbs %y.natAbs/\sg (dr x y)=sg y:=by
 unfold dr;rw [if_pos ho]
 have h:=Nat.mod_lt x.natAbs (show y.natAbs>0 by omega)
 generalize x.natAbs %y.natAbs=r at*
 rcases a0t y with⟨h1,h2⟩|⟨h1,h2⟩|⟨h1,h2⟩<;>rw [h2]
 ·exact⟨by omega,a4b (by omega)⟩
 ·exact absurd h1 hy
 ·exact⟨by omega,a3p (by omega)⟩
theorem c6b{x y:Int}(hy:y≠0)(ho:¬odd x y=true):(dq x y).natAbs=x.natAbs/y.natAbs/\(x.natAbs/y.natAbs≠0->sg (x*y)=sg (dq x y)):=by
 unfold dq;rw [if_neg ho]
 rcases a0t (x*y)with⟨h1,h2⟩|⟨h1,h2⟩|⟨h1,h2⟩<;>rw [h2]
 ·generalize x.natAbs/y.natAbs=q
  exact⟨by omega,fun _=>by rw [a4b (by omega)]⟩
 ·have h3:x=0:=by
   rcases Int.mul_eq_zero.1 h1 with h4|h4
   ·exact h4
   ·exact absurd h4 hy
  subst h3
  rw [show(0:Int).natAbs=0 from rfl,Nat.zero_div]
  exact⟨rfl,fun h=>absurd rfl h⟩
 ·generalize x.natAbs/y.natAbs=q
  exact⟨by omega,fun _=>by rw [a3p (by omega)]⟩
theorem c7n{x y:Int}(ho:¬odd x y=true):(dr x y).natAbs=x.natAbs %y.natAbs/\(x.natAbs %y.natAbs≠0->sg x=sg (dr x y)):=by
 unfold dr;rw [if_neg ho]
 rcases a0t x with⟨h1,h2⟩|⟨h1,h2⟩|⟨h1,h2⟩<;>rw [h2]
 ·generalize x.natAbs %y.natAbs=r
  exact⟨by omega,fun _=>by rw [a4b (by omega)]⟩
 ·subst h1
  rw [show(0:Int).natAbs=0 from rfl,Nat.zero_mod]
  exact⟨rfl,fun h=>absurd rfl h⟩
 ·generalize x.natAbs %y.natAbs=r
  exact⟨by omega,fun _=>by rw [a3p (by omega)]⟩
theorem dig_one:dig 1= [1]:=by rw [b3o (by decide),show 1/1048576=0 from rfl,dig_zero];rfl
theorem e3q{x y:Int}{k:Nat}(hx:Sm k x)(hy:Sm k y)(hk:k<8388608)(hy0:y≠0):Ev (fun n=>b2t n (toB x) (toB y)) (toB (dq x y),toB (dr x y),0):=by
 have lx:=a1k hx
 have ly:=a1k hy
 have hyn:y.natAbs≠0:=by omega
 have hmod:=Nat.mod_lt x.natAbs (show y.natAbs>0 by omega)
 have hdivle:x.natAbs/y.natAbs<=x.natAbs:=Nat.div_le_self _ _
 have lq:=a4o hdivle
 have lr:=a4o (Nat.le_of_lt hmod)
 have lq1:(dig (x.natAbs/y.natAbs+1)).length<=k+1:=by
  have h:Sm (k+1) ((x.natAbs/y.natAbs+1:Nat):Int):=by
   generalize x.natAbs/y.natAbs=q at*
   unfold Sm at*
   rw [Int.natAbs_natCast]
   simp only [pw];have:=pw_pos k;omega
  have:=a1k h
  rwa [Int.natAbs_natCast]at this
 have ls:=a4o (show y.natAbs-x.natAbs %y.natAbs<=y.natAbs by omega)
 unfold b2t
 refine Ev.bind (a5d hx (by omega)) ?_
 refine Ev.bind (a:=false) (Ev.else rfl (Ev.bind (a5d hy (by omega)) (Ev.pure _))) ?_
 refine Ev.else rfl ?_
 refine Ev.else (by show(sg y==0)=false;rcases a0t y with h|h|h<;>first|(rw [h.2];rfl)|omega) ?_
 refine Ev.bind (e3i (x:=x.natAbs) (y:=y.natAbs) hyn (by omega) (by omega)) ?_
 refine Ev.step (a:=odd x y) (by
  show(bif decide (imul .i64 (sg x) (sg y)<0)then some (decide (0<((dig (x.natAbs %y.natAbs)).length:Int)))else some false)=_
  rw [b5v]
  unfold odd
  have e1:decide (sg (x*y)<0)=decide (x*y<0):=by
   rcases a0t (x*y)with⟨h1,h2⟩|⟨h1,h2⟩|⟨h1,h2⟩<;>rw [h2]<;>simp<;>omega
  have e2:decide (0<((dig (x.natAbs %y.natAbs)).length:Int))=decide (x.natAbs %y.natAbs≠0):=by
   by_cases h:x.natAbs %y.natAbs=0
   ·rw [h,dig_zero];rfl
   ·have:=b6z h
    have h3:0<(dig (x.natAbs %y.natAbs)).length:=List.length_pos_iff.2 this
    simp [h];omega
  rw [e1,e2]
  cases decide (x*y<0)<;>rfl) ?_
 by_cases ho:odd x y=true
 ·refine Ev.then ho ?_
  refine Ev.bind (a:=dig (x.natAbs/y.natAbs+1)) (by
   have:=d9d (x.natAbs/y.natAbs) 1 (by omega) (by rw [dig_one];simp)
   rwa [dig_one]at this) ?_
  refine Ev.bind (a7e (-1) (by omega)) ?_
  refine Ev.bind (d1z y.natAbs (x.natAbs %y.natAbs) (by omega) (by omega)) ?_
  refine Ev.bind (a7e (sg y) (by omega)) ?_
  refine(Ev.pure _).eq ?_
  rw [a4r (dq x y) (d3t ho).1 (fun _=>(d3t ho).2.symm),a4r (dr x y) (d3r hy0 ho).1 (fun _=>(d3r hy0 ho).2.symm)]
 ·refine Ev.else (by simpa using ho) ?_
  refine Ev.bind (a7e (imul .i64 (sg x) (sg y)) (by omega)) ?_
  refine Ev.bind (a7e (sg x) (by omega)) ?_
  refine(Ev.pure _).eq ?_
  rw [b5v,a4r (dq x y) (c6b hy0 ho).1 (c6b hy0 ho).2,a4r (dr x y) (c7n ho).1 (c7n ho).2]
theorem f1a(v:Nat):∀(u:Nat),(dig u).length<16777216->(dig v).length<16777216->∃N,∀n,N<=n->∀(kont:List Int->Option (Big×Int))m,v<m->big_Gcd_L1 n kont m (dig u) (dig v)=kont (dig (Nat.gcd u v)):=by
 induction v using Nat.strongRecOn with
 |ind v ih=>
  intro u hu hv
  by_cases h:v=0
  ·subst h
   refine⟨0,fun n _ kont m hm=> ?_⟩
   obtain⟨m,rfl⟩:∃m',m=m'+1:=⟨m-1,by omega⟩
   rw [big_Gcd_L1_s,dig_zero,Nat.gcd_zero_right];rfl
  ·have hlt:=Nat.mod_lt u (show v>0 by omega)
   obtain⟨N1,h1⟩:=e3i (x:=u) (y:=v) h hu hv
   obtain⟨N2,h2⟩:=ih (u %v) hlt v hv (by have:=a4o (Nat.le_of_lt hlt);omega)
   refine⟨max N1 N2,fun n hn kont m hm=> ?_⟩
   obtain⟨m,rfl⟩:∃m',m=m'+1:=⟨m-1,by omega⟩
   have h3:0<(dig v).length:=List.length_pos_iff.2 (b6z h)
   rw [big_Gcd_L1_s,show decide (0<((dig v).length:Int))=true by simp;omega,cond_true,(show b5d n (dig u) (dig v)=_ from h1 n (by omega)),Option.bind_some]
   show big_Gcd_L1 n kont m (dig v) (dig (u %v))=_
   rw [h2 n (by omega) kont m (by omega),Nat.gcd_comm v,<-Nat.gcd_rec,Nat.gcd_comm]
theorem e3x{x y:Int}{k:Nat}(hx:Sm k x)(hy:Sm k y)(hk:k<8388608):Ev (fun n=>b5q n (toB x) (toB y)) (toB (Nat.gcd x.natAbs y.natAbs:Nat),0):=by
 have lx:=a1k hx
 have ly:=a1k hy
 have lg:(dig (Nat.gcd x.natAbs y.natAbs)).length<16777216:=by
  by_cases h:x.natAbs=0
  ·rw [h,Nat.gcd_zero_left];omega
  ·have:=a4o (Nat.gcd_le_left y.natAbs (show 0<x.natAbs by omega));omega
 unfold b5q
 refine Ev.bind (a5d hx (by omega)) ?_
 refine Ev.bind (a:=false) (Ev.else rfl (Ev.bind (a5d hy (by omega)) (Ev.pure _))) ?_
 refine Ev.else rfl ?_
 refine Ev.bind (b3n (a:=(toB x).Digits) (by simp only [toB];omega)) ?_
 obtain⟨N,hN⟩:=f1a y.natAbs x.natAbs (by omega) (by omega)
 refine Ev.from (max N (y.natAbs+1)) (fun n hn=>hN n (by omega) _ n (by omega)) ?_
 refine Ev.bind (b3n (by omega)) ?_
 refine Ev.bind (a7e 1 (by omega)) ?_
 rw [a4r ((Nat.gcd x.natAbs y.natAbs:Nat):Int) (Int.natAbs_natCast _) (fun hv=>by rw [a3p (by omega)])]
 exact Ev.step (b0c 0 _) (Ev.pure _)
theorem d4o{x y:Int}{k:Nat}(hx:Sm k x)(hy:Sm k y)(hk:k<536870912):Ev (fun n=>b1c n (toB x) (toB y)) (sg (x-y)):=by
 have lx:=a1k hx
 unfold b1c
 refine Ev.bind (a5d hx (by omega)) ?_
 refine Ev.bind (a:=false) (Ev.else rfl (Ev.bind (a5d hy (by omega)) (Ev.pure _))) ?_
 refine Ev.else rfl ?_
 by_cases h:sg x=sg y
 ·refine Ev.else (by show(sg x !=sg y)=false;rw [h];simp) ?_
  refine Ev.bind (c4f x.natAbs y.natAbs (by omega)) ?_
  refine(Ev.pure _).eq ?_
  show imul .i64 (sg x) _=_
  rw [b5v]
  rcases a0t x with⟨a,b⟩|⟨a,b⟩|⟨a,b⟩<;>rcases a0t y with⟨c,d⟩|⟨c,d⟩|⟨c,d⟩<;>rw [b,d]at h<;>(try omega)
  ·rw [b7i,b]
   rcases a0t (x-y)with⟨e,f⟩|⟨e,f⟩|⟨e,f⟩
   ·rw [f,a3p (by omega)];rfl
   ·rw [f,show(x.natAbs:Int)-y.natAbs=0 by omega];rfl
   ·rw [f,a4b (by omega)];rfl
  ·subst a c;rfl
  ·rw [b7i,b,Int.one_mul,show(x.natAbs:Int)-y.natAbs=x-y by omega]
 ·refine Ev.then (by show(sg x !=sg y)=true;simpa using h) ?_
  refine Ev.step (a:=sg (sg x-sg y)) (b8b 0 _ _) ?_
  refine(Ev.pure _).eq ?_
  rcases a0t x with⟨a,b⟩|⟨a,b⟩|⟨a,b⟩<;>rcases a0t y with⟨c,d⟩|⟨c,d⟩|⟨c,d⟩<;>rw [b,d]at h⊢<;>first
   |(exfalso;omega)
   |(rw [a4b (x:=x-y) (by omega)];decide)
   |(rw [a3p (x:=x-y) (by omega)];decide)
theorem e2y(x y:Int)(xs ys:List Int):decide (x::xs=y::ys)=(decide (x=y)&&decide (xs=ys)):=by
 by_cases h:x=y<;>by_cases h2:xs=ys<;>simp [h,h2]
end Go.Proofs.YthaegflpecbfgaaGreatDoor.D
namespace Go.Proofs.YthaegflpecbfgaaGreatDoor.D
open Go Rt M
theorem Of_L(n:Nat)(kont:List Int->Option Big):∀(u m:Nat)(acc:List Int),u<18446744073709551616->(dig u).length<m->acc.length+(dig u).length<1099511627776->big_Of_L1 n kont m (u:Int) acc=kont (acc++dig u):=by
 intro u
 induction u using Nat.strongRecOn with
 |ind u ih=>
  intro m acc hu hm ha
  obtain⟨m,rfl⟩:∃m',m=m'+1:=⟨m-1,by omega⟩
  rw [big_Of_L1_s]
  by_cases h:u=0
  ·subst h
   rw [dig_zero,List.append_nil];rfl
  ·have hd:=b3o h
   rw [hd]at hm ha
   simp only [List.length_cons]at hm ha
   rw [show decide (0<(u:Int))=true by simp;omega,cond_true,d4v (by omega) (by omega),a5f (by omega) (by omega),b8y (by simp;omega),Option.bind_some,e6c,Option.bind_some]
   have e1:(u:Int)/1048576=((u/1048576:Nat):Int):=by omega
   have e2:(u:Int) %1048576=((u %1048576:Nat):Int):=by omega
   rw [e1,e2,ih (u/1048576) (by omega) m _ (by omega) (by omega) (by simp;omega),hd]
   simp
theorem c9i{u:Nat}(h:u<18446744073709551616):(dig u).length<=4:=by
 have h1:Sm 4 (u:Int):=by unfold Sm;rw [Int.natAbs_natCast,show pw 4=1208925819614629174706176 by decide];omega
 have h2:=a1k h1
 rwa [Int.natAbs_natCast]at h2
theorem e6w{x:Int}(h1:-9223372036854775808<=x)(h2:x<=9223372036854775807):Ev (fun n=>b5i n x) (toB x):=by
 have hl:=c9i (u:=x.natAbs) (by omega)
 have hs:∀s:Int,Ev (fun n=>(a3h n s (dig x.natAbs)).bind fun v1=>some (⟨v1.Sign,v1.Digits⟩:Big)) (if x.natAbs=0 then⟨0,[]⟩else⟨s,dig x.natAbs⟩):=fun s=>
  Ev.bind (a7e s (by omega)) (Ev.pure _)
 by_cases hx:x<0
 ·refine Ev.from (g:=fun n=>(a3h n (-1) (dig x.natAbs)).bind fun v1=>some (⟨v1.Sign,v1.Digits⟩:Big)) 5 (fun n hn=> ?_) ((hs (-1)).eq (a4r x rfl (fun _=>(a4b hx).symm)))
  unfold b5i
  rw [show decide (x<0)=true by simpa using hx,cond_true,Option.bind_some]
  have e:IntKind.u64.wrap (0-IntKind.u64.wrap x)=(x.natAbs:Int):=by rw [b5e,b5e];omega
  show big_Of_L1 n _ n (IntKind.u64.wrap (0-IntKind.u64.wrap x)) []=_
  rw [e,Of_L n _ x.natAbs n [] (by omega) (by omega) (by simp;omega),List.nil_append]
 ·refine Ev.from (g:=fun n=>(a3h n 1 (dig x.natAbs)).bind fun v1=>some (⟨v1.Sign,v1.Digits⟩:Big)) 5 (fun n hn=> ?_) ((hs 1).eq (a4r x rfl (fun h=>(a3p (by omega)).symm)))
  unfold b5i
  rw [show decide (x<0)=false by simpa using hx,cond_false,Option.bind_some]
  have e:IntKind.u64.wrap x=(x.natAbs:Int):=by rw [b5e];omega
  show big_Of_L1 n _ n (IntKind.u64.wrap x) []=_
  rw [e,Of_L n _ x.natAbs n [] (by omega) (by omega) (by simp;omega),List.nil_append]
theorem e4l{x:Int}{i:Nat}(hi:i<=60)(h0:0<=x)(h1:x*2^i<18446744073709551616):shl .u64 x (i:Int)=some (x*2^i):=by
 unfold shl
 have h3:0<=x*2^i:=Int.mul_nonneg h0 (Int.le_of_lt (Int.pow_pos (by decide)))
 rw [if_neg (by omega),show min (i:Int).toNat IntKind.u64.bits=i by simp [IntKind.bits];omega,b5e]
 congr 1
 omega
theorem e5d{x y:Int}{i:Nat}(h0:0<=x)(h1:x<2^i)(h2:0<=y)(h3:x+y*2^i<18446744073709551616):ior .u64 x (y*2^i)=x+y*2^i:=by
 obtain⟨p,rfl⟩:=Int.eq_ofNat_of_zero_le h0
 obtain⟨q,rfl⟩:=Int.eq_ofNat_of_zero_le h2
 have h1':p<2^i:=by have:((p:Nat):Int)<((2^i:Nat):Int):=by simpa using h1
                    exact Int.ofNat_lt.1 this
 have e:(q:Int)*2^i=((2^i*q:Nat):Int):=by rw [Int.natCast_mul,Int.mul_comm];simp
 rw [e]at h3⊢
 unfold ior
 rw [BitVec.toNat_or,BitVec.toNat_ofInt,BitVec.toNat_ofInt,show IntKind.u64.bits=64 from rfl]
 have e1:((p:Int) %((2^64:Nat):Int)).toNat=p:=by omega
 have e2:(((2^i*q:Nat):Int) %((2^64:Nat):Int)).toNat=2^i*q:=by omega
 rw [e1,e2,Nat.or_comm,<-Nat.two_pow_add_eq_or_of_lt h1',b5e]
 omega
theorem pw_two:∀i,pw i=2^(20*i)
 |0=>rfl
 |i+1=>by rw [pw,pw_two i,Nat.mul_add,Int.pow_add,Int.mul_comm];rfl
theorem e9j(n:Nat)(a:Big)(kont:Int->Option (Int×Bool))(hr:InR a.Digits)(h4:a.Digits.length<=4):∀(us:List Int)(i m:Nat)(u:Int),a.Digits.drop i=us->us.length<m->0<=u->u<pw i->u<10376293541461622784->
 big_Int_L1 n a kont m u (i:Int)=if u+pw i*val us<10376293541461622784 then kont (u+pw i*val us)else some (0,false)
 | [],i,m+1,u,hd,_,h0,h1,h2=>by
  have hi:a.Digits.length<=i:=by simpa using hd
  rw [big_Int_L1_s,show decide ((i:Int)<(a.Digits.length:Int))=false by simp;omega,cond_false]
  simp only [val,Int.mul_zero,Int.add_zero]
  rw [if_pos h2]
 |d::us,i,m+1,u,hd,hm,h0,h1,h2=>by
  obtain⟨hix,hdt,hi⟩:=drop_cons hd
  have hdr:=hr d (List.mem_of_mem_drop (by rw [hd];simp:d∈a.Digits.drop i))
  have hir:InR us:=fun e he=>hr e (by rw [<-List.take_append_drop (i+1) a.Digits,hdt];exact List.mem_append_right _ he)
  rw [big_Int_L1_s,show decide ((i:Int)<(a.Digits.length:Int))=true by simp;omega,cond_true,hix,Option.bind_some]
  have hp:=pw_pos i
  have hval:u+pw i*val (d::us)=(u+d*pw i)+pw (i+1)*val us:=by simp only [val,pw];grind
  have hvus:0<=pw (i+1)*val us:=Int.mul_nonneg (Int.le_of_lt (pw_pos _)) (val_nonneg hir)
  have hpi:pw i<=pw 3:=pw_mono (by omega)
  rw [show pw 3=1152921504606846976 by decide]at hpi
  by_cases h8:i=3/\8<d
  ·obtain⟨rfl,h8⟩:=h8
   rw [show((((3:Nat):Int))==3)=true from rfl,cond_true,Option.bind_some,show decide (8<d)=true by simpa using h8,cond_true,hval,if_neg]
   rw [show pw 3=1152921504606846976 by decide]
   omega
  ·have e1:(bif((i:Int)==3)then some (decide (8<d))else some false)=some false:=by
    by_cases h3:i=3
    ·subst h3
     rw [show((((3:Nat):Int))==3)=true from rfl,cond_true,show decide (8<d)=false by simp;omega]
    ·rw [show((i:Int)==3)=false by simp;omega,cond_false]
   rw [e1,Option.bind_some,cond_false]
   have hq:u+d*pw i<10376293541461622784:=by
    rcases Nat.lt_or_ge i 3 with h3|h3
    ·have h5:pw (i+1)<=pw 3:=pw_mono (by omega)
     rw [show pw 3=1152921504606846976 by decide]at h5
     have h6:(d+1)*pw i<=1048576*pw i:=Int.mul_le_mul_of_nonneg_right (by omega) (Int.le_of_lt hp)
     simp only [pw]at h5
     rw [Int.add_mul,Int.one_mul]at h6
     omega
    ·have:i=3:=by omega
     subst this
     rw [show pw 3=1152921504606846976 by decide]at h1⊢
     omega
   have hq1:u+d*pw i<pw (i+1):=by
    have h6:(d+1)*pw i<=1048576*pw i:=Int.mul_le_mul_of_nonneg_right (by omega) (Int.le_of_lt hp)
    simp only [pw]
    rw [Int.add_mul,Int.one_mul]at h6
    omega
   have hq0:0<=d*pw i:=Int.mul_nonneg hdr.1 (Int.le_of_lt hp)
   have e2:imul .i64 20 (i:Int)=((20*i:Nat):Int):=by rw [a6w (by omega) (by omega)];omega
   have e3:IntKind.u64.wrap d=d:=by rw [b5e];omega
   rw [e2,e3,e4l (by omega) hdr.1 (by rw [<-pw_two];omega),Option.bind_some,e5d h0 (by rw [<-pw_two];exact h1) hdr.1 (by rw [<-pw_two];omega),<-pw_two]
   have e4:iadd .i64 (i:Int) 1=((i+1:Nat):Int):=by rw [a1s (by omega) (by omega)];omega
   rw [e4,e9j n a kont hr h4 us (i+1) m (u+d*pw i) hdt (by simp only [List.length_cons]at hm;omega) (by omega) hq1 hq,hval]
theorem f0d{x:Int}{k:Nat}(h:Sm k x)(hk:k<1099511627776):Ev (fun n=>c3x n (toB x)) (if-9223372036854775808<=x/\x<=9223372036854775807 then(x,true)else(0,false)):=by
 unfold c3x
 refine Ev.bind (a5d h hk) ?_
 by_cases hl:(dig x.natAbs).length<=4
 ·refine Ev.bind (a:=false) (Ev.else rfl ((Ev.pure _).eq (by show decide (4<((dig x.natAbs).length:Int))=false;simp;omega))) ?_
  refine Ev.else rfl ?_
  refine Ev.from (g:=fun _=>some (if-9223372036854775808<=x/\x<=9223372036854775807 then(x,true)else(0,false))) 5 (fun n hn=> ?_) (Ev.pure _)
  have h1:=e9j n (toB x) (fun(u2:Int)=>
   (bif decide ((toB x).Sign<0)then
    some (decide (u2<=9223372036854775808))
   else
    some false).bind fun v3=>
   bif v3 then
    some (IntKind.i64.wrap (IntKind.u64.wrap (0-u2)),true)
   else
    (bif decide (0<=(toB x).Sign)then
     some (decide (u2<9223372036854775808))
    else
     some false).bind fun v4=>
    bif v4 then
     some (IntKind.i64.wrap u2,true)
    else
     some (0,false)) (a2b x.natAbs) hl (dig x.natAbs) 0 n 0 rfl (by omega) (by decide) (by decide) (by decide)
  refine h1.trans ?_
  rw [a1l,show pw 0=1 from rfl,Int.one_mul,Int.zero_add]
  by_cases hb:(x.natAbs:Int)<10376293541461622784
  ·rw [if_pos hb]
   have hsx:(toB x).Sign=sg x:=rfl
   rw [hsx]
   rcases a0t x with⟨a,b⟩|⟨a,b⟩|⟨a,b⟩<;>rw [b]
   ·rw [show decide ((-1:Int)<0)=true from rfl,cond_true,Option.bind_some]
    by_cases hc:(x.natAbs:Int)<=9223372036854775808
    ·rw [show decide ((x.natAbs:Int)<=9223372036854775808)=true by simpa using hc,cond_true,if_pos (by omega)]
     congr 2
     rw [e3b,b5e];split<;>omega
    ·rw [show decide ((x.natAbs:Int)<=9223372036854775808)=false by simpa using hc,cond_false,if_neg (by omega)];rfl
   ·subst a;rfl
   ·rw [show decide ((1:Int)<0)=false from rfl,cond_false,Option.bind_some,cond_false,show decide ((0:Int)<=1)=true from rfl,cond_true,Option.bind_some]
    by_cases hc:(x.natAbs:Int)<9223372036854775808
    ·rw [show decide ((x.natAbs:Int)<9223372036854775808)=true by simpa using hc,cond_true,if_pos (by omega)]
     congr 2
     rw [a5f (by omega) (by omega)];omega
    ·rw [show decide ((x.natAbs:Int)<9223372036854775808)=false by simpa using hc,cond_false,if_neg (by omega)]
  ·rw [if_neg hb,if_neg (by omega)]
 ·refine Ev.bind (a:=true) (Ev.else rfl ((Ev.pure _).eq (by show decide (4<((dig x.natAbs).length:Int))=true;simp;omega))) ?_
  refine Ev.then rfl ((Ev.pure _).eq ?_)
  rw [if_neg]
  intro hx
  exact hl (c9i (by omega))
end Go.Proofs.YthaegflpecbfgaaGreatDoor.D
namespace Go.Proofs.YthaegflpecbfgaaGreatDoor.D
open Go Rt M
section
variable{β:Type}{r:β}{c d:Bool}{y:Nat->Option Bool}{f:Nat->Bool->Option β}
theorem guard{V:Bool}{rest:Nat->Option Bool}(h:V=false->Ev rest true):Ev (fun n=>bif V then some true else rest n) true:=by
 cases V with
 |true=>exact Ev.then rfl (Ev.pure _)
 |false=>exact Ev.else rfl (h rfl)
end
theorem toB_one:toB 1=⟨1,[1]⟩:=by unfold toB;rw [show(1:Int).natAbs=1 from rfl,dig_one];rfl
theorem Of1_ev:Ev (fun n=>b5i n 1) (toB 1):=⟨200,fun n hn=>by
 obtain⟨m,rfl⟩:=Nat.le.dest hn
 rw [Nat.add_comm,toB_one]
 exact(show b5i (m+200) 1=some ⟨1,[1]⟩ by kernel_rfl)⟩
theorem b4c(x:Int):(sg x==0)=decide (x=0):=by rcases a0t x with h|h|h<;>rw [h.2]<;>simp<;>omega
end Go.Proofs.YthaegflpecbfgaaGreatDoor.D
namespace Go.Proofs.YthaegflpecbfgaaGreatDoor.D
open Go Rt M
theorem d9k(n:Nat)(a b:Big)(kont:Option Bool)(hl:a.Digits.length=b.Digits.length)(hla:a.Digits.length<1099511627776):∀(us:List Int)(i m:Nat),a.Digits.drop i=us->us.length<m->ref05_SameBig_L1 n a b kont m (i:Int)=bif decide (us=b.Digits.drop i)then kont else some false
 | [],i,m+1,hd,_=>by
  rw [ref05_SameBig_L1_s]
  have:=drop_nil hd
  have hb:b.Digits.drop i= []:=List.drop_eq_nil_of_le (by omega)
  rw [show decide ((i:Int)<(a.Digits.length:Int))=false by simp;omega,hb];rfl
 |x::xs,i,m+1,hd,hm=>by
  rw [ref05_SameBig_L1_s]
  obtain⟨f1,f2,f3⟩:=drop_cons hd
  have hdb:b.Digits.drop i=b.Digits[i]::b.Digits.drop (i+1):=List.drop_eq_getElem_cons (by omega)
  rw [show decide ((i:Int)<(a.Digits.length:Int))=true by simp;omega,cond_true,f1,Option.bind_some,(drop_cons hdb).1,Option.bind_some,hdb]
  by_cases h:x=b.Digits[i]
  ·rw [show(x !=b.Digits[i])=false by simp [h],cond_false,inc64 (by omega),d9k n a b kont hl hla xs (i+1) m f2 (by simpa using hm),e2y,show decide (x=b.Digits[i])=true by simpa using h,Bool.true_and]
  ·rw [show(x !=b.Digits[i])=true by simpa using h,cond_true,e2y,show decide (x=b.Digits[i])=false by simpa using h];rfl
 |_,_,0,_,h=>by omega
theorem d3k{a b:Big}(hl:a.Digits.length<1099511627776):Ev (fun n=>a7l n a b) (decide (a=b)):=by
 unfold a7l
 obtain⟨s,l⟩:=a
 obtain⟨t,k⟩:=b
 by_cases h:s=t
 ·subst h
  by_cases hlen:l.length=k.length
  ·refine Ev.step (a:=false) (by simp [hlen]) ?_
   refine Ev.else rfl ⟨l.length+1,fun n hn=> ?_⟩
   have h1:=d9k n ⟨s,l⟩ ⟨s,k⟩ (some true) hlen hl l 0 n rfl (by omega)
   rw [show((0:Nat):Int)=0 from rfl,List.drop_zero]at h1
   dsimp only at h1⊢
   rw [h1]
   by_cases h2:l=k
   ·simp [h2]
   ·simp [h2]
  ·refine Ev.step (a:=true) (by simp;omega) ?_
   have:l≠k:=fun e=>hlen (by rw [e])
   exact Ev.then rfl ((Ev.pure _).eq (by simp [this]))
 ·refine Ev.step (a:=true) (by rw [show(s !=t)=true by simpa using h,cond_true]) ?_
  exact Ev.then rfl ((Ev.pure _).eq (by simp [h]))
end Go.Proofs.YthaegflpecbfgaaGreatDoor.D
namespace Go.Proofs.YthaegflpecbfgaaGreatDoor.D
open Go Rt M
def toF(r:Rat):Frac:=⟨toB r.num,toB (r.den:Int)⟩
def SmF(k:Nat)(r:Rat):Prop:=Sm k r.num/\Sm k (r.den:Int)
def zeroF:Frac:=⟨⟨0,[]⟩,⟨0,[]⟩⟩
theorem c6h(r:Rat):0<(r.den:Int):=by have:=r.den_nz;omega
theorem SmF.mono{j k:Nat}{r:Rat}(h:SmF j r)(hk:j<=k):SmF k r:=⟨h.1.mono hk,h.2.mono hk⟩
theorem b3e{p q:Int}(hq:0<q):(Rat.divInt p q).num=p/((Nat.gcd p.natAbs q.natAbs:Nat):Int)/\((Rat.divInt p q).den:Int)=q/((Nat.gcd p.natAbs q.natAbs:Nat):Int):=by
 obtain⟨d,rfl⟩:=Int.eq_ofNat_of_zero_le (Int.le_of_lt hq)
 have hd:d≠0:=by omega
 rw [Rat.divInt_ofNat,Rat.mkRat_def,dif_neg hd,Rat.normalize_eq,Int.natAbs_natCast]
 exact⟨rfl,Int.natCast_ediv _ _⟩
theorem c6j(a b:Rat):a+b=Rat.divInt (a.num*b.den+b.num*a.den) (a.den*b.den):=by
 conv=>lhs;rw [<-Rat.num_divInt_den a,<-Rat.num_divInt_den b]
 rw [Rat.divInt_add_divInt _ _ (by have:=c6h a;omega) (by have:=c6h b;omega)]
theorem d7r(a b:Rat):a*b=Rat.divInt (a.num*b.num) (a.den*b.den):=by
 conv=>lhs;rw [<-Rat.num_divInt_den a,<-Rat.num_divInt_den b]
 rw [Rat.divInt_mul_divInt]
theorem e0n(a b:Rat):a/b=Rat.divInt (a.num*b.den) (a.den*b.num):=by
 rw [Rat.div_def]
 conv=>lhs;rw [<-Rat.num_divInt_den a,<-Rat.num_divInt_den b]
 rw [Rat.inv_divInt,Rat.divInt_mul_divInt]
theorem d2i{x y:Int}(hy:0<y):dq x y=x/y:=by
 obtain⟨h1,h2,h3⟩:=f1b (x:=x) (y:=y) (by omega)
 have h4:0<=dr x y/\dr x y<y:=by
  rcases h2 with h|h
  ·omega
  ·rw [a3p hy]at h
   have:=a0t (dr x y)
   omega
 generalize dq x y=q at*
 generalize dr x y=r at*
 rw [<-h1,Int.add_comm,Int.add_mul_ediv_right _ _ (by omega),Int.ediv_eq_zero_of_lt h4.1 h4.2];omega
theorem c7u{x y:Int}{k:Nat}(h:Sm k x):Sm k (x/y):=h.le (Int.natAbs_ediv_le_natAbs x y)
theorem b7p(p q:Int):Rat.divInt p q=Rat.divInt (-p) (-q):=(Rat.neg_divInt_neg p q).symm
theorem c0r{p q:Int}{k:Nat}(hp:Sm k p)(hq:Sm k q)(h0:q≠0):SmF k (Rat.divInt p q):=by
 by_cases hn:q<0
 ·rw [b7p]
  obtain⟨e1,e2⟩:=b3e (p:=-p) (q:=-q) (by omega)
  exact⟨by rw [e1];exact c7u hp.neg,by rw [e2];exact c7u hq.neg⟩
 ·obtain⟨e1,e2⟩:=b3e (p:=p) (q:=q) (by omega)
  exact⟨by rw [e1];exact c7u hp,by rw [e2];exact c7u hq⟩
theorem c0v{x y:Int}(hx:x≠0)(hy:y≠0):x*y≠0:=Int.mul_ne_zero hx hy
theorem b2m(r:Rat):(r.den:Int)≠0:=by have:=c6h r;omega
theorem SmF.add{j k:Nat}{a b:Rat}(ha:SmF j a)(hb:SmF k b):SmF (j+k+1) (a+b):=by
 rw [c6j]
 exact c0r ((ha.1.mul hb.2).add ((hb.1.mul ha.2).mono (by omega))) ((ha.2.mul hb.2).mono (by omega)) (c0v (b2m a) (b2m b))
theorem SmF.mul{j k:Nat}{a b:Rat}(ha:SmF j a)(hb:SmF k b):SmF (j+k) (a*b):=by
 rw [d7r]
 exact c0r (ha.1.mul hb.1) (ha.2.mul hb.2) (c0v (b2m a) (b2m b))
theorem SmF.neg{k:Nat}{a:Rat}(ha:SmF k a):SmF k (-a):=⟨by rw [Rat.neg_num];exact ha.1.neg,by rw [Rat.neg_den];exact ha.2⟩
theorem SmF.sub{j k:Nat}{a b:Rat}(ha:SmF j a)(hb:SmF k b):SmF (j+k+1) (a-b):=by rw [Rat.sub_eq_add_neg];exact ha.add hb.neg
def ofB(a:Big):Int:=a.Sign*val a.Digits
theorem b6a(x:Int):ofB (toB x)=x:=by unfold ofB toB;rw [a1l,c4g]
def a8p(f:Frac):Bool:=a9e f.P&&a9e f.Q&&(f.Q.Sign==1)&&(Nat.gcd (ofB f.P).natAbs (ofB f.Q).natAbs==1)
theorem c0j(r:Rat):a8p (toF r)=true:=by
 unfold a8p toF
 simp only
 rw [b6m,b6m,b6a,b6a]
 have h1:(toB (r.den:Int)).Sign=1:=a3p (c6h r)
 rw [h1,Int.natAbs_natCast]
 have h2:Nat.gcd r.num.natAbs r.den=1:=r.reduced
 rw [h2];rfl
theorem c7l{f:Frac}(h:a8p f=true):∃r,f=toF r:=by
 obtain⟨P,Q⟩:=f
 unfold a8p at h
 simp only [Bool.and_eq_true,beq_iff_eq]at h
 obtain⟨⟨⟨h1,h2⟩,h3⟩,h4⟩:=h
 obtain⟨p,rfl⟩:=a8s h1
 obtain⟨q,rfl⟩:=a8s h2
 rw [b6a,b6a]at h4
 have h5:0<q:=by have h6:sg q=1:=h3;have:=a0t q;omega
 obtain⟨d,rfl⟩:=Int.eq_ofNat_of_zero_le (Int.le_of_lt h5)
 refine⟨⟨p,d,by omega,?_⟩,rfl⟩
 rwa [Int.natAbs_natCast]at h4
theorem e8z{x:Int}{k:Nat}(h:Sm k x)(hk:k<1099511627776):Ev (fun n=>b9u n (toB x)) (decide (x=1)):=by
 unfold b9u
 refine Ev.bind (f0d h hk) ?_
 by_cases hr:-9223372036854775808<=x/\x<=9223372036854775807
 ·rw [if_pos hr]
  exact Ev.bind (a:=decide (x=1)) (Ev.then rfl ((Ev.pure _).eq (by by_cases hx:x=1<;>simp [hx]))) (Ev.pure _)
 ·rw [if_neg hr]
  refine Ev.bind (a:=decide (x=1)) (Ev.else rfl ((Ev.pure _).eq ?_)) (Ev.pure _)
  rw [decide_eq_false (by omega)]
theorem c6l{p q:Int}{k:Nat}(hp:Sm k p)(hq:Sm k q):Sm k ((Nat.gcd p.natAbs q.natAbs:Nat):Int):=by
 by_cases h0:p.natAbs=0
 ·rw [h0,Nat.gcd_zero_left];exact hq.le (by omega)
 ·exact hp.le (by have:=Nat.gcd_le_left q.natAbs (Nat.pos_of_ne_zero h0);omega)
theorem c8p{f:Frac}{k:Nat}(hp:f.P.Digits.length<=k)(hq:f.Q.Digits.length<=k)(hk:k<8388608):Ev (fun n=>a2f n f) (a8p f):=by
 unfold a2f
 refine Ev.bind (c7m (a:=f.P) (by omega)) ?_
 cases hP:a9e f.P with
 |false=>exact Ev.bind (a:=true) (Ev.then rfl (Ev.pure _)) (Ev.bind (a:=true) (Ev.then rfl (Ev.pure _)) (Ev.then rfl ((Ev.pure _).eq (by unfold a8p;rw [hP];rfl))))
 |true=>
  refine Ev.bind (a:= !a9e f.Q) (Ev.else rfl (Ev.bind (c7m (a:=f.Q) (by omega)) (Ev.pure _))) ?_
  cases hQ:a9e f.Q with
  |false=>exact Ev.bind (a:=true) (Ev.then rfl (Ev.pure _)) (Ev.then rfl ((Ev.pure _).eq (by unfold a8p;rw [hP,hQ];rfl)))
  |true=>
   refine Ev.bind (a:=f.Q.Sign !=1) (Ev.else rfl (Ev.pure _)) ?_
   by_cases hs:f.Q.Sign=1
   ·refine Ev.else (by simp [hs]) ?_
    obtain⟨P,Q⟩:=f
    obtain⟨p,rfl⟩:=a8s hP
    obtain⟨q,rfl⟩:=a8s hQ
    have hp':Sm k p:=a6n hp
    have hq':Sm k q:=a6n hq
    refine Ev.bind (e3x hp' hq' hk) ?_
    refine Ev.bind (a:=decide (Nat.gcd p.natAbs q.natAbs=1)) (Ev.then rfl (Ev.bind ((e8z (c6l hp' hq') (by omega)).eq (s:=decide (Nat.gcd p.natAbs q.natAbs=1)) ?_) (Ev.pure _))) ((Ev.pure _).eq ?_)
    ·by_cases hg:Nat.gcd p.natAbs q.natAbs=1
     ·rw [decide_eq_true hg,decide_eq_true (by omega)]
     ·rw [decide_eq_false hg,decide_eq_false (by omega)]
    ·unfold a8p
     rw [hP,hQ,b6a,b6a,hs]
     by_cases hg:Nat.gcd p.natAbs q.natAbs=1<;>simp [hg]
   ·refine Ev.then (by simpa using hs) ((Ev.pure _).eq ?_)
    unfold a8p
    rw [hP,hQ]
    simp [hs]
theorem b2q{r:Rat}{k:Nat}(h:SmF k r):(toF r).P.Digits.length<=k/\(toF r).Q.Digits.length<=k:=⟨a1k h.1,a1k h.2⟩
theorem a4d{r:Rat}{k:Nat}(h:SmF k r)(hk:k<8388608):Ev (fun n=>a2f n (toF r)) true:=(c8p (b2q h).1 (b2q h).2 hk).eq (c0j r)
section
variable{p q:Int}{k:Nat}(hp:Sm k p)(hq:Sm k q)(hk:k<8388608)
include hp hq hk
theorem d3f(h0:0<q):Ev (fun n=>
 (b5q n (toB p) (toB q)).bind fun v8=>
 (b2t n (toB p) (⟨v8.1.Sign,v8.1.Digits⟩:Big)).bind fun v9=>
 (b2t n (toB q) (⟨v8.1.Sign,v8.1.Digits⟩:Big)).bind fun v10=>
 some ((⟨(⟨v9.1.Sign,v9.1.Digits⟩:Big),(⟨v10.1.Sign,v10.1.Digits⟩:Big)⟩:Frac),(0:Int))) (toF (Rat.divInt p q),0):=by
 have hg:0<Nat.gcd p.natAbs q.natAbs:=Nat.gcd_pos_of_pos_right _ (by omega)
 have hgs:=c6l hp hq
 obtain⟨e1,e2⟩:=b3e (p:=p) h0
 refine Ev.bind (e3x hp hq hk) ?_
 refine Ev.bind (e3q hp hgs hk (by omega)) ?_
 refine Ev.bind (e3q hq hgs hk (by omega)) ((Ev.pure _).eq ?_)
 unfold toF
 rw [e1,e2,<-d2i (by omega),<-d2i (by omega)]
theorem c6p(h0:q≠0):Ev (fun n=>b2c n (toB p) (toB q)) (toF (Rat.divInt p q),0):=by
 unfold b2c
 refine Ev.bind (a5d hp (by omega)) ?_
 refine Ev.bind (a:=false) (Ev.else rfl (Ev.bind (a5d hq (by omega)) (Ev.pure _))) ?_
 refine Ev.else rfl ?_
 refine Ev.else (by show(sg q==0)=false;rw [b4c];simpa using h0) ?_
 by_cases hn:q<0
 ·refine Ev.then (by show decide (sg q<0)=true;rw [a4b hn];rfl) ?_
  refine Ev.bind (c5i hp (by omega)) (Ev.bind (c5i hq (by omega)) ?_)
  rw [b7p]
  exact d3f hp.neg hq.neg hk (by omega)
 ·refine Ev.else (by show decide (sg q<0)=false;rw [a3p (by omega)];rfl) ?_
  exact d3f hp hq hk (by omega)
omit hk in
theorem b3x(hk:k<268435456):Ev (fun n=>a3m n (toB p) (toB q)) (toB (p*q)):=by
 unfold a3m
 exact Ev.bind (f0s hp hq hk) (Ev.pure _)
end
theorem c2j{x:Int}{k:Nat}(h:Sm k x)(hk:k<1073741824):Ev (fun n=>b1e n (toB x)) (toB x):=by
 unfold b1e
 exact Ev.bind (c5i h hk) (Ev.bind (c5i h.neg hk) ((Ev.pure _).eq (by rw [Int.neg_neg])))
section
variable{a b:Rat}{j k:Nat}(ha:SmF j a)(hb:SmF k b)(hk:j+k<4000000)
include ha hb hk
theorem times_PQ:Ev (fun n=>a3m n (⟨(toF a).P.Sign,(toF a).P.Digits⟩:Big) (⟨(toF b).Q.Sign,(toF b).Q.Digits⟩:Big)) (toB (a.num*b.den)):=
 b3x (ha.1.mono (by omega:j<=j+k)) (hb.2.mono (by omega:k<=j+k)) (by omega)
theorem times_QP:Ev (fun n=>a3m n (⟨(toF a).Q.Sign,(toF a).Q.Digits⟩:Big) (⟨(toF b).P.Sign,(toF b).P.Digits⟩:Big)) (toB (a.den*b.num)):=
 b3x (ha.2.mono (by omega:j<=j+k)) (hb.1.mono (by omega:k<=j+k)) (by omega)
theorem times_PP:Ev (fun n=>a3m n (⟨(toF a).P.Sign,(toF a).P.Digits⟩:Big) (⟨(toF b).P.Sign,(toF b).P.Digits⟩:Big)) (toB (a.num*b.num)):=
 b3x (ha.1.mono (by omega:j<=j+k)) (hb.1.mono (by omega:k<=j+k)) (by omega)
theorem times_QQ:Ev (fun n=>a3m n (⟨(toF a).Q.Sign,(toF a).Q.Digits⟩:Big) (⟨(toF b).Q.Sign,(toF b).Q.Digits⟩:Big)) (toB ((a.den:Int)*b.den)):=
 b3x (ha.2.mono (by omega:j<=j+k)) (hb.2.mono (by omega:k<=j+k)) (by omega)
end
theorem e7g(b:Rat):toF (-b)=⟨toB (-b.num),toB (b.den:Int)⟩:=rfl
section
variable{a b:Rat}{j k:Nat}(ha:SmF j a)(hb:SmF k b)(hk:j+k<4000000)
include ha hb hk
theorem FAdd_ev:Ev (fun n=>b2i n (toF a) (toF b)) (toF (a+b),0):=by
 have m1:Sm (j+k+1) (a.num*b.den):=(ha.1.mul hb.2).mono (by omega)
 have m2:Sm (j+k+1) (b.num*a.den):=(hb.1.mul ha.2).mono (by omega)
 have m3:Sm (j+k+1) ((a.den:Int)*b.den):=(ha.2.mul hb.2).mono (by omega)
 have m4:Sm (j+k+1) (a.num*b.den+b.num*a.den):=(ha.1.mul hb.2).add ((hb.1.mul ha.2).mono (by omega))
 unfold b2i
 refine Ev.bind (a4d ha (by omega)) ?_
 refine Ev.bind (a:=false) (Ev.else rfl (Ev.bind (a4d hb (by omega)) (Ev.pure _))) ?_
 refine Ev.else rfl ?_
 refine Ev.bind (a:=(sg (a.num*b.den+b.num*a.den),dig (a.num*b.den+b.num*a.den).natAbs)) ?_ ?_
 ·refine Ev.bind (times_PQ ha hb hk) ?_
  refine Ev.bind (times_PQ hb ha (by omega)) ?_
  exact Ev.bind (e9w m1 m2 (by omega)) (Ev.pure _)
 ·refine Ev.bind (times_QQ ha hb hk) ?_
  refine Ev.bind (c6p m4 m3 (by omega) (c0v (b2m a) (b2m b))) ((Ev.pure _).eq ?_)
  rw [c6j]
theorem FMul_ev:Ev (fun n=>b3l n (toF a) (toF b)) (toF (a*b),0):=by
 unfold b3l
 refine Ev.bind (a4d ha (by omega)) ?_
 refine Ev.bind (a:=false) (Ev.else rfl (Ev.bind (a4d hb (by omega)) (Ev.pure _))) ?_
 refine Ev.else rfl ?_
 refine Ev.bind (times_PP ha hb hk) ?_
 refine Ev.bind (times_QQ ha hb hk) ?_
 refine Ev.bind (c6p (ha.1.mul hb.1) (ha.2.mul hb.2) (by omega) (c0v (b2m a) (b2m b))) ((Ev.pure _).eq ?_)
 rw [d7r]
theorem FSub_ev:Ev (fun n=>b9i n (toF a) (toF b)) (toF (a-b),0):=by
 unfold b9i
 refine Ev.bind (a4d ha (by omega)) ?_
 refine Ev.bind (a:=false) (Ev.else rfl (Ev.bind (a4d hb (by omega)) (Ev.pure _))) ?_
 refine Ev.else rfl ?_
 refine Ev.bind (c5i hb.1 (by omega)) ?_
 have h:=FAdd_ev ha hb.neg hk
 rw [e7g,<-Rat.sub_eq_add_neg]at h
 exact Ev.bind h (Ev.pure _)
theorem e5a(h0:b.num≠0):Ev (fun n=>b9b n (toF a) (toF b)) (toF (a/b),0):=by
 unfold b9b
 refine Ev.bind (a4d ha (by omega)) ?_
 refine Ev.bind (a:=false) (Ev.else rfl (Ev.bind (a4d hb (by omega)) (Ev.pure _))) ?_
 refine Ev.else rfl ?_
 refine Ev.else (by show(sg b.num==0)=false;rw [b4c];simpa using h0) ?_
 refine Ev.bind (times_PQ ha hb hk) ?_
 refine Ev.bind (times_QP ha hb hk) ?_
 refine Ev.bind (c6p (ha.1.mul hb.2) (ha.2.mul hb.1) (by omega) (c0v (b2m a) h0)) ((Ev.pure _).eq ?_)
 rw [e0n]
end
def cmpQ(a b:Rat):Int:=sg (a.num*b.den-b.num*a.den)
theorem e6x{a b:Rat}(h:a<b):cmpQ a b=-1:=by
 have:=Rat.lt_iff a b
 exact a4b (by have:=this.1 h;omega)
theorem e5j{a b:Rat}(h:b<a):cmpQ a b=1:=by
 have:=Rat.lt_iff b a
 exact a3p (by have:=this.1 h;omega)
theorem d7u(a:Rat):cmpQ a a=0:=by unfold cmpQ;rw [Int.sub_self];rfl
theorem b3g(a b:Rat):(a<b/\cmpQ a b=-1)∨(a=b/\cmpQ a b=0)∨(b<a/\cmpQ a b=1):=by
 by_cases h:a<b
 ·exact .inl ⟨h,e6x h⟩
 ·by_cases h2:b<a
  ·exact .inr (.inr ⟨h2,e5j h2⟩)
  ·have e:a=b:=Rat.le_antisymm (Rat.not_lt.1 h2) (Rat.not_lt.1 h)
   exact .inr (.inl ⟨e,by rw [e];exact d7u b⟩)
section
variable{a b:Rat}{j k:Nat}(ha:SmF j a)(hb:SmF k b)(hk:j+k<4000000)
include ha hb hk
theorem FCompare_ev:Ev (fun n=>a7h n (toF a) (toF b)) (cmpQ a b):=by
 unfold a7h
 refine Ev.bind (a4d ha (by omega)) ?_
 refine Ev.bind (a:=false) (Ev.else rfl (Ev.bind (a4d hb (by omega)) (Ev.pure _))) ?_
 refine Ev.else rfl ?_
 refine Ev.bind (times_PQ ha hb hk) ?_
 refine Ev.bind (times_PQ hb ha (by omega)) ?_
 exact Ev.bind (d4o (ha.1.mul hb.2) ((hb.1.mul ha.2).mono (by omega)) (by omega)) (Ev.pure _)
theorem c5x(s:Int)(hs:s=1∨s=-1):Ev (fun n=>a9r n (toF a) (toF b) s) (toF (if cmpQ a b*s<0 then b else a),0):=by
 unfold a9r
 refine Ev.bind (a4d ha (by omega)) ?_
 refine Ev.bind (a:=false) (Ev.else rfl (Ev.bind (a4d hb (by omega)) (Ev.pure _))) ?_
 refine Ev.else rfl ?_
 refine Ev.bind (FCompare_ev ha hb hk) ?_
 have hr:=c1w (a.num*b.den-b.num*a.den)
 have e:imul .i64 (cmpQ a b) s=cmpQ a b*s:=by
  have h1:-1<=cmpQ a b:=hr.1
  have h2:cmpQ a b<=1:=hr.2
  exact a6w (by rcases hs with rfl|rfl<;>omega) (by rcases hs with rfl|rfl<;>omega)
 rw [e]
 by_cases h:cmpQ a b*s<0
 ·rw [if_pos h]
  refine Ev.bind (Ev.then (decide_eq_true h) (Ev.pure _)) ?_
  exact Ev.bind (c2j hb.1 (by omega)) (Ev.bind (c2j hb.2 (by omega)) (Ev.pure _))
 ·rw [if_neg h]
  refine Ev.bind (Ev.else (decide_eq_false h) (Ev.pure _)) ?_
  exact Ev.bind (c2j ha.1 (by omega)) (Ev.bind (c2j ha.2 (by omega)) (Ev.pure _))
theorem FMin_ev:Ev (fun n=>b9v n (toF a) (toF b)) (toF (if b<a then b else a),0):=by
 unfold b9v
 refine Ev.bind (c5x ha hb hk (-1) (.inr rfl)) ((Ev.pure _).eq ?_)
 rcases b3g a b with⟨h,e⟩|⟨h,e⟩|⟨h,e⟩
 ·rw [e,if_neg (by decide),if_neg (by grind)]
 ·rw [e,if_neg (by decide),if_neg (by grind)]
 ·rw [e,if_pos (by decide),if_pos h]
theorem FMax_ev:Ev (fun n=>b6n n (toF a) (toF b)) (toF (if a<b then b else a),0):=by
 unfold b6n
 refine Ev.bind (c5x ha hb hk 1 (.inl rfl)) ((Ev.pure _).eq ?_)
 rcases b3g a b with⟨h,e⟩|⟨h,e⟩|⟨h,e⟩
 ·rw [e,if_pos (by decide),if_pos h]
 ·rw [e,if_neg (by decide),if_neg (by grind)]
 ·rw [e,if_neg (by decide),if_neg (by grind)]
end
section
variable{a:Rat}{k:Nat}(ha:SmF k a)(hk:k<4000000)
include ha hk
theorem FNeg_ev:Ev (fun n=>b9o n (toF a)) (toF (-a)):=by
 unfold b9o
 refine Ev.bind (a4d ha (by omega)) (Ev.else rfl ?_)
 exact Ev.bind (c5i ha.1 (by omega)) (Ev.bind (c2j ha.2 (by omega)) (Ev.pure _))
theorem FSign_ev:Ev (fun n=>b2a n (toF a)) (sg a.num):=by
 unfold b2a
 exact Ev.bind (a4d ha (by omega)) (Ev.else rfl (Ev.pure _))
end
theorem b5n{x:Int}(h1:-9223372036854775808<=x)(h2:x<=9223372036854775807):Ev (fun n=>a3q n x) (toF (x:Rat)):=by
 unfold a3q
 refine Ev.bind (e6w h1 h2) (Ev.bind Of1_ev ((Ev.pure _).eq ?_))
 unfold toF
 rw [Rat.num_intCast,Rat.den_intCast];rfl
theorem c8y{f g:Frac}(hp:f.P.Digits.length<1099511627776)(hq:f.Q.Digits.length<1099511627776):Ev (fun n=>a6b n f g) (decide (f=g)):=by
 unfold a6b
 refine Ev.bind (d3k (a:=f.P) (b:=g.P) hp) ?_
 obtain⟨P,Q⟩:=f
 obtain⟨P',Q'⟩:=g
 refine Ev.bind (a:=decide ((⟨P,Q⟩:Frac)=⟨P',Q'⟩)) ?_ (Ev.pure _)
 by_cases h:P=P'
 ·subst h
  refine Ev.then (by simp) (Ev.bind (d3k (a:=Q) (b:=Q') hq) ((Ev.pure _).eq (by simp)))
 ·exact Ev.else (by simpa using h) ((Ev.pure _).eq (by simp [h]))
end Go.Proofs.YthaegflpecbfgaaGreatDoor.D
namespace Go.Proofs.YthaegflpecbfgaaGreatDoor.D
open Go Rt M
theorem f1i(f:Frac)(k:Int):Ev (fun n=>b1k n f k) (decide ((f.P.Digits.length:Int)<=k)&&decide ((f.Q.Digits.length:Int)<=k)):=by
 refine Ev.all fun n=> ?_
 unfold b1k
 cases decide ((f.P.Digits.length:Int)<=k)<;>rfl
theorem d6p{f:Frac}{k:Nat}(h:(decide ((f.P.Digits.length:Int)<=k)&&decide ((f.Q.Digits.length:Int)<=k))=true):f.P.Digits.length<=k/\f.Q.Digits.length<=k:=by
 simpa using h
theorem e3h{f:Frac}{k:Nat}(h:f.P.Digits.length<=k/\f.Q.Digits.length<=k)(hr:a8p f=true):∃r,f=toF r/\SmF k r:=by
 obtain⟨r,rfl⟩:=c7l hr
 exact⟨r,rfl,a6n h.1,a6n h.2⟩
end Go.Proofs.YthaegflpecbfgaaGreatDoor.D
namespace Go.Proofs.YthaegflpecbfgaaGreatDoor.D
open Go Rt M
theorem sm01{k:Nat}{x:Int}(h:-1048576<x)(h2:x<1048576)(hk:1<=k):Sm k x:=Sm.mono (k:=1) (by unfold Sm;rw [show pw 1=1048576 by decide];omega) hk
theorem c7t{k:Nat}{x:Int}(h:Sm k x)(hk:1<=k):SmF k (x:Rat):=⟨by rw [Rat.num_intCast];exact h,by rw [Rat.den_intCast];exact sm01 (by decide) (by decide) hk⟩
end Go.Proofs.YthaegflpecbfgaaGreatDoor.D
namespace Go.Proofs.YthaegflpecbfgaaGreatDoor.D
open Go Rt M
theorem e3n(r:Rat):sg r.num=cmpQ r 0:=by
 unfold cmpQ
 congr 1
 show r.num=r.num*1-0*r.den
 omega
theorem d4x(z:Int):Rat.divInt z 1=(z:Rat):=by
 obtain⟨e1,e2⟩:=b3e (p:=z) (q:=1) (by decide)
 rw [show(1:Int).natAbs=1 from rfl,Nat.gcd_one_right]at e1 e2
 refine Rat.ext ?_ ?_
 ·rw [e1,Rat.num_intCast];exact Int.ediv_one z
 ·rw [Rat.den_intCast]
  have:((Rat.divInt z 1).den:Int)=1:=by rw [e2];rfl
  omega
end Go.Proofs.YthaegflpecbfgaaGreatDoor.D
namespace Go.Proofs.YthaegflpecbfgaaGreatDoor.Fe
open Go Rt M Ta Tp D
structure Env where
 lf:Rt.Bs->Int
 wf:Rt.Bs->Rat
 pers:Int
 flats:Int
def two(o:Int)(a b:Rat):Rat:=
 if o=5 then a+b else if o=6 then a-b else if o=7 then a*b else if o=8 then a/b else if o=9 then(if b<a then b else a)else if o=10 then(if a<b then b else a)else 0
def rel(o:Int)(a b:Rat×Bool):Bool:=
 if o=12 then decide (a.1<b.1)else if o=13 then decide (a.1=b.1)else if o=15 then a.2&&b.2 else a.2||b.2
def d1j(E:Env)(o n:Int)(s:Rt.Bs):List (Rat×Bool)->Rat×Bool
 | []=>(if o=0 then(n:Rat)else if o=1 then(E.lf s:Rat)else if o=2 then(E.pers:Rat)else if o=3 then(E.flats:Rat)else E.wf s,false)
 | [c]=>(0, !c.2)
 | [a,b]=>(two o a.1 b.1,rel o a b)
 |c::a::b::_=>(if c.2=true then a.1 else b.1,false)
mutual
def vl(E:Env):M.Expr->Rat×Bool
 |⟨o,n,s,l⟩=>d1j E o n s (vls E l)
def vls(E:Env):List M.Expr->List (Rat×Bool)
 | []=> []
 |x::l=>vl E x::vls E l
 end
def num(E:Env)(x:M.Expr):Rat:=(vl E x).1
def tru(E:Env)(x:M.Expr):Bool:=(vl E x).2
section
variable(E:Env)(n:Int)(s:Rt.Bs)(o:Int)(a b c:M.Expr)
theorem num_num:num E ⟨0,n,s,[]⟩=(n:Rat):=rfl
theorem num_lifts:num E ⟨1,n,s,[]⟩=(E.lf s:Rat):=rfl
theorem num_pers:num E ⟨2,n,s,[]⟩=(E.pers:Rat):=rfl
theorem num_flats:num E ⟨3,n,s,[]⟩=(E.flats:Rat):=rfl
theorem num_wgt:num E ⟨4,n,s,[]⟩=E.wf s:=rfl
theorem num_two:num E ⟨o,n,s,[a,b]⟩=two o (num E a) (num E b):=rfl
theorem tru_not:tru E ⟨o,n,s,[a]⟩= !tru E a:=rfl
theorem tru_two:tru E ⟨o,n,s,[a,b]⟩=rel o (vl E a) (vl E b):=rfl
theorem num_ite:num E ⟨o,n,s,[c,a,b]⟩=if tru E c=true then num E a else num E b:=rfl
end
theorem e7c(a b:Rat):two 6 a b=a-b:=rfl
theorem d7b(a b:Rat):two 7 a b=a*b:=rfl
theorem e6b(a b:Rat):two 8 a b=a/b:=rfl
theorem d7i(a b:Rat):two 9 a b=if b<a then b else a:=rfl
theorem d8d(a b:Rat):two 10 a b=if a<b then b else a:=rfl
theorem c6m(a b:Rat×Bool):rel 12 a b=decide (a.1<b.1):=rfl
theorem d5u(a b:Rat×Bool):rel 13 a b=decide (a.1=b.1):=rfl
def look{α:Type}(names:List Rt.Bs)(l:List α)(d:α)(s:Rt.Bs):α:=(l[names.idxOf s]?).getD d
theorem d1d{α:Type}{names:List Rt.Bs}{l:List α}(d:α){s:Rt.Bs}(hs:s∈names)(hl:names.length=l.length):ix l ((names.idxOf s:Nat):Int)=some (look names l d s):=by
 have h:names.idxOf s<l.length:=by rw [<-hl];exact List.idxOf_lt_length_of_mem hs
 unfold look
 rw [b1z,List.getElem?_eq_getElem h];rfl
theorem d3q{α:Type}{names:List Rt.Bs}{l:List α}(d:α){s:Rt.Bs}(hs:s∈names)(hl:names.length=l.length):look names l d s∈l:=by
 have h:names.idxOf s<l.length:=by rw [<-hl];exact List.idxOf_lt_length_of_mem hs
 unfold look
 rw [List.getElem?_eq_getElem h];exact List.getElem_mem h
theorem e2f{α β:Type}{names:List Rt.Bs}{l:List α}(f:α->β)(d:α)(e:β){s:Rt.Bs}(hs:s∈names)(hl:names.length=l.length):look names (l.map f) e s=f (look names l d s):=by
 have h:names.idxOf s<l.length:=by rw [<-hl];exact List.idxOf_lt_length_of_mem hs
 unfold look
 rw [List.getElem?_map,List.getElem?_eq_getElem h];rfl
def mkE(names:List Rt.Bs)(f:Facts)(ws:List Rat):Env:=⟨look names f.Lifts 0,look names ws 0,f.Persons,f.Flats⟩
theorem d4e{l:List Rt.Bs}(s:Rt.Bs)(hl:l.length<4611686018427387904):Ev (fun n=>a0o n l s) (if s∈l then((l.idxOf s:Nat):Int)else-1):=by
 refine⟨l.length+1,fun n hn=> ?_⟩
 unfold a0o
 dsimp only
 have h:slices_Index_string_string_L1 n l s (some (-1)) n 0=_:=d1q n l s hl l 0 n rfl (by omega)
 rw [h];simp only [Nat.zero_add]
theorem e5y{j k:Nat}{a b:Rat}(ha:SmF j a)(hb:SmF k b)(h0:b.num≠0):SmF (j+k) (a/b):=by
 rw [e0n]
 refine c0r ?_ ?_ (c0v (b2m a) h0)
 ·exact ha.1.mul hb.2
 ·exact ha.2.mul hb.1
theorem f0y{j k:Nat}{a b:Rat}(ha:SmF j a)(hb:SmF k b){o:Int}(ho:o=8->b.num≠0)(h0:o=5∨o=6∨o=7∨o=8∨o=9∨o=10):SmF (j+k+1) (two o a b):=by
 rcases h0 with rfl|rfl|rfl|rfl|rfl|rfl
 ·exact ha.add hb
 ·exact ha.sub hb
 ·exact(ha.mul hb).mono (by omega)
 ·exact(e5y ha hb (ho rfl)).mono (by omega)
 ·rw [d7i];split
  ·exact hb.mono (by omega)
  ·exact ha.mono (by omega)
 ·rw [d8d];split
  ·exact hb.mono (by omega)
  ·exact ha.mono (by omega)
theorem e6r{j k:Nat}{a b:Rat}(ha:SmF j a)(hb:SmF k b)(hk:j+k<4000000){o:Int}(ho:o=8->b.num≠0)(h0:o=5∨o=6∨o=7∨o=8∨o=9∨o=10):Ev (fun n=>a9j n o (toF a) (toF b)) (toF (two o a b)):=by
 unfold a9j
 rcases h0 with rfl|rfl|rfl|rfl|rfl|rfl
 ·exact Ev.then rfl (Ev.bind (FAdd_ev ha hb hk) (Ev.pure _))
 ·exact Ev.else rfl (Ev.then rfl (Ev.bind (FSub_ev ha hb hk) (Ev.pure _)))
 ·exact Ev.else rfl (Ev.else rfl (Ev.then rfl (Ev.bind (FMul_ev ha hb hk) (Ev.pure _))))
 ·exact Ev.else rfl (Ev.else rfl (Ev.else rfl (Ev.then rfl (Ev.bind (e5a ha hb hk (ho rfl)) (Ev.pure _)))))
 ·exact Ev.else rfl (Ev.else rfl (Ev.else rfl (Ev.else rfl (Ev.then rfl (Ev.bind (FMin_ev ha hb hk) (Ev.pure _))))))
 ·exact Ev.else rfl (Ev.else rfl (Ev.else rfl (Ev.else rfl (Ev.else rfl (Ev.then rfl (Ev.bind (FMax_ev ha hb hk) (Ev.pure _)))))))
theorem smI{x:Int}(h1:-9223372036854775808<=x)(h2:x<=9223372036854775807){k:Nat}(hk:4<=k):SmF k (x:Rat):=by
 refine c7t (Sm.mono (k:=4) ?_ hk) (by omega)
 exact a6n (c9i (by omega))
structure RF(names:List Rt.Bs)(f:Facts)(ws:List Rat):Prop where
 hl:f.Lifts.length=names.length
 hw:ws.length=names.length
 p1:0<=f.Persons
 p2:f.Persons<=1000
 f1:0<=f.Flats
 f2:f.Flats<=1000
 l1:∀n,n∈f.Lifts->0<=n/\n<=200
 w1:∀w,w∈ws->0<=w
def K(names:List Rt.Bs)(f:Facts)(ws:List Rat):known:=⟨names,f,ws.map toF⟩
theorem wadd(W a b:Nat):W*(a+b+1)=W*a+W*b+W:=by rw [Nat.mul_add,Nat.mul_add,Nat.mul_one]
theorem wle{W a:Nat}(hW:W<=30)(ha:a<=1000):W*a<=30000:=by
 have:=Nat.mul_le_mul hW ha
 omega
section
variable{names:List Rt.Bs}{f:Facts}{ws:List Rat}{W:Nat}
variable(hf:RF names f ws)(hW:4<=W)(hW2:W<=30)(hw:∀w,w∈ws->SmF W w)(hn:names.length<4611686018427387904)
include hf hW hW2 hw hn
theorem d9q{x:M.Expr}{k:Int}(ht:Typ names x k):cnt x<=1000->
 (k≠0->SmF (W*cnt x) (num (mkE names f ws) x)/\Ev (fun n=>fee_known_number n (K names f ws) x) (toF (num (mkE names f ws) x)))/\
 (k=0->Ev (fun n=>fee_known_truth n (K names f ws) x) (tru (mkE names f ws) x)):=by
 have hix:∀s,Ev (fun n=>a0o n (K names f ws).names s) (if s∈names then((names.idxOf s:Nat):Int)else-1):=fun s=>d4e s hn
 have leafW:∀(o n:Int)(s:Rt.Bs),W*cnt ⟨o,n,s,[]⟩=W:=fun o n s=>by show W*1=W;omega
 have c2:∀(o n:Int)(s:Rt.Bs)(a b:M.Expr),cnt ⟨o,n,s,[a,b]⟩=cnt a+cnt b+1:=fun o n s a b=>by show cnt a+(cnt b+0)+1=_;omega
 have ari:∀{o p q r:Int}{a b:M.Expr},(o=5∨o=6∨o=7∨o=8∨o=9∨o=10)->p≠0->q≠0->r≠0->(o=8->(num (mkE names f ws) b).num≠0)->
  (cnt a<=1000->(p≠0->SmF (W*cnt a) (num (mkE names f ws) a)/\Ev (fun n=>fee_known_number n (K names f ws) a) (toF (num (mkE names f ws) a)))/\(p=0->Ev (fun n=>fee_known_truth n (K names f ws) a) (tru (mkE names f ws) a)))->
  (cnt b<=1000->(q≠0->SmF (W*cnt b) (num (mkE names f ws) b)/\Ev (fun n=>fee_known_number n (K names f ws) b) (toF (num (mkE names f ws) b)))/\(q=0->Ev (fun n=>fee_known_truth n (K names f ws) b) (tru (mkE names f ws) b)))->
  cnt ⟨o,0,[],[a,b]⟩<=1000->
  (r≠0->SmF (W*cnt ⟨o,0,[],[a,b]⟩) (num (mkE names f ws) ⟨o,0,[],[a,b]⟩)/\Ev (fun n=>fee_known_number n (K names f ws) ⟨o,0,[],[a,b]⟩) (toF (num (mkE names f ws) ⟨o,0,[],[a,b]⟩)))/\
  (r=0->Ev (fun n=>fee_known_truth n (K names f ws) ⟨o,0,[],[a,b]⟩) (tru (mkE names f ws) ⟨o,0,[],[a,b]⟩)):=by
  intro o p q r a b ho hp hq hr h8 iha ihb hc
  rw [c2]at hc
  obtain⟨sa,ea⟩:=(iha (by omega)).1 hp
  obtain⟨sb,eb⟩:=(ihb (by omega)).1 hq
  have wa:=wle hW2 (show cnt a<=1000 by omega)
  have wb:=wle hW2 (show cnt b<=1000 by omega)
  refine⟨fun _=>⟨?_,?_⟩,fun h=>absurd h hr⟩
  ·rw [c2,wadd,num_two]
   exact(f0y sa sb h8 ho).mono (by omega)
  ·rw [num_two]
   refine Ev.suc (fun n=>fee_known_number_s _ _ n) ?_
   refine Ev.bind (hix _) ?_
   have e:∀k:Int,(k=0∨k=1∨k=2∨k=3∨k=4∨k=11)->(o==k)=false:=fun k hk=>by rw [beq_eq_false_iff_ne];omega
   refine Ev.else (e 0 (by decide)) (Ev.else (e 1 (by decide)) (Ev.else (e 2 (by decide)) (Ev.else (e 3 (by decide)) (Ev.else (e 4 (by decide)) (Ev.else (e 11 (by decide)) ?_)))))
   refine Ev.step (a:=a) rfl (Ev.step (a:=b) rfl ?_)
   exact Ev.bind ea (Ev.bind eb (Ev.bind (e6r sa sb (by omega) h8 ho) (Ev.pure _)))
 induction ht with
 | @num m h0 h1=>
   intro _
   refine⟨fun _=>⟨?_,?_⟩,fun h=>by cases h⟩
   ·rw [leafW,num_num];exact smI (by omega) (by omega) hW
   ·refine Ev.suc (fun n=>fee_known_number_s _ _ n) (Ev.bind (hix _) (Ev.then rfl ?_))
    exact Ev.bind (b5n (x:=m) (by omega) (by omega)) (Ev.pure _)
 | @lifts s _ hs=>
   intro _
   have h5:=hf.l1 _ (d3q (0:Int) hs hf.hl.symm)
   refine⟨fun _=>⟨?_,?_⟩,fun h=>by cases h⟩
   ·rw [leafW,num_lifts]
    exact smI (show _<=look names f.Lifts 0 s by omega) (show look names f.Lifts 0 s<=_ by omega) hW
   ·refine Ev.suc (fun n=>fee_known_number_s _ _ n) (Ev.bind (hix _) (Ev.else rfl (Ev.then rfl ?_)))
    refine Ev.step (a:=look names f.Lifts 0 s) (by rw [if_pos hs];exact d1d 0 hs hf.hl.symm) ?_
    exact Ev.bind (b5n (x:=look names f.Lifts 0 s) (by omega) (by omega)) (Ev.pure _)
 |pers=>
  intro _
  have h1:=hf.p1
  have h2:=hf.p2
  refine⟨fun _=>⟨?_,?_⟩,fun h=>by cases h⟩
  ·rw [leafW,num_pers]
   exact smI (show _<=f.Persons by omega) (show f.Persons<=_ by omega) hW
  ·refine Ev.suc (fun n=>fee_known_number_s _ _ n) (Ev.bind (hix _) (Ev.else rfl (Ev.else rfl (Ev.then rfl ?_))))
   exact Ev.bind (b5n (x:=f.Persons) (by omega) (by omega)) (Ev.pure _)
 |flats=>
  intro _
  have h1:=hf.f1
  have h2:=hf.f2
  refine⟨fun _=>⟨?_,?_⟩,fun h=>by cases h⟩
  ·rw [leafW,num_flats]
   exact smI (show _<=f.Flats by omega) (show f.Flats<=_ by omega) hW
  ·refine Ev.suc (fun n=>fee_known_number_s _ _ n) (Ev.bind (hix _) (Ev.else rfl (Ev.else rfl (Ev.else rfl (Ev.then rfl ?_)))))
   exact Ev.bind (b5n (x:=f.Flats) (by omega) (by omega)) (Ev.pure _)
 | @wgt s _ hs=>
   intro _
   refine⟨fun _=>⟨?_,?_⟩,fun h=>by cases h⟩
   ·rw [leafW,num_wgt]
    exact hw _ (d3q 0 hs hf.hw.symm)
   ·refine Ev.suc (fun n=>fee_known_number_s _ _ n) (Ev.bind (hix _) (Ev.else rfl (Ev.else rfl (Ev.else rfl (Ev.else rfl (Ev.then rfl ?_))))))
    refine Ev.step (a:=toF (look names ws 0 s)) ?_ (Ev.pure _)
    rw [if_pos hs,<-e2f toF 0 (toF 0) hs hf.hw.symm]
    exact d1d (toF 0) hs (by show _=(ws.map toF).length;rw [List.length_map];exact hf.hw.symm)
 | @ari o a b p q ho _ _ hp hq iha ihb=>
   exact ari (by omega) hp hq (e7r p q) (fun h=>by omega) iha ihb
 | @mul a b p q _ _ hp hq _ iha ihb=>
   exact ari (by omega) hp hq (e7r p q) (fun h=>by omega) iha ihb
 | @div a m p _ hp h1 h2 iha=>
   refine ari (q:=1) (by omega) hp (by decide) hp (fun _=> ?_) iha ?_
   ·rw [num_num,Rat.num_intCast];omega
   ·intro _
    refine⟨fun _=>⟨?_,?_⟩,fun h=>by cases h⟩
    ·rw [leafW,num_num];exact smI (by omega) (by omega) hW
    ·refine Ev.suc (fun n=>fee_known_number_s _ _ n) (Ev.bind (hix _) (Ev.then rfl ?_))
     exact Ev.bind (b5n (x:=m) (by omega) (by omega)) (Ev.pure _)
 | @ite c a b p q _ _ _ hp hq ihc iha ihb=>
   intro hc
   have hc3:cnt ⟨11,0,[],[c,a,b]⟩=cnt c+cnt a+cnt b+1:=by show cnt c+(cnt a+(cnt b+0))+1=_;omega
   rw [hc3]at hc
   have ec:=(ihc (by omega)).2 rfl
   obtain⟨sa,ea⟩:=(iha (by omega)).1 hp
   obtain⟨sb,eb⟩:=(ihb (by omega)).1 hq
   refine⟨fun _=>⟨?_,?_⟩,fun h=>absurd h (e7r p q)⟩
   ·rw [num_ite,hc3]
    have h5:W*cnt a<=W*(cnt c+cnt a+cnt b+1):=Nat.mul_le_mul_left _ (by omega)
    have h6:W*cnt b<=W*(cnt c+cnt a+cnt b+1):=Nat.mul_le_mul_left _ (by omega)
    split
    ·exact sa.mono h5
    ·exact sb.mono h6
   ·rw [num_ite]
    refine Ev.suc (fun n=>fee_known_number_s _ _ n) (Ev.bind (hix _) (Ev.else rfl (Ev.else rfl (Ev.else rfl (Ev.else rfl (Ev.else rfl (Ev.then rfl ?_)))))))
    refine Ev.step (a:=c) rfl (Ev.bind ec ?_)
    cases tru (mkE names f ws) c with
    |true=>exact Ev.then rfl (Ev.step (a:=a) rfl (Ev.bind ea (Ev.pure _)))
    |false=>exact Ev.else rfl (Ev.step (a:=b) rfl (Ev.bind eb (Ev.pure _)))
 | @rel o a b ho _ _ iha ihb=>
   intro hc
   rw [c2]at hc
   obtain⟨sa,ea⟩:=(iha (by omega)).1 (by decide)
   obtain⟨sb,eb⟩:=(ihb (by omega)).1 (by decide)
   have wa:=wle hW2 (show cnt a<=1000 by omega)
   have wb:=wle hW2 (show cnt b<=1000 by omega)
   refine⟨fun h=>absurd rfl h,fun _=> ?_⟩
   rw [tru_two]
   have e:∀k:Int,(k=14∨k=15∨k=16)->(o==k)=false:=fun k hk=>by rw [beq_eq_false_iff_ne];omega
   refine Ev.suc (fun n=>fee_known_truth_s _ _ n) (Ev.else (e 14 (by decide)) (Ev.else (e 15 (by decide)) (Ev.else (e 16 (by decide)) ?_)))
   refine Ev.step (a:=a) rfl (Ev.step (a:=b) rfl (Ev.bind ea (Ev.bind eb (Ev.bind (FCompare_ev sa sb (by omega)) ?_))))
   rcases b3g (num (mkE names f ws) a) (num (mkE names f ws) b)with⟨h1,h2⟩|⟨h1,h2⟩|⟨h1,h2⟩
   ·rw [h2]
    rcases ho with rfl|rfl
    ·exact Ev.then rfl ((Ev.pure _).eq (by rw [c6m];exact(decide_eq_true h1).symm))
    ·exact Ev.else rfl ((Ev.pure _).eq (by rw [d5u];exact(decide_eq_false (Rat.ne_of_lt h1)).symm))
   ·rw [h2]
    rcases ho with rfl|rfl
    ·exact Ev.then rfl ((Ev.pure _).eq (by rw [c6m];exact(decide_eq_false (by show¬(num (mkE names f ws) a<_);rw [h1];exact Rat.lt_irrefl)).symm))
    ·exact Ev.else rfl ((Ev.pure _).eq (by rw [d5u];exact(decide_eq_true h1).symm))
   ·rw [h2]
    rcases ho with rfl|rfl
    ·exact Ev.then rfl ((Ev.pure _).eq (by rw [c6m];exact(decide_eq_false (Rat.not_lt.2 (Rat.le_of_lt h1))).symm))
    ·exact Ev.else rfl ((Ev.pure _).eq (by rw [d5u];exact(decide_eq_false (fun h=>Rat.ne_of_lt h1 h.symm)).symm))
 | @not a _ iha=>
   intro hc
   have h1:cnt ⟨14,0,[],[a]⟩=cnt a+0+1:=rfl
   refine⟨fun h=>absurd rfl h,fun _=> ?_⟩
   rw [tru_not]
   refine Ev.suc (fun n=>fee_known_truth_s _ _ n) (Ev.then rfl ?_)
   exact Ev.step (a:=a) rfl (Ev.bind ((iha (by omega)).2 rfl) (Ev.pure _))
 | @bin o a b ho _ _ iha ihb=>
   intro hc
   rw [c2]at hc
   have ea:=(iha (by omega)).2 rfl
   have eb:=(ihb (by omega)).2 rfl
   refine⟨fun h=>absurd rfl h,fun _=> ?_⟩
   rw [tru_two]
   rcases ho with rfl|rfl
   ·refine Ev.suc (fun n=>fee_known_truth_s _ _ n) (Ev.else rfl (Ev.then rfl ?_))
    refine Ev.step (a:=a) rfl (Ev.bind ea ?_)
    show Ev _ (tru (mkE names f ws) a&&tru (mkE names f ws) b)
    cases tru (mkE names f ws) a with
    |true=>exact Ev.bind (Ev.then rfl (Ev.step (a:=b) rfl (Ev.bind eb (Ev.pure _)))) (Ev.pure _)
    |false=>exact Ev.bind (Ev.else rfl (Ev.pure _)) (Ev.pure _)
   ·refine Ev.suc (fun n=>fee_known_truth_s _ _ n) (Ev.else rfl (Ev.else rfl (Ev.then rfl ?_)))
    refine Ev.step (a:=a) rfl (Ev.bind ea ?_)
    show Ev _ (tru (mkE names f ws) a||tru (mkE names f ws) b)
    cases tru (mkE names f ws) a with
    |true=>exact Ev.bind (Ev.then rfl (Ev.pure _)) (Ev.pure _)
    |false=>exact Ev.bind (Ev.else rfl (Ev.step (a:=b) rfl (Ev.bind eb (Ev.pure _)))) (Ev.pure _)
theorem d6e{x:M.Expr}{k:Int}(ht:Typ names x k)(hk:k≠0)(hc:cnt x<=1000):Ev (fun n=>fee_known_number n (K names f ws) x) (toF (num (mkE names f ws) x)):=((d9q hf hW hW2 hw hn ht hc).1 hk).2
theorem c9e{x:M.Expr}{k:Int}(ht:Typ names x k)(hk:k≠0)(hc:cnt x<=1000):SmF (W*cnt x) (num (mkE names f ws) x):=((d9q hf hW hW2 hw hn ht hc).1 hk).1
end
end Go.Proofs.YthaegflpecbfgaaGreatDoor.Fe
namespace Go.Proofs.YthaegflpecbfgaaGreatDoor.Lx
open Rt M Go
theorem c5k(n:Nat)(c:UInt8):a8n n (c.toNat:Int)=some (isLetter c):=
 of_decide_eq_true (b8r (p:=fun c=>decide (a8n 0 (c.toNat:Int)=some (isLetter c))) (by decide+kernel) c)
theorem d7p(n:Nat)(c:UInt8):b1t n (c.toNat:Int)=some (b7u c):=
 of_decide_eq_true (b8r (p:=fun c=>decide (b1t 0 (c.toNat:Int)=some (b7u c))) (by decide+kernel) c)
theorem c5j{s:Rt.Bs}(hs:s.length<=1000000){n:Nat}:
 ∀{r:Rt.Bs}{i m:Nat},s.drop i=r->i<=s.length->r.length<m->ref06_Name_L1 n s (some true) m (i:Int)=some (decide (b8t b1j r=r.length))
 | [],i,m+1,h,hi,_=>by
  have:=drop_nil h hi
  rw [ref06_Name_L1_s]
  simp [this,b8t]
 |c::r,i,m+1,h,hi,hm=>by
  have h1:=d2y h
  simp only [List.length_cons]at hm
  have e:(bif(bif !isLetter c then !b7u c else false)then(c.toNat:Int) !=95 else false)= !b1j c:=
   of_decide_eq_true (b8r (p:=fun c=>decide ((bif(bif !isLetter c then !b7u c else false)then(c.toNat:Int) !=95 else false)= !b1j c)) (by decide+kernel) c)
  have e2:((bif !isLetter c then some (!b7u c)else some false).bind fun v4=>(bif v4 then some ((c.toNat:Int) !=95)else some false))=some (!b1j c):=by
   rw [<-e]
   cases isLetter c<;>cases b7u c<;>rfl
  rw [ref06_Name_L1_s,b9h h,decide_eq_true (by omega)]
  simp only [cond_true,Option.bind_some,c5k,d7p]
  rw [<-Option.bind_assoc,e2,Option.bind_some]
  cases hp:b1j c
  ·simp [b8t,hp]
  ·rw [Bool.not_true,cond_false,c9g _ (by omega),c5j hs (c3u h) (by omega) (by omega)]
   simp [b8t,hp]
theorem rname_eq{s:Rt.Bs}(hs:s.length<=1000000){n:Nat}(hn:s.length<n):a6s n s=some (name s):=by
 cases hs0:s with
 |nil=>rfl
 |cons c r=>
  have h2:1<=s.length:=by rw [hs0];simp
  have h3:s.drop 0=c::r:=hs0
  have h4:s.drop 1=r:=c3u h3
  have h5:s.length=r.length+1:=by rw [hs0];simp
  have h6:=b9h h3
  simp only [Int.natCast_zero]at h6
  have h7:=c5j hs (n:=n) (r:=r) (i:=1) (m:=n) h4 h2 (by omega)
  rw [<-hs0,a6s,decide_eq_false (show¬(s.length:Int)<1 by omega),h6]
  simp only [cond_false,Option.bind_some,c5k]
  have h8:name s=(isLetter c&&(decide (s.length<=20)&&decide (b8t b1j r=r.length))):=by
   rw [name,hs0]
   cases hl:isLetter c
   ·simp [hl]
   ·simp only [List.isEmpty_cons,Bool.not_false,List.headD_cons,hl,Bool.true_and,b8t,c8n hl,cond_true,List.length_cons]
    congr 1
    rw [Bool.eq_iff_iff];simp
  rw [h8]
  by_cases h9:s.length<=20
  ·rw [decide_eq_false (show¬(20:Int)<s.length by omega),decide_eq_true h9]
   simp only [cond_false,Option.bind_some]
   cases isLetter c
   ·rfl
   ·simp only [Bool.not_true,cond_false,Bool.true_and];exact h7
  ·rw [decide_eq_true (show(20:Int)<s.length by omega),decide_eq_false h9]
   simp
end Go.Proofs.YthaegflpecbfgaaGreatDoor.Lx
namespace Go.Proofs.YthaegflpecbfgaaGreatDoor.Ta
open Go Rt M
def T2{α β:Type}(Q:α->β->Prop)(f:Nat->Option α)(g:Nat->Option β):Prop:=∃a b,Ev f a/\Ev g b/\Q a b
section
variable{α β γ δ:Type}{P:α->β->Prop}{Q:γ->δ->Prop}
theorem T2.pure{a:γ}{b:δ}(h:Q a b):T2 Q (fun _=>some a) (fun _=>some b):=⟨a,b,Ev.pure a,Ev.pure b,h⟩
theorem T2.bind{x:Nat->Option α}{y:Nat->Option β}{f:Nat->α->Option γ}{g:Nat->β->Option δ}(h:T2 P x y)(k:∀a b,P a b->T2 Q (fun n=>f n a) (fun n=>g n b)):T2 Q (fun n=>(x n).bind (f n)) (fun n=>(y n).bind (g n)):=by
 obtain⟨a,b,h1,h2,h3⟩:=h
 obtain⟨c,d,h4,h5,h6⟩:=k a b h3
 exact⟨c,d,Ev.bind h1 h4,Ev.bind h2 h5,h6⟩
theorem T2.l{x:Nat->Option α}{a:α}{f:Nat->α->Option γ}{g:Nat->Option δ}(h:Ev x a)(k:T2 Q (fun n=>f n a) g):T2 Q (fun n=>(x n).bind (f n)) g:=by
 obtain⟨c,d,h4,h5,h6⟩:=k
 exact⟨c,d,Ev.bind h h4,h5,h6⟩
theorem T2.r{y:Nat->Option β}{b:β}{f:Nat->Option γ}{g:Nat->β->Option δ}(h:Ev y b)(k:T2 Q f (fun n=>g n b)):T2 Q f (fun n=>(y n).bind (g n)):=by
 obtain⟨c,d,h4,h5,h6⟩:=k
 exact⟨c,d,h4,Ev.bind h h5,h6⟩
theorem T2.bif{c:Bool}{x x':Nat->Option γ}{y y':Nat->Option δ}(h1:c=true->T2 Q x y)(h2:c=false->T2 Q x' y'):T2 Q (fun n=>bif c then x n else x' n) (fun n=>bif c then y n else y' n):=by
 cases c
 ·exact h2 rfl
 ·exact h1 rfl
theorem T2.lt{c:Bool}{x x':Nat->Option γ}{g:Nat->Option δ}(hc:c=true)(h:T2 Q x g):T2 Q (fun n=>bif c then x n else x' n) g:=by subst hc;exact h
theorem T2.lf{c:Bool}{x x':Nat->Option γ}{g:Nat->Option δ}(hc:c=false)(h:T2 Q x' g):T2 Q (fun n=>bif c then x n else x' n) g:=by subst hc;exact h
theorem T2.suc{f f':Nat->Option γ}{g g':Nat->Option δ}(e:∀n,f (n+1)=f' n)(e':∀n,g (n+1)=g' n)(h:T2 Q f' g'):T2 Q f g:=by
 obtain⟨c,d,h4,h5,h6⟩:=h
 exact⟨c,d,Ev.suc e h4,Ev.suc e' h5,h6⟩
theorem T2.weak{Q':γ->δ->Prop}{f:Nat->Option γ}{g:Nat->Option δ}(h:T2 Q f g)(k:∀a b,Q a b->Q' a b):T2 Q' f g:=by
 obtain⟨c,d,h4,h5,h6⟩:=h
 exact⟨c,d,h4,h5,k c d h6⟩
end
end Go.Proofs.YthaegflpecbfgaaGreatDoor.Ta
namespace Go.Proofs.YthaegflpecbfgaaGreatDoor.Ta
open Go Rt M
theorem c7c(s:Rt.Bs):Ev (fun n=>a6s n s) (Lx.name s):=by
 refine⟨21,fun n hn=> ?_⟩
 by_cases h:s.length<=20
 ·exact Lx.rname_eq (by omega) (by omega)
 ·have h2:Lx.name s=false:=by unfold Lx.name;rw [decide_eq_false h];simp
  rw [h2]
  unfold a6s
  dsimp only
  rw [decide_eq_false (show¬(s.length:Int)<1 by omega),decide_eq_true (show(20:Int)<(s.length:Int) by omega)];rfl
theorem d4j(n:Nat)(l:List Rt.Bs)(i:Nat)(x:Rt.Bs)(hx:ix l (i:Int)=some x)(kont:Option Bool)(hi:i<=1000000):∀(us:List Rt.Bs)(k m:Nat),(l.take i).drop k=us->us.length<m->
 ref35_Names_L2 n l (i:Int) kont m (k:Int)=bif decide (x∈us)then some false else kont
 | [],k,m+1,hd,_=>by
  have h1:(l.take i).length<=k:=Rt.drop_nil hd
  have h2:i<l.length:=by
   rcases Nat.lt_or_ge i l.length with h2|h2
   ·exact h2
   ·rw [b1z,List.getElem?_eq_none h2]at hx;cases hx
  rw [List.length_take]at h1
  rw [ref35_Names_L2_s,decide_eq_false (by omega)];rfl
 |y::us,k,m+1,hd,hm=>by
  obtain⟨h1,h2,h3⟩:=drop_cons hd
  rw [List.length_take]at h3
  have h4:ix l (k:Int)=some y:=by
   rw [b1z]at h1⊢
   rw [List.getElem?_take,if_pos (by omega)]at h1
   exact h1
  rw [ref35_Names_L2_s,decide_eq_true (by omega),cond_true,h4,Option.bind_some,hx,Option.bind_some]
  by_cases h:y=x
  ·subst h
   rw [beq_self_eq_true,cond_true,decide_eq_true (by simp)];rfl
  ·rw [show(y==x)=false by simpa using h,cond_false,inc64 (by omega),d4j n l i x hx kont hi us (k+1) m h2 (by simpa using hm)]
   have e:decide (x∈y::us)=decide (x∈us):=by
    by_cases h5:x∈us
    ·rw [decide_eq_true h5,decide_eq_true (by simp [h5])]
    ·rw [decide_eq_false h5,decide_eq_false (by simp only [List.mem_cons,not_or];exact⟨fun h6=>h h6.symm,h5⟩)]
   rw [e]
theorem c3n{l:List Rt.Bs}(h:¬(l.length:Int)<=6):∀(us:List Rt.Bs)(i:Nat),b8w l i us=false
 | [],i=>decide_eq_false h
 |s::us,i=>by unfold b8w;rw [c3n h us];simp
theorem e0a(l:List Rt.Bs)(hl:l.length<=6):∀(us:List Rt.Bs)(i:Nat),l.drop i=us->∃N,∀n m,N<=n->us.length<m->
 ref35_Names_L1 n l (some true) m (i:Int)=some (b8w l i us)
 | [],i,hd=>by
  refine⟨0,fun n m _ hm=> ?_⟩
  obtain⟨m,rfl⟩:=left hm
  rw [ref35_Names_L1_s,a5z hd]
  unfold b8w
  rw [decide_eq_true (by omega)];rfl
 |s::us,i,hd=>by
  obtain⟨h1,h2,h3⟩:=drop_cons hd
  obtain⟨N,ih⟩:=e0a l hl us (i+1) h2
  obtain⟨N1,e1⟩:=c7c s
  refine⟨max N (max N1 10),fun n m hn hm=> ?_⟩
  obtain⟨m,rfl,hm2⟩:=pred (by simpa using hm)
  have e1:a6s n s=some (Lx.name s):=e1 n (by omega)
  rw [ref35_Names_L1_s,a1z hd,cond_true,h1,Option.bind_some,e1,Option.bind_some]
  unfold b8w
  cases Lx.name s with
  |false=>rfl
  |true=>
   have h5:ref35_Names_L2 n l (i:Int) (ref35_Names_L1 n l (some true) m (iadd .i64 (i:Int) 1)) n 0=_:=d4j n l i s h1 _ (by omega) (l.take i) 0 n rfl (by rw [List.length_take];omega)
   rw [Bool.not_true,cond_false,h5,inc64 (by omega),ih n m (by omega) hm2,Bool.true_and]
   cases decide (s∈l.take i)<;>rfl
theorem c2b(l:List Rt.Bs):Ev (fun n=>a9t n l) (named l):=by
 unfold a9t
 by_cases h:l.length<=6
 ·refine Ev.else (decide_eq_false (by omega)) ?_
  obtain⟨N,hN⟩:=e0a l h l 0 rfl
  exact⟨N+l.length+1,fun n hn=>hN n n (by omega) (by omega)⟩
 ·exact Ev.then (decide_eq_true (by omega)) ((Ev.pure _).eq (c3n (by omega) l 0).symm)
theorem e2e{P:M.Expr->Prop}(h:∀(o k:Int)(s:Rt.Bs)(l:List M.Expr),(∀y,y∈l->P y)->P ⟨o,k,s,l⟩):∀x,P x:=by
 intro x
 refine M.Expr.rec (motive_1:=P) (motive_2:=fun l=>∀y,y∈l->P y) ?_ ?_ ?_ x
 ·exact fun o k s l hl=>h o k s l hl
 ·exact fun y hy=>by cases hy
 ·intro y ys h1 h2 z hz
  rcases List.mem_cons.1 hz with rfl|hz
  ·exact h1
  ·exact h2 z hz
theorem e3m(x:M.Expr)(lv lf:Int)(hlf:lf<=1000000)(hlv:1<=lv)(hlv2:lv<=1000):∀(us:List M.Expr)(i:Nat)(nx:Int),x.Args.drop i=us->i<=x.Args.length->-1<=nx->nx<=lf-1-i->
 (∀y,y∈us->∀lv lf:Int,0<=lf->lf<=1000000->-1<=lv->lv<=1000->Tt (fun s=>-1<=s/\s<=lf-1/\(0<=s->Fit y)) (fun n=>ref35_size n y lf lv))->
 ∃N r,(-1<=r/\r<=lf-1/\(0<=r->x.Args.length<=1000000/\∀y,y∈us->Fit y))/\∀n m,N<=n->us.length<m->ref35_size_L1 n (ref35_size n) x lv (fun nx3=>some nx3) m nx (i:Int)=some r
 | [],i,nx,hd,hi,h1,h2,_=>by
  have hlen:x.Args.length<=i:=Rt.drop_nil hd
  refine⟨0,nx,⟨h1,by omega,fun h=>⟨by omega,by simp⟩⟩,fun n m _ hm=> ?_⟩
  obtain⟨m,rfl⟩:=left hm
  rw [ref35_size_L1_s,a5z hd];rfl
 |y::us,i,nx,hd,hi,h1,h2,H=>by
  obtain⟨g1,g2,g3⟩:=drop_cons hd
  by_cases h0:0<=nx
  ·obtain⟨s,⟨N1,e1⟩,s1,s2,s3⟩:=H y (by simp) (lv-1) nx h0 (by omega) (by omega) (by omega)
   obtain⟨N,r,⟨r1,r2,r3⟩,ih⟩:=e3m x lv lf hlf hlv hlv2 us (i+1) s g2 (by omega) s1 (by omega) (fun z hz=>H z (by simp [hz]))
   refine⟨max N N1,r,⟨r1,r2,fun hr=>⟨(r3 hr).1,fun z hz=> ?_⟩⟩,fun n m hn hm=> ?_⟩
   ·rcases List.mem_cons.1 hz with rfl|hz
    ·refine s3 ?_
     rcases Int.lt_or_le s 0 with hs|hs
     ·exfalso
      have e:s=-1:=by omega
      have:=ih (max N N1+us.length+2) (us.length+1) (by omega) (by omega)
      rw [e]at this
      have hstop:ref35_size_L1 (max N N1+us.length+2) (ref35_size (max N N1+us.length+2)) x lv (fun nx3=>some nx3) (us.length+1) (-1) ((i+1:Nat):Int)=some (-1):=by
       rw [ref35_size_L1_s]
       cases decide (((i+1:Nat):Int)<(x.Args.length:Int))<;>rfl
      rw [hstop]at this
      cases this
      omega
     ·exact hs
    ·exact(r3 hr).2 z hz
   ·obtain⟨m,rfl,hm2⟩:=pred (by simpa using hm)
    have e1:ref35_size n y nx (lv-1)=some s:=e1 n (by omega)
    rw [ref35_size_L1_s,a1z hd,cond_true,Option.bind_some,decide_eq_true h0,cond_true,g1,Option.bind_some,a1c (by omega) (by omega),e1,Option.bind_some,inc64 (by omega)]
    exact ih n m (by omega) hm2
  ·refine⟨0,nx,⟨h1,by omega,fun h=>absurd h h0⟩,fun n m _ hm=> ?_⟩
   obtain⟨m,rfl⟩:=left hm
   rw [ref35_size_L1_s,a1z hd,cond_true,Option.bind_some,decide_eq_false h0];rfl
theorem size_t:∀(x:M.Expr)(lv lf:Int),0<=lf->lf<=1000000->-1<=lv->lv<=1000->Tt (fun s=>-1<=s/\s<=lf-1/\(0<=s->Fit x)) (fun n=>ref35_size n x lf lv):=by
 refine e2e ?_
 intro o k s l ih lv lf h1 h2 h3 h4
 refine Tt.suc (fun n=>ref35_size_s _ _ _ n) ?_
 refine Tt.bif (fun _=>Tt.pure ⟨by omega,by omega,fun h=>by omega⟩) (fun h=> ?_)
 have h5:=of_decide_eq_false h
 rw [a1c (by omega) (by omega)]
 obtain⟨N,r,⟨r1,r2,r3⟩,hN⟩:=e3m ⟨o,k,s,l⟩ lv lf h2 (by omega) h4 l 0 (lf-1) rfl (by simp) (by omega) (by omega) ih
 exact⟨r,⟨N+l.length+1,fun n hn=>hN n n (by omega) (by omega)⟩,r1,r2,fun h=>Fit.mk (r3 h).1 (r3 h).2⟩
theorem e3r(x:M.Expr)(a b:Int)(ha:0<=a)(ha2:a<=1000000)(hb:0<=b)(hb2:b<=1000):Tt (fun c=>c=true->Fit x) (fun n=>a7c n x a b):=by
 unfold a7c
 refine Tt.bind (size_t x b a ha ha2 (by omega) hb2) fun s hs=> ?_
 exact Tt.pure fun h=>hs.2.2 (of_decide_eq_true h)
def e4o(s:Int)(r:Int×Bool):Prop:=(0<=s->r=(s,true))/\(s<0->r.2=false)
theorem e4f(x:M.Expr)(lv lf:Int)(hx:x.Args.length<=1000000)(hlf:lf<=1000000)(hlv:1<=lv)(hlv2:lv<=1000):∀(us:List M.Expr)(i:Nat)(nx:Int),x.Args.drop i=us->0<=nx->nx<=lf->
 (∀y,y∈us->∀lv lf:Int,0<=lf->lf<=1000000->-1<=lv->lv<=1000->∃s r,Ev (fun n=>ref35_size n y lf lv) s/\Ev (fun n=>tariff_sized n y lv lf) r/\e4o s r/\s<=lf-1)->
 ∃N s r,e4o s r/\s<=nx/\∀n m,N<=n->us.length<m->ref35_size_L1 n (ref35_size n) x lv (fun nx3=>some nx3) m nx (i:Int)=some s/\tariff_sized_L1 n (tariff_sized n) x lv (fun f2=>some (f2,true)) m (i:Int) nx=some r
 | [],i,nx,hd,h1,h2,_=>by
  refine⟨0,nx,(nx,true),⟨fun _=>rfl,fun h=>by omega⟩,by omega,fun n m _ hm=> ?_⟩
  obtain⟨m,rfl⟩:=left hm
  rw [ref35_size_L1_s,a5z hd,tariff_sized_L1_s,a5z hd];exact⟨rfl,rfl⟩
 |y::us,i,nx,hd,h1,h2,H=>by
  obtain⟨g1,g2,g3⟩:=drop_cons hd
  obtain⟨s,⟨lf',b⟩,⟨N1,e1⟩,⟨N2,e2⟩,⟨A1,A2⟩,hs⟩:=H y (by simp) (lv-1) nx h1 (by omega) (by omega) (by omega)
  rcases Int.lt_or_le s 0 with h0|h0
  ·have hb:b=false:=A2 h0
   subst hb
   refine⟨max N1 N2,s,(lf',false),⟨fun h=>by omega,fun _=>rfl⟩,by omega,fun n m hn hm=> ?_⟩
   obtain⟨m,rfl,hm2⟩:=pred (by simpa using hm)
   have e1:ref35_size n y nx (lv-1)=some s:=e1 n (by omega)
   have e2:tariff_sized n y (lv-1) nx=some (lf',false):=e2 n (by omega)
   obtain⟨m',rfl⟩:=left hm2
   constructor
   ·rw [ref35_size_L1_s,a1z hd,cond_true,Option.bind_some,decide_eq_true h1,cond_true,g1,Option.bind_some,a1c (by omega) (by omega),e1,Option.bind_some,inc64 (by omega),ref35_size_L1_s,decide_eq_false (show¬0<=s by omega)]
    cases decide (((i+1:Nat):Int)<(x.Args.length:Int))<;>rfl
   ·rw [tariff_sized_L1_s,a1z hd,cond_true,g1,Option.bind_some,a1c (by omega) (by omega),e2];rfl
  ·have hb:=A1 h0
   simp only [Prod.mk.injEq]at hb
   obtain⟨rfl,rfl⟩:=hb
   obtain⟨N,s2,r2,A,hs2,ih⟩:=e4f x lv lf hx hlf hlv hlv2 us (i+1) lf' g2 h0 (by omega) (fun z hz=>H z (by simp [hz]))
   refine⟨max N (max N1 N2),s2,r2,A,by omega,fun n m hn hm=> ?_⟩
   obtain⟨m,rfl,hm2⟩:=pred (by simpa using hm)
   have e1:ref35_size n y nx (lv-1)=some lf':=e1 n (by omega)
   have e2:tariff_sized n y (lv-1) nx=some (lf',true):=e2 n (by omega)
   have ih:=ih n m (by omega) hm2
   constructor
   ·rw [ref35_size_L1_s,a1z hd,cond_true,Option.bind_some,decide_eq_true h1,cond_true,g1,Option.bind_some,a1c (by omega) (by omega),e1,Option.bind_some,inc64 (by omega)]
    exact ih.1
   ·rw [tariff_sized_L1_s,a1z hd,cond_true,g1,Option.bind_some,a1c (by omega) (by omega),e2,Option.bind_some]
    dsimp only
    rw [Bool.not_true,cond_false,inc64 (by omega)]
    exact ih.2
theorem e8r{x:M.Expr}(hx:Fit x):∀lv lf:Int,0<=lf->lf<=1000000->-1<=lv->lv<=1000->∃s r,Ev (fun n=>ref35_size n x lf lv) s/\Ev (fun n=>tariff_sized n x lv lf) r/\e4o s r/\s<=lf-1:=by
 induction hx with
 | @mk o k s l hl _ ih=>
  intro lv lf h1 h2 h3 h4
  by_cases hlv:lv<1
  ·refine⟨-1,(lf-1,false),Ev.suc (fun n=>ref35_size_s _ _ _ n) (Ev.then (decide_eq_true hlv) (Ev.pure _)),?_,⟨fun h=>by omega,fun _=>rfl⟩,by omega⟩
   refine Ev.suc (fun n=>tariff_sized_s _ _ _ n) ?_
   rw [a1c (by omega) (by omega)]
   exact Ev.bind (Ev.then (decide_eq_true hlv) (Ev.pure _)) (Ev.then rfl (Ev.pure _))
  ·by_cases hlf:lf-1<0
   ·refine⟨-1,(lf-1,false),?_,?_,⟨fun h=>by omega,fun _=>rfl⟩,by omega⟩
    ·refine Ev.suc (fun n=>ref35_size_s _ _ _ n) (Ev.else (decide_eq_false hlv) ?_)
     rw [a1c (by omega) (by omega)]
     refine⟨1,fun n hn=> ?_⟩
     obtain⟨m,rfl⟩:=left hn
     show ref35_size_L1 (m+1) _ _ _ _ (m+1) _ _=_
     rw [ref35_size_L1_s,decide_eq_false (show¬0<=lf-1 by omega),show lf-1=-1 by omega]
     cases decide ((0:Int)<((⟨o,k,s,l⟩:M.Expr).Args.length:Int))<;>rfl
    ·refine Ev.suc (fun n=>tariff_sized_s _ _ _ n) ?_
     rw [a1c (by omega) (by omega)]
     exact Ev.bind (a:=true) (Ev.else (decide_eq_false hlv) ((Ev.pure _).eq (decide_eq_true hlf))) (Ev.then rfl (Ev.pure _))
   ·obtain⟨N,s2,r2,A,hs,h⟩:=e4f ⟨o,k,s,l⟩ lv lf hl h2 (by omega) h4 l 0 (lf-1) rfl (by omega) (by omega) ih
    refine⟨s2,r2,?_,?_,A,by omega⟩
    ·refine Ev.suc (fun n=>ref35_size_s _ _ _ n) (Ev.else (decide_eq_false hlv) ?_)
     rw [a1c (by omega) (by omega)]
     exact⟨N+l.length+1,fun n hn=>(h n n (by omega) (by omega)).1⟩
    ·refine Ev.suc (fun n=>tariff_sized_s _ _ _ n) ?_
     rw [a1c (x:=lf) (by omega) (by omega)]
     refine Ev.bind (a:=false) (Ev.else (decide_eq_false hlv) ((Ev.pure _).eq (decide_eq_false hlf))) (Ev.else rfl ?_)
     exact⟨N+l.length+1,fun n hn=>(h n n (by omega) (by omega)).2⟩
theorem f0u{x:M.Expr}(hx:Fit x):∃(b:Bool)(z:Int),Ev (fun n=>tariff_sized n x 10 100) (z,b)/\Ev (fun n=>a7c n x 100 10) b:=by
 obtain⟨s,⟨z,b⟩,h1,h2,⟨A1,A2⟩,_⟩:=e8r hx 10 100 (by decide) (by decide) (by decide) (by decide)
 refine⟨b,z,h2,?_⟩
 unfold a7c
 refine Ev.bind h1 ((Ev.pure _).eq ?_)
 rcases Int.lt_or_le s 0 with h0|h0
 ·rw [decide_eq_false (by omega)];exact(A2 h0).symm
 ·have:=A1 h0
  simp only [Prod.mk.injEq]at this
  rw [decide_eq_true h0];exact this.2.symm
end Go.Proofs.YthaegflpecbfgaaGreatDoor.Ta
namespace Go.Proofs.YthaegflpecbfgaaGreatDoor.Fe
open Go Rt M Ta Tp D
theorem c1j(n:Nat)(l:List Int)(hl:l.length<=1000000)(f:Int->Option Bool)(p:Int->Bool)(hf:∀x,f x=some (p x)):∀(us:List Int)(i m:Nat),l.drop i=us->us.length<m->
 ∃r,slices_IndexFunc_int_int_L1 n l f (some (-1)) m (i:Int)=some r/\decide (0<=r)=us.any p
 | [],i,m,hd,hm=>by
  obtain⟨m,rfl⟩:=left hm
  exact⟨-1,by rw [slices_IndexFunc_int_int_L1_s,a5z hd];rfl,rfl⟩
 |y::us,i,m,hd,hm=>by
  obtain⟨h1,h2,h3⟩:=Rt.drop_cons hd
  obtain⟨m,rfl,hm2⟩:=pred (by simpa using hm)
  obtain⟨r,ih,hr⟩:=c1j n l hl f p hf us (i+1) m h2 hm2
  rw [slices_IndexFunc_int_int_L1_s,a1z hd,cond_true,h1,Option.bind_some,hf,Option.bind_some,List.any_cons]
  cases p y with
  |true=>exact⟨(i:Int),rfl,decide_eq_true (by omega)⟩
  |false=>rw [cond_false,Rt.inc64 (by omega)];exact⟨r,ih,by rw [hr];rfl⟩
theorem c9o{l:List Int}(hl:l.length<=1000000)(f:Nat->Int->Option Bool)(p:Int->Bool)(hf:∀n x,f n x=some (p x)):Ev (fun n=>a1w n l (f n)) (l.any p):=by
 refine⟨l.length+1,fun n hn=> ?_⟩
 unfold a1w a4e
 dsimp only
 obtain⟨r,h,hr⟩:=c1j n l hl (f n) p (hf n) l 0 n rfl (by omega)
 have e:slices_IndexFunc_int_int_L1 n l (f n) (some (-1)) n 0=some r:=h
 rw [e,Option.bind_some,hr]
theorem c1e(l:List Frac)(hl:l.length<=1000000)(f:Nat->Frac->Option Bool)(p:Frac->Bool):∀(us:List Frac)(i:Nat),l.drop i=us->(∀y,y∈us->Ev (fun n=>f n y) (p y))->
 ∃N r,decide (0<=r)=us.any p/\∀n m,N<=n->us.length<m->slices_IndexFunc_api_Frac_api_Frac_L1 n l (f n) (some (-1)) m (i:Int)=some r
 | [],i,hd,_=>by
  refine⟨0,-1,rfl,fun n m _ hm=> ?_⟩
  obtain⟨m,rfl⟩:=left hm
  rw [slices_IndexFunc_api_Frac_api_Frac_L1_s,a5z hd];rfl
 |y::us,i,hd,H=>by
  obtain⟨h1,h2,h3⟩:=Rt.drop_cons hd
  obtain⟨N1,e1⟩:=H y (by simp)
  obtain⟨N,r,hr,ih⟩:=c1e l hl f p us (i+1) h2 (fun z hz=>H z (by simp [hz]))
  rw [List.any_cons]
  cases hp:p y with
  |true=>
   refine⟨N1,(i:Int),decide_eq_true (by omega),fun n m hn hm=> ?_⟩
   obtain⟨m,rfl⟩:=left hm
   have e1:f n y=some (p y):=e1 n (by omega)
   rw [slices_IndexFunc_api_Frac_api_Frac_L1_s,a1z hd,cond_true,h1,Option.bind_some,e1,hp];rfl
  |false=>
   refine⟨max N N1,r,by rw [hr];rfl,fun n m hn hm=> ?_⟩
   obtain⟨m,rfl,hm2⟩:=pred (by simpa using hm)
   have e1:f n y=some (p y):=e1 n (by omega)
   rw [slices_IndexFunc_api_Frac_api_Frac_L1_s,a1z hd,cond_true,h1,Option.bind_some,e1,hp,Option.bind_some,cond_false,Rt.inc64 (by omega)]
   exact ih n m (by omega) hm2
theorem c8u{l:List Frac}(hl:l.length<=1000000)(f:Nat->Frac->Option Bool)(p:Frac->Bool)(hf:∀y,y∈l->Ev (fun n=>f n y) (p y)):Ev (fun n=>a0s n l (f n)) (l.any p):=by
 obtain⟨N,r,hr,h⟩:=c1e l hl f p l 0 rfl hf
 refine⟨N+l.length+1,fun n hn=> ?_⟩
 unfold a0s a2j
 dsimp only
 have e:slices_IndexFunc_api_Frac_api_Frac_L1 n l (f n) (some (-1)) n 0=some r:=h n n (by omega) (by omega)
 rw [e,Option.bind_some,hr]
def badF(w:Frac):Bool:= !a8p w||decide (w.P.Sign<0)
def Lim(k:Nat)(l:List Frac):Prop:=∀w,w∈l->w.P.Digits.length<=k/\w.Q.Digits.length<=k
theorem f0g{w:Frac}{k:Nat}(h:w.P.Digits.length<=k/\w.Q.Digits.length<=k)(hk:k<=30):Ev (fun n=>a8k n w) (badF w):=by
 unfold a8k badF
 refine Ev.bind (c8p h.1 h.2 (by omega)) ?_
 cases hr:a8p w with
 |false=>exact Ev.bind (Ev.then rfl (Ev.pure _)) (Ev.pure _)
 |true=>
  obtain⟨r,rfl,hs⟩:=e3h h hr
  exact Ev.bind (Ev.else rfl (Ev.bind (FSign_ev hs (by omega)) (Ev.pure _))) (Ev.pure _)
theorem d4n(r:Rat):decide (sg r.num<0)=decide (r<0):=by
 rw [e3n]
 rcases b3g r 0 with⟨h1,h2⟩|⟨h1,h2⟩|⟨h1,h2⟩
 ·rw [h2,decide_eq_true h1];rfl
 ·rw [h2,h1];rfl
 ·rw [h2,decide_eq_false (Rat.not_lt.2 (Rat.le_of_lt h1))];rfl
theorem d2k(r:Rat):badF (toF r)=decide (r<0):=by
 unfold badF
 rw [c0j]
 show decide (sg r.num<0)=_
 exact d4n r
theorem c5w{k:Nat}:∀{l:List Frac},Lim k l->l.any badF=false->∃ws:List Rat,l=ws.map toF/\(∀w,w∈ws->0<=w)/\∀w,w∈ws->SmF k w
 | [],_,_=>⟨[],rfl,by simp,by simp⟩
 |x::l,hl,h=>by
  rw [List.any_cons,Bool.or_eq_false_iff]at h
  obtain⟨ws,rfl,h1,h2⟩:=c5w (fun w hw=>hl w (by simp [hw])) h.2
  have hr:a8p x=true:=by
   cases hx:a8p x
   ·have:=h.1;unfold badF at this;rw [hx]at this;cases this
   ·rfl
  obtain⟨r,rfl,hs⟩:=e3h (hl x (by simp)) hr
  have h0:=h.1
  rw [d2k]at h0
  refine⟨r::ws,rfl,?_,?_⟩
  ·intro w hw
   rcases List.mem_cons.1 hw with rfl|hw
   ·exact Rat.not_lt.1 (of_decide_eq_false h0)
   ·exact h1 w hw
  ·intro w hw
   rcases List.mem_cons.1 hw with rfl|hw
   ·exact hs
   ·exact h2 w hw
theorem e2x{ws:List Rat}(h:∀w,w∈ws->0<=w):(ws.map toF).any badF=false:=by
 rw [List.any_eq_false]
 intro x hx
 obtain⟨w,hw,rfl⟩:=List.mem_map.1 hx
 rw [d2k,decide_eq_false (Rat.not_lt.2 (h w hw))];simp
theorem e8x(a b:Int):Ev (fun n=>c1c n a b) (decide (0<=a)&&decide (a<=b)):=by
 unfold c1c
 refine Ev.all fun n=> ?_
 cases decide (0<=a)<;>rfl
theorem f0a(n:Nat)(x:Int):a8j n x=some (!(decide (0<=x)&&decide (x<=200))):=by
 unfold a8j c1c
 cases decide (0<=x)<;>rfl
def b7k(names:List Rt.Bs)(f:Facts)(weights:List Frac):Bool:=
 (((((f.Lifts.length:Int)==(names.length:Int))&&((weights.length:Int)==(names.length:Int)))&&(decide (0<=f.Persons)&&decide (f.Persons<=1000)))&&(decide (0<=f.Flats)&&decide (f.Flats<=1000)))&&
   !(f.Lifts.any fun x=> !(decide (0<=x)&&decide (x<=200)))&& !(weights.any badF)
theorem andE{c d:Bool}{x:Nat->Option Bool}(h:c=true->Ev x d):Ev (fun n=>bif c then x n else some false) (c&&d):=by
 cases c
 ·exact Ev.else rfl (Ev.pure _)
 ·exact Ev.then rfl (h rfl)
theorem d2f{names:List Rt.Bs}{f:Facts}{weights:List Frac}{k:Nat}(hw:Lim k weights)(hk:k<=30)(hl:f.Lifts.length<=1000000)(hwl:weights.length<=1000000):Ev (fun n=>b5c n f weights (names.length:Int)) (b7k names f weights):=by
 unfold b5c b7k
 refine Ev.bind (andE fun _=>Ev.pure _) ?_
 refine Ev.bind (andE fun _=>Ev.bind (e8x _ _) (Ev.pure _)) ?_
 refine Ev.bind (andE fun _=>Ev.bind (e8x _ _) (Ev.pure _)) ?_
 refine Ev.bind (andE fun _=>Ev.bind (c9o hl a8j _ f0a) (Ev.pure _)) ?_
 exact Ev.bind (andE fun _=>Ev.bind (c8u hwl a8k badF (fun y hy=>f0g (hw y hy) hk)) (Ev.pure _)) (Ev.pure _)
theorem d4z{names:List Rt.Bs}{f:Facts}{weights:List Frac}{k:Nat}(hw:Lim k weights)(h:b7k names f weights=true):∃ws:List Rat,weights=ws.map toF/\RF names f ws/\∀w,w∈ws->SmF k w:=by
 unfold b7k at h
 simp only [Bool.and_eq_true,Bool.not_eq_true',decide_eq_true_eq,beq_iff_eq]at h
 obtain⟨⟨⟨⟨⟨h1,h2⟩,h3⟩,h4⟩,h5⟩,h6⟩:=h
 obtain⟨ws,rfl,g1,g2⟩:=c5w hw h6
 rw [List.length_map]at h2
 refine⟨ws,rfl,⟨by omega,by omega,h3.1,h3.2,h4.1,h4.2,fun n hn=> ?_,g1⟩,g2⟩
 rw [List.any_eq_false]at h5
 have:=h5 n hn
 simpa using this
theorem d0a{names:List Rt.Bs}{f:Facts}{ws:List Rat}(h:RF names f ws):b7k names f (ws.map toF)=true:=by
 unfold b7k
 have h1:=h.hl
 have h2:=h.hw
 rw [e2x h.w1,List.length_map]
 have h5:(f.Lifts.any fun x=> !(decide (0<=x)&&decide (x<=200)))=false:=by
  rw [List.any_eq_false]
  intro n hn
  have:=h.l1 n hn
  simp [this]
 rw [h5]
 simp [h.p1,h.p2,h.f1,h.f2,h1,h2]
theorem e2c{r:Rat}{k:Nat}(h:SmF k r)(hk:k<1000000):Ev (fun n=>b5k n (toF r)) (toF r):=by
 unfold b5k
 have h1:=(b2q h).1
 have h2:=(b2q h).2
 exact Ev.bind (Ev.bind (b3n (by omega)) (Ev.bind (b3n (by omega)) (Ev.pure _))) (Ev.pure _)
def fv(names:List Rt.Bs)(f:Facts)(ws:List Rat)(t:Tariff):Rat:=num (mkE names f ws) t.Fee
theorem d9o{ws:List Rat}{k:Nat}(h:∀w,w∈ws->SmF k w):Lim k (ws.map toF):=by
 intro x hx
 obtain⟨w,hw,rfl⟩:=List.mem_map.1 hx
 exact b2q (h w hw)
section
variable{names:List Rt.Bs}{f:Facts}{t:Tariff}(hx:Fit t.Fee)(hn:names.length<4611686018427387904)
include hx hn
theorem d2o{ws:List Rat}{k:Nat}(hsm:∀w,w∈ws->SmF k w)(hk:k<=30)(hk4:4<=k)(hl:names.length<=1000000)(hc:Chk names t)(hrf:RF names f ws):
 Ev (fun n=>a4l n t names f (ws.map toF)) (toF (fv names f ws t),0)/\SmF 3000 (fv names f ws t):=by
 have h1:=hrf.hl
 have h2:=hrf.hw
 obtain⟨j,hj,ht⟩:=hc.2.2
 have hcn:cnt t.Fee<=100:=hc.2.1.2.1.1.2
 have h5:=d6e hrf hk4 hk hsm hn ht hj (by omega)
 have h6:=c9e hrf hk4 hk hsm hn ht hj (by omega)
 have h7:k*cnt t.Fee<=3000:=by have:=Nat.mul_le_mul hk hcn;omega
 have h8:=h6.mono h7
 refine⟨?_,h8⟩
 unfold a4l
 obtain⟨e,he,hq⟩:=d1h hx names hn
 obtain rfl:=hq.2 hc
 refine Ev.bind he (Ev.else rfl ?_)
 refine Ev.bind (d2f (d9o hsm) hk (by omega) (by rw [List.length_map];omega)) ?_
 rw [d0a hrf]
 exact Ev.else rfl (Ev.bind h5 (Ev.bind (e2c h8 (by decide)) (Ev.pure _)))
end
structure FewS(t:Tariff)(names:List Rt.Bs)(f:Facts)(weights:List Frac):Prop where
 fit:Fit t.Fee
 nl:names.length<=8
 ll:f.Lifts.length<=8
 wl:weights.length<=8
 lim:Lim 4 weights
theorem e3d(weights:List Frac)(kont:Nat->Option Bool)(P:Prop)(hk:Tt (fun b=>b=true->P/\weights.length<=8) kont):∀(us:List Frac)(i:Nat),weights.drop i=us->i<=10->
 ∃N r,(r=true->(P/\weights.length<=8)/\Lim 4 us)/\∀n m,N<=n->12-i<m->ref36_Few_L2 n weights (kont n) m (i:Int)=some r
 | [],i,hd,hi=>by
  obtain⟨r,⟨N,h⟩,hr⟩:=hk
  refine⟨N,r,fun h=>⟨hr h,fun w hw=>by cases hw⟩,fun n m hn hm=> ?_⟩
  obtain⟨m,rfl⟩:=left hm
  rw [ref36_Few_L2_s,a5z hd];exact h n hn
 |x::us,i,hd,hi=>by
  obtain⟨h1,h2,h3⟩:=Rt.drop_cons hd
  by_cases h10:i<10
  ·obtain⟨b,⟨N1,e1⟩⟩:∃b,Ev (fun n=>b1k n x 4) b/\(b=true->x.P.Digits.length<=4/\x.Q.Digits.length<=4):=⟨_,f1i x 4,d6p⟩
   obtain⟨⟨N1,e1⟩,hb⟩:=And.intro N1 e1
   obtain⟨N,r,hr,ih⟩:=e3d weights kont P hk us (i+1) h2 (by omega)
   refine⟨max N N1,bif b then r else false,?_,fun n m hn hm=> ?_⟩
   ·cases b with
    |false=>intro h;cases h
    |true=>
     intro h
     obtain⟨g1,g2⟩:=hr h
     refine⟨g1,fun w hw=> ?_⟩
     rcases List.mem_cons.1 hw with rfl|hw
     ·exact hb rfl
     ·exact g2 w hw
   ·obtain⟨m,rfl⟩:∃j,m=j+1:=⟨m-1,by omega⟩
    have e1:b1k n x 4=some b:=e1 n (by omega)
    rw [ref36_Few_L2_s,a1z hd,cond_true,Option.bind_some,decide_eq_true (show(i:Int)<10 by omega),cond_true,h1,Option.bind_some,e1,Option.bind_some]
    cases b with
    |false=>rfl
    |true=>rw [Bool.not_true,cond_false,Rt.inc64 (by omega),ih n m (by omega) (by omega)];rfl
  ·obtain⟨r,⟨N,h⟩,hr⟩:=hk
   refine⟨N,r,fun h=>⟨hr h,?_⟩,fun n m hn hm=> ?_⟩
   ·have:=(hr h).2;omega
   ·obtain⟨m,rfl⟩:=left hm
    rw [ref36_Few_L2_s,a1z hd,cond_true,Option.bind_some,decide_eq_false (show¬(i:Int)<10 by omega)];exact h n hn
theorem e4h(names:List Rt.Bs)(kont:Nat->Option Bool)(P:Prop)(hk:Tt (fun b=>b=true->P) kont):∀(us:List Rt.Bs)(i:Nat),names.drop i=us->i<=10->
 ∃N r,(r=true->P)/\∀n m,N<=n->12-i<m->ref36_Few_L1 n names (kont n) m (i:Int)=some r
 | [],i,hd,hi=>by
  obtain⟨r,⟨N,h⟩,hr⟩:=hk
  refine⟨N,r,hr,fun n m hn hm=> ?_⟩
  obtain⟨m,rfl⟩:=left hm
  rw [ref36_Few_L1_s,a5z hd];exact h n hn
 |x::us,i,hd,hi=>by
  obtain⟨h1,h2,h3⟩:=Rt.drop_cons hd
  by_cases h10:i<10
  ·obtain⟨N,r,hr,ih⟩:=e4h names kont P hk us (i+1) h2 (by omega)
   refine⟨N,bif decide (30<(x.length:Int))then false else r,?_,fun n m hn hm=> ?_⟩
   ·cases decide (30<(x.length:Int))with
    |true=>intro h;cases h
    |false=>exact hr
   ·obtain⟨m,rfl⟩:∃j,m=j+1:=⟨m-1,by omega⟩
    rw [ref36_Few_L1_s,a1z hd,cond_true,Option.bind_some,decide_eq_true (show(i:Int)<10 by omega),cond_true,h1,Option.bind_some]
    cases decide (30<(x.length:Int))with
    |true=>rfl
    |false=>rw [cond_false,Rt.inc64 (by omega),ih n m (by omega) (by omega)];rfl
  ·obtain⟨r,⟨N,h⟩,hr⟩:=hk
   refine⟨N,r,hr,fun n m hn hm=> ?_⟩
   obtain⟨m,rfl⟩:=left hm
   rw [ref36_Few_L1_s,a1z hd,cond_true,Option.bind_some,decide_eq_false (show¬(i:Int)<10 by omega)];exact h n hn
theorem e1n{P:Prop}{c d:Bool}(h:c=true->d=true->P):Tt (fun b=>b=true->P) (fun _:Nat=>bif c then some d else some false):=by
 cases c
 ·exact Tt.pure fun h=>(by cases h)
 ·exact Tt.pure fun h2=>h rfl h2
theorem f0w(t:Tariff)(names:List Rt.Bs)(f:Facts)(weights:List Frac):Tt (fun b=>b=true->FewS t names f weights) (fun n=>b5a n t names f weights):=by
 unfold b5a
 have hk:Tt (fun b=>b=true->(Fit t.Fee/\names.length<=8/\f.Lifts.length<=8)/\weights.length<=8) (fun n=>
  (a7c n t.Fee 60 12).bind fun v1=>
  (bif v1 then some (decide ((t.Name.length:Int)<=30))else some false).bind fun v2=>
  (bif v2 then some (decide ((names.length:Int)<=8))else some false).bind fun v3=>
  (bif v3 then some (decide ((f.Lifts.length:Int)<=8))else some false).bind fun v4=>
  (bif v4 then some (decide ((weights.length:Int)<=8))else some false).bind fun v5=>some v5):=by
  refine Tt.bind (e3r t.Fee 60 12 (by decide) (by decide) (by decide) (by decide)) fun v1 h1=> ?_
  refine Tt.bind (P:=fun b=>b=true->Fit t.Fee) (e1n fun h _=>h1 h) fun v2 h2=> ?_
  refine Tt.bind (P:=fun b=>b=true->Fit t.Fee/\names.length<=8) (e1n fun h h5=>⟨h2 h,by have:=of_decide_eq_true h5;omega⟩) fun v3 h3=> ?_
  refine Tt.bind (P:=fun b=>b=true->Fit t.Fee/\names.length<=8/\f.Lifts.length<=8) (e1n fun h h5=>⟨(h3 h).1,(h3 h).2,by have:=of_decide_eq_true h5;omega⟩) fun v4 h4=> ?_
  refine Tt.bind (P:=fun b=>b=true->(Fit t.Fee/\names.length<=8/\f.Lifts.length<=8)/\weights.length<=8) (e1n fun h h5=>⟨h4 h,by have:=of_decide_eq_true h5;omega⟩) fun v5 h5=> ?_
  exact Tt.pure h5
 obtain⟨N2,r2,hr2,e2⟩:=e3d weights _ _ hk weights 0 rfl (by omega)
 obtain⟨N,r,hr,e⟩:=e4h names (fun n=>ref36_Few_L2 n weights ((fun n=>
  (a7c n t.Fee 60 12).bind fun v1=>
  (bif v1 then some (decide ((t.Name.length:Int)<=30))else some false).bind fun v2=>
  (bif v2 then some (decide ((names.length:Int)<=8))else some false).bind fun v3=>
  (bif v3 then some (decide ((f.Lifts.length:Int)<=8))else some false).bind fun v4=>
  (bif v4 then some (decide ((weights.length:Int)<=8))else some false).bind fun v5=>some v5) n) n 0) _ ⟨r2,⟨max N2 13,fun n hn=>e2 n n (by omega) (by omega)⟩,hr2⟩ names 0 rfl (by omega)
 exact⟨r,⟨max N 13,fun n hn=>e n n (by omega) (by omega)⟩,fun h=>⟨(hr h).1.1.1,(hr h).1.1.2.1,(hr h).1.1.2.2,(hr h).1.2,(hr h).2⟩⟩
end Go.Proofs.YthaegflpecbfgaaGreatDoor.Fe
namespace Go.Proofs.YthaegflpecbfgaaGreatDoor.D
open Go Rt M
theorem e6u(n:Nat)(l:List Int)(kont:Int->Option (List Int))(hl:l.length<1099511627776):∀(r:Nat)(c:List Int)(m:Nat),c.getLast?≠some 0->l=c++List.replicate r 0->∀k,k<=r->k<m->
 a7q n l kont m ((c.length+k:Nat):Int)=kont (c.length:Int):=by
 intro r c m hc hlc k
 induction k generalizing m with
 |zero=>
  intro _ hm
  obtain⟨m,rfl⟩:∃m',m=m'+1:=⟨m-1,by omega⟩
  unfold a7q
  rcases List.eq_nil_or_concat c with rfl|⟨p,d,rfl⟩
  ·rfl
  ·rw [List.concat_eq_append]at*
   have hd:(d==0)=false:=by simpa using hc
   have e0:isub .i64 (((p++ [d]).length+0:Nat):Int) 1=(p.length:Int):=by rw [a1c (by simp<;>omega) (by rw [hlc]at hl;simp at hl⊢;try omega)];simp
   have e1:decide ((0:Int)<(((p++ [d]).length+0:Nat):Int))=true:=by simp<;>omega
   have e2:ix l (p.length:Int)=some d:=by rw [hlc,List.append_assoc];exact a5s p d _ rfl
   rw [e1,e0,e2,cond_true,Option.bind_some,Option.bind_some,hd,cond_false];rfl
 |succ k ih=>
  intro hk hm
  obtain⟨m,rfl⟩:∃m',m=m'+1:=⟨m-1,by omega⟩
  have hlen:l.length=c.length+r:=by rw [hlc];simp
  unfold a7q
  have e0:isub .i64 ((c.length+(k+1):Nat):Int) 1=((c.length+k:Nat):Int):=by rw [a1c (by omega) (by omega)];omega
  have e1:decide ((0:Int)<((c.length+(k+1):Nat):Int))=true:=by simp;omega
  have e2:ix l ((c.length+k:Nat):Int)=some 0:=by
   rw [b1z,hlc,List.getElem?_append_right (by omega),show c.length+k-c.length=k by omega,List.getElem?_replicate,if_pos (by omega)]
  rw [e1,e0,e2,cond_true,Option.bind_some,Option.bind_some,show((0:Int)==0)=true from rfl,cond_true]
  exact ih m (by omega) (by omega)
theorem b5x{l:List Int}(hl:InR l)(hlen:l.length<1099511627776){n:Nat}(hn:l.length<n):a1v n l=some (dig (val l).toNat):=by
 obtain⟨r,hr⟩:=split_dig hl
 have h1:l.length=(dig (val l).toNat).length+r:=by conv=>lhs;rw [hr]
                                                   simp
 unfold a1v
 have h2:=e6u n l (fun(nx2:Int)=>(lsl l 0 nx2).bind fun l2=>(app 8 [] l2).bind fun l3=>some l3) hlen r (dig (val l).toNat) n (b9q _) hr r (Nat.le_refl _) (by omega)
 rw [<-h1]at h2
 rw [h2]
 have h3:=d3g (l:=l) (p:=0) (q:=(dig (val l).toNat).length) (by omega) (by omega)
 rw [show((0:Nat):Int)=0 from rfl]at h3
 rw [h3,Option.bind_some,List.drop_zero]
 have h4:∀c:List Int,l=c++List.replicate r 0->l.take c.length=c:=fun c hc=>by rw [hc];exact List.take_left
 rw [h4 _ hr,b8y (by simp;omega)];rfl
theorem e9d{l:List Int}(s:Int)(hl:InR l)(hlen:l.length<1099511627776){n:Nat}(hn:l.length<n):a1q n s l=some (if(val l).toNat=0 then⟨0,[]⟩else⟨s,dig (val l).toNat⟩):=by
 unfold a1q
 rw [b5x hl hlen hn,Option.bind_some]
 by_cases h:(val l).toNat=0
 ·rw [h,dig_zero,if_pos rfl];rfl
 ·have:=List.length_pos_iff.2 (b6z h)
  rw [if_neg h,show(((dig (val l).toNat).length:Int)==0)=false from beq_false_of_ne (by omega),cond_false]
theorem c0k(n:Nat)(l:List Int)(i:Nat):a4i n l (i:Int)=some ((l.drop i).headD 0):=by
 unfold a4i
 by_cases h:i<l.length
 ·rw [show decide ((i:Int)<(l.length:Int))=true by simpa using h,cond_true,b1z,List.getElem?_eq_getElem h,Option.bind_some,List.drop_eq_getElem_cons h];rfl
 ·rw [show decide ((i:Int)<(l.length:Int))=false by simpa using h,cond_false,List.drop_of_length_le (by omega)];rfl
theorem d2j(n:Nat)(a:Big)(kont:Option Bool)(hl:a.Digits.length<1099511627776):∀(us:List Int)(i m:Nat),a.Digits.drop i=us->us.length<m->a6r n a kont m (i:Int)=bif us.all okd then kont else some false
 | [],i,m+1,hd,_=>by
  unfold a6r
  have:=drop_nil hd
  rw [show decide ((i:Int)<(a.Digits.length:Int))=false by simp;omega];rfl
 |x::xs,i,m+1,hd,hm=>by
  unfold a6r
  obtain⟨f1,f2,f3⟩:=drop_cons hd
  rw [show decide ((i:Int)<(a.Digits.length:Int))=true by simp;omega,cond_true,f1,Option.bind_some]
  have e1:((bif decide (x<0)then some true else(some x).bind fun ex3=>some (decide (1048576<=ex3))):Option Bool)=some (!okd x):=by
   unfold okd
   by_cases h:x<0
   ·rw [show decide (x<0)=true by simpa using h,show decide (0<=x)=false by simp;omega];rfl
   ·rw [show decide (x<0)=false by simpa using h,show decide (0<=x)=true by simp;omega,cond_false,Option.bind_some]
    by_cases h2:x<1048576
    ·rw [show decide (1048576<=x)=false by simp;omega,show decide (x<1048576)=true by simpa using h2];rfl
    ·rw [show decide (1048576<=x)=true by simp;omega,show decide (x<1048576)=false by simpa using h2];rfl
  rw [e1,Option.bind_some,List.all_cons]
  cases h:okd x with
  |false=>rfl
  |true=>
   rw [inc64 (by omega)]
   have:=d2j n a kont hl xs (i+1) m f2 (by simpa using hm)
   simpa using this
 |_,_,0,_,h=>by omega
theorem e1g{a:Big}(hl:a.Digits.length<1099511627776){n:Nat}(hn:a.Digits.length<n):a1n n a=some (a9e a):=by
 unfold a1n
 have h:=fun kont=>d2j n a kont hl a.Digits 0 n rfl hn
 rw [show((0:Nat):Int)=0 from rfl]at h
 rw [h]
 unfold a9e
 cases ha:a.Digits.all okd with
 |false=>rfl
 |true=>
  rw [cond_true,Bool.true_and]
  rcases List.eq_nil_or_concat a.Digits with h0|⟨p,d,h0⟩
  ·rw [h0]
   by_cases hs:a.Sign=0
   ·rw [hs];rfl
   ·have:(a.Sign==0)=false:=by simpa using hs
    rw [if_pos rfl,this]
    cases decide (a.Sign< -1)<;>cases decide (1<a.Sign)<;>rfl
  ·rw [List.concat_eq_append]at h0
   have hne:a.Digits≠ []:=by rw [h0];simp
   have e1:((a.Digits.length:Int)==0)=false:=by rw [h0];simp;omega
   have e2:isub .i64 (a.Digits.length:Int) 1=(p.length:Int):=by rw [a1c (by omega) (by omega),h0];simp
   have e3:ix a.Digits (p.length:Int)=some d:=by rw [h0];exact a5s p d [] rfl
   rw [e1,cond_false,if_neg hne,e2,e3]
   have e4:a.Digits.getLast?.getD 0=d:=by rw [h0];simp
   rw [e4]
   by_cases h1:a.Sign< -1
   ·rw [show decide (a.Sign< -1)=true by simpa using h1,show(a.Sign==1)=false by simp;omega,show(a.Sign==-1)=false by simp;omega];rfl
   ·rw [show decide (a.Sign< -1)=false by simpa using h1]
    by_cases h2:1<a.Sign
    ·rw [show decide (1<a.Sign)=true by simpa using h2,show(a.Sign==1)=false by simp;omega,show(a.Sign==-1)=false by simp;omega];rfl
    ·rw [show decide (1<a.Sign)=false by simpa using h2]
     have:a.Sign=-1∨a.Sign=0∨a.Sign=1:=by omega
     rcases this with h|h|h<;>rw [h]<;>rfl
end Go.Proofs.YthaegflpecbfgaaGreatDoor.D
namespace Go.Proofs.YthaegflpecbfgaaGreatDoor.D
open Go Rt M
theorem b0w(l:List Int)(i:Nat):val (l.drop i)=(l.drop i).headD 0+1048576*val (l.drop (i+1)):=by
 rw [<-List.drop_drop]
 cases l.drop i with
 |nil=>rfl
 |cons d l=>rfl
theorem b2g{l:List Int}{i:Nat}(h:l.length<=i):val (l.drop i)=0:=by rw [List.drop_of_length_le h];rfl
theorem d9j{a b:List Int}(ha:InR a)(hb:InR b)(i:Nat)(h:val (a.drop i)<val (b.drop i)):val a<val b:=by
 induction i with
 |zero=>simpa using h
 |succ i ih=>
  apply ih
  rw [b0w a i,b0w b i]
  have h1:=(InR.drop ha i).headD
  have h2:=(InR.drop hb i).headD
  omega
theorem e3t(n:Nat)(a b:List Int)(ha:InR a)(hb:InR b)(hla:a.length<1099511627776)(hlb:b.length<1099511627776):∀(i m:Nat),i<1099511627776->i<m->val (a.drop i)=val (b.drop i)->
 a7m n a b (some false) m ((i:Int)-1)=some (decide (val a<val b))
 |0,m+1,_,_,h=>by
  unfold a7m
  rw [show decide ((0:Int)<=((0:Nat):Int)-1)=false by decide,cond_false]
  simp only [List.drop_zero]at h
  rw [h];simp
 |i+1,m+1,hi,hm,h=>by
  unfold a7m
  rw [show((i+1:Nat):Int)-1=(i:Int) by omega,show decide (0<=(i:Int))=true by simp,cond_true,c0k,c0k,Option.bind_some,Option.bind_some]
  have e1:=b0w a i
  have e2:=b0w b i
  by_cases hd:(a.drop i).headD 0=(b.drop i).headD 0
  ·rw [show((a.drop i).headD 0 !=(b.drop i).headD 0)=false by simpa using hd,cond_false,a1c (by omega) (by omega)]
   exact e3t n a b ha hb hla hlb i m (by omega) (by omega) (by rw [e1,e2,hd,h])
  ·rw [show((a.drop i).headD 0 !=(b.drop i).headD 0)=true by simpa using hd,cond_true,Option.bind_some,Option.bind_some]
   congr 1
   by_cases hlt:(a.drop i).headD 0<(b.drop i).headD 0
   ·have:=d9j ha hb i (by omega)
    rw [decide_eq_true hlt,decide_eq_true this]
   ·have:=d9j hb ha i (by omega)
    have h3:¬val a<val b:=by omega
    rw [decide_eq_false hlt,decide_eq_false h3]
 |_,0,_,hm,_=>by omega
theorem e3j{a b:List Int}(ha:InR a)(hb:InR b)(hla:a.length<1099511627776)(hlb:b.length<1099511627776){n:Nat}(hn:max a.length b.length<n):a6c n a b=some (decide (val a<val b)):=by
 unfold a6c
 have e:isub .i64 (imax (a.length:Int) (b.length:Int)) 1=((max a.length b.length:Nat):Int)-1:=by
  have:imax (a.length:Int) (b.length:Int)=((max a.length b.length:Nat):Int):=by unfold imax;split<;>omega
  rw [this,a1c (by omega) (by omega)]
 rw [e]
 exact e3t n a b ha hb hla hlb _ n (by omega) hn (by rw [b2g (by omega),b2g (by omega)])
theorem e3g(n:Nat)(a b:List Int)(kont:List Int->Option (List Int))(ha:InR a)(hb:InR b)(hla:a.length<1073741824)(hlb:b.length<1073741824)(V:Int):∀(m i:Nat)(c:Int)(pre:List Int),
 pre.length=i->InR pre->0<=c->c<=1->val pre+pw i*(c+val (a.drop i)+val (b.drop i))=V->(i<=max a.length b.length∨(i=max a.length b.length+1/\c=0))->max a.length b.length+2<=i+m->
 ∃out,a8z n a b kont m c (i:Int) pre=kont out/\InR out/\val out=V/\out.length<=max a.length b.length+1
 |0,i,_,_,_,_,_,_,_,h,h2=>by omega
 |m+1,i,c,pre,hp,hpr,h0,h1,hv,hi,hm=>by
  unfold a8z
  have xr:=(InR.drop ha i).headD
  have yr:=(InR.drop hb i).headD
  have ea:=b0w a i
  have eb:=b0w b i
  by_cases hgo:i<a.length∨i<b.length∨0<c
  ·have e1:(((bif decide ((i:Int)<(a.length:Int))then some true else some (decide ((i:Int)<(b.length:Int)))):Option Bool).bind fun v2=>(bif v2 then some true else some (decide (0<c)):Option Bool))=some true:=by
    by_cases g1:i<a.length
    ·rw [show decide ((i:Int)<(a.length:Int))=true by simpa using g1];rfl
    ·rw [show decide ((i:Int)<(a.length:Int))=false by simpa using g1]
     by_cases g2:i<b.length
     ·rw [show decide ((i:Int)<(b.length:Int))=true by simpa using g2];rfl
     ·rw [show decide ((i:Int)<(b.length:Int))=false by simpa using g2,show decide (0<c)=true by simp;omega];rfl
   have es:iadd .i64 (iadd .i64 ((a.drop i).headD 0) ((b.drop i).headD 0)) c=(a.drop i).headD 0+(b.drop i).headD 0+c:=by rw [a1s (x:=(a.drop i).headD 0) (y:=(b.drop i).headD 0) (by omega) (by omega),a1s (by omega) (by omega)]
   generalize hx:(a.drop i).headD 0=x at*
   generalize hy:(b.drop i).headD 0=y at*
   have hnext:=e3g n a b kont ha hb hla hlb V m (i+1) ((x+y+c)/1048576) (pre++ [(x+y+c) %1048576]) (by simp [hp]) (hpr.append (InR.cons (by omega) (by omega) InR.nil)) (by omega) (by omega)
    (by
     rw [val_append,hp]
     have e3:val [(x+y+c) %1048576]=(x+y+c) %1048576:=by simp [val]
     rw [e3,show pw (i+1)=1048576*pw i from rfl,<-hv,ea,eb]
     have hdm:x+y+c=(x+y+c) %1048576+1048576*((x+y+c)/1048576):=by omega
     generalize (x+y+c) %1048576=r at*
     generalize (x+y+c)/1048576=q at*
     generalize val (a.drop (i+1))=A at*
     generalize val (b.drop (i+1))=B at*
     generalize pw i=p at*
     have hc:c=r+1048576*q-x-y:=by omega
     subst hc
     grind) (by
     by_cases g:i<max a.length b.length
     ·left;omega
     ·right
      rw [List.drop_of_length_le (by omega)]at hx hy
      simp at hx hy
      omega) (by omega)
   obtain⟨out,h3,h4,h5,h6⟩:=hnext
   refine⟨out,?_,h4,h5,h6⟩
   rw [<-h3]
   rw [<-Option.bind_assoc,e1,Option.bind_some,cond_true,c0k,c0k,Option.bind_some,Option.bind_some,hx,hy,es,c3k (by omega) (by decide),Option.bind_some,b8y (by simp;omega),Option.bind_some,c2h (by omega) (by omega) (by decide),Option.bind_some,inc64 (by omega)]
  ·refine⟨pre,?_,hpr,?_,by omega⟩
   ·rw [show decide ((i:Int)<(a.length:Int))=false by simp;omega,show decide ((i:Int)<(b.length:Int))=false by simp;omega,show decide (0<c)=false by simp;omega];rfl
   ·rw [b2g (by omega),b2g (by omega)]at hv
    rw [<-hv,show c=0 by omega];simp
theorem e7y{a b:List Int}(ha:InR a)(hb:InR b)(hla:a.length<1073741824)(hlb:b.length<1073741824):Ev (fun n=>a7s n a b) (dig (val a+val b).toNat):=by
 refine⟨max a.length b.length+3,fun n hn=> ?_⟩
 show a7s n a b=_
 unfold a7s
 obtain⟨out,h1,h2,h3,h4⟩:=e3g n a b (fun(l2:List Int)=>(a1v n l2).bind fun v1=>some v1) ha hb hla hlb (val a+val b) n 0 0 [] rfl InR.nil (by decide) (by decide) (by simp [val,pw]) (.inl (by omega)) (by omega)
 refine Eq.trans h1 ?_
 show(a1v n out).bind _=_
 rw [b5x h2 (by omega) (by omega),h3];rfl
end Go.Proofs.YthaegflpecbfgaaGreatDoor.D
namespace Go.Proofs.YthaegflpecbfgaaGreatDoor.D
open Go Rt M
theorem d1t(n:Nat)(a b:List Int)(kont:List Int->Option (List Int))(ha:InR a)(hb:InR b)(hla:a.length<1073741824)(hlb:b.length<=a.length)(V:Int)(hV:0<=V):∀(us:List Int)(m i:Nat)(c:Int)(pre:List Int),
 a.drop i=us->us.length<m->pre.length=i->InR pre->0<=c->c<=1->val pre+pw i*(val us-val (b.drop i)-c)=V->
 ∃out,a5o n a b kont m c (i:Int) pre=kont out/\InR out/\val out=V/\out.length<=max a.length i
 | [],m+1,i,c,pre,hd,_,hp,hpr,h0,h1,hv=>by
  have hi:=drop_nil hd
  refine⟨pre,?_,hpr,?_,by omega⟩
  ·unfold a5o
   rw [show decide ((i:Int)<(a.length:Int))=false by simp;omega];rfl
  ·rw [b2g (by omega)]at hv
   have h2:=val_lt hpr
   rw [hp]at h2
   have hc:c=0:=by
    rcases(show c=0∨c=1 by omega)with h|h
    ·exact h
    ·subst h;simp only [val]at hv;exfalso
     have:pw i*(0-0-1)=-pw i:=by grind
     omega
   rw [<-hv,hc];simp [val]
 |x::us,m+1,i,c,pre,hd,hm,hp,hpr,h0,h1,hv=>by
  obtain⟨f1,f2,f3⟩:=drop_cons hd
  have xr:=(show InR (x::us) by rw [<-hd];exact InR.drop ha i).head
  have yr:=(InR.drop hb i).headD
  have eb:=b0w b i
  unfold a5o
  rw [show decide ((i:Int)<(a.length:Int))=true by simpa using f3,cond_true,f1,Option.bind_some,c0k,Option.bind_some]
  generalize hy:(b.drop i).headD 0=y at*
  have es:isub .i64 (isub .i64 x y) c=x-y-c:=by rw [a1c (x:=x) (y:=y) (by omega) (by omega),a1c (by omega) (by omega)]
  rw [es]
  have key:∀(q r:Int),x-y-c=r-1048576*q->0<=q->q<=1->0<=r->r<1048576->∃out,((app 8 pre [r]).bind fun l3=>a5o n a b kont m q (iadd .i64 (i:Int) 1) l3)=kont out/\InR out/\val out=V/\out.length<=max a.length i:=by
   intro q r hqr hq0 hq1 hr0 hr1
   obtain⟨out,h3,h4,h5,h6⟩:=d1t n a b kont ha hb hla hlb V hV us m (i+1) q (pre++ [r]) f2 (by simpa using hm) (by simp [hp]) (hpr.append (InR.cons hr0 hr1 InR.nil)) hq0 hq1 (by
    rw [val_append,hp]
    have e3:val [r]=r:=by simp [val]
    rw [e3,show pw (i+1)=1048576*pw i from rfl,<-hv,eb]
    simp only [val]
    generalize val us=A at*
    generalize val (b.drop (i+1))=B at*
    generalize pw i=p at*
    have hc:c=x-y-r+1048576*q:=by omega
    subst hc
    grind)
   exact⟨out,by rw [b8y (by simp;omega),Option.bind_some,inc64 (by omega),h3],h4,h5,by omega⟩
  by_cases hn:x-y-c<0
  ·rw [show decide (x-y-c<0)=true by simpa using hn,cond_true,Option.bind_some,a1s (by omega) (by omega)]
   exact key 1 (x-y-c+1048576) (by omega) (by omega) (by omega) (by omega) (by omega)
  ·rw [show decide (x-y-c<0)=false by simpa using hn,cond_false,Option.bind_some]
   exact key 0 (x-y-c) (by omega) (by omega) (by omega) (by omega) (by omega)
 |_,0,_,_,_,_,h,_,_,_,_,_=>by omega
theorem e0y{a b:List Int}(ha:InR a)(hb:InR b)(hla:a.length<1073741824)(hlb:b.length<=a.length)(h:val b<=val a):Ev (fun n=>a3e n a b) (dig (val a-val b).toNat):=by
 refine⟨a.length+2,fun n hn=> ?_⟩
 show a3e n a b=_
 unfold a3e
 obtain⟨out,h1,h2,h3,h4⟩:=d1t n a b (fun(l2:List Int)=>(a1v n l2).bind fun v1=>some v1) ha hb hla hlb (val a-val b) (by omega) a n 0 0 [] rfl (by omega) rfl InR.nil (by decide) (by decide) (by simp [val,pw])
 refine Eq.trans h1 ?_
 show(a1v n out).bind _=_
 rw [b5x h2 (by omega) (by omega),h3];rfl
theorem d9b(P:List Int)(z:Int)(S:List Int):val (P++z::S)=val P+pw P.length*(z+1048576*val S):=by rw [val_append];rfl
theorem d3z(n:Nat)(a b:List Int)(i:Nat)(x:Int)(kont:List Int->Option (List Int))(hx:ix a (i:Int)=some x)(hxr:0<=x/\x<1048576)(hb:InR b)(hla:a.length<1073741824)(hlb:b.length<1073741824)(W:Int)(hi:i<a.length)
 (hW:W<pw (i+b.length+1)):∀(m k:Nat)(c:Int)(l:List Int),InR l->l.length=a.length+b.length->0<=c->c<1048576->val l+pw (i+k)*(c+x*val (b.drop k))=W->(k<=b.length∨(k=b.length+1/\c=0))->b.length+2<=k+m->
 ∃l',a8c n a b (i:Int) kont m c (k:Int) l=kont l'/\InR l'/\l'.length=a.length+b.length/\val l'=W
 |0,k,_,_,_,_,_,_,_,h,h2=>by omega
 |m+1,k,c,l,hl,hlen,h0,h1,hv,hk,hm=>by
  unfold a8c
  have yr:=(InR.drop hb k).headD
  have eb:=b0w b k
  by_cases hgo:k<b.length∨0<c
  ·have e1:((bif decide ((k:Int)<(b.length:Int))then some true else some (decide (0<c))):Option Bool)=some true:=by
    by_cases g1:k<b.length
    ·rw [show decide ((k:Int)<(b.length:Int))=true by simpa using g1];rfl
    ·rw [show decide ((k:Int)<(b.length:Int))=false by simpa using g1,show decide (0<c)=true by simp;omega];rfl
   have hj:i+k<l.length:=by omega
   have ej:iadd .i64 (i:Int) (k:Int)=((i+k:Nat):Int):=by rw [a1s (by omega) (by omega)];omega
   have hsp:l=l.take (i+k)++l[i+k]::l.drop (i+k+1):=by rw [<-List.drop_eq_getElem_cons hj,List.take_append_drop]
   have hPl:(l.take (i+k)).length=i+k:=by simp;omega
   have hzr:=hl l[i+k] (List.getElem_mem hj)
   have hPr:=InR.take hl (i+k)
   have hSr:=InR.drop hl (i+k+1)
   have hlen2:=congrArg List.length hsp
   simp only [List.length_append,List.length_cons]at hlen2
   generalize l[i+k]=z at*
   generalize l.take (i+k)=P at*
   generalize l.drop (i+k+1)=S at*
   generalize hy:(b.drop k).headD 0=y at*
   have hmul:=b8h (g:=x) hxr.1 yr.1 yr.2
   have em:imul .i64 x y=x*y:=a6w (by omega) (by omega)
   have es:iadd .i64 (iadd .i64 z (imul .i64 x y)) c=z+x*y+c:=by rw [em,a1s (x:=z) (y:=x*y) (by omega) (by omega),a1s (by omega) (by omega)]
   have hc':(z+x*y+c)/1048576<1048576:=by omega
   have hnv:val (P++(z+x*y+c) %1048576::S)+pw (i+(k+1))*((z+x*y+c)/1048576+x*val (b.drop (k+1)))=W:=by
    rw [hsp,d9b,hPl]at hv
    rw [d9b,hPl,show i+(k+1)=(i+k)+1 by omega,show pw (i+k+1)=1048576*pw (i+k)from rfl,<-hv,eb]
    have hdm:z+x*y+c=(z+x*y+c) %1048576+1048576*((z+x*y+c)/1048576):=by omega
    generalize (z+x*y+c) %1048576=r at*
    generalize (z+x*y+c)/1048576=q at*
    generalize val (b.drop (k+1))=B at*
    generalize pw (i+k)=p at*
    generalize val P=vP at*
    generalize val S=vS at*
    have hc:c=r+1048576*q-z-x*y:=by omega
    subst hc
    grind
   have hir:InR (P++(z+x*y+c) %1048576::S):=hPr.append (InR.cons (by omega) (by omega) hSr)
   obtain⟨l',h3,h4,h5,h6⟩:=d3z n a b i x kont hx hxr hb hla hlb W hi hW m (k+1) ((z+x*y+c)/1048576) (P++(z+x*y+c) %1048576::S) hir (by simp only [List.length_append,List.length_cons];omega) (by omega) hc' hnv (by
    by_cases g:k<b.length
    ·left;omega
    ·right
     refine⟨by omega,?_⟩
     have hk2:k=b.length:=by omega
     rw [b2g (l:=b) (by omega),Int.mul_zero,Int.add_zero]at hnv
     have hnn:=val_nonneg hir
     have hp2:=pw_pos (i+(k+1))
     rw [show i+b.length+1=i+(k+1) by omega]at hW
     generalize val (P++(z+x*y+c) %1048576::S)=vv at*
     have hq0:0<=(z+x*y+c)/1048576:=by omega
     generalize (z+x*y+c)/1048576=q at*
     rcases(show q=0∨1<=q by omega)with h|h
     ·exact h
     ·exfalso
      have:=Int.mul_le_mul_of_nonneg_left h (Int.le_of_lt hp2)
      rw [Int.mul_one]at this
      omega) (by omega)
   refine⟨l',?_,h4,h5,h6⟩
   rw [e1,Option.bind_some,cond_true,ej]
   have g1:ix l ((i+k:Nat):Int)=some z:=by rw [hsp];exact a5s _ _ _ (by omega)
   have g2:lset l ((i+k:Nat):Int) ((z+x*y+c) %1048576)=some (P++(z+x*y+c) %1048576::S):=by rw [hsp];exact a9c _ _ _ _ (by omega)
   rw [g1,Option.bind_some,hx,Option.bind_some,c0k,Option.bind_some,hy,es,c3k (by omega) (by decide),Option.bind_some,Option.bind_some,g2,Option.bind_some,c2h (by omega) (by omega) (by decide),Option.bind_some,inc64 (by omega)]
   exact h3
  ·refine⟨l,?_,hl,hlen,?_⟩
   ·rw [show decide ((k:Int)<(b.length:Int))=false by simp;omega,show decide (0<c)=false by simp;omega];rfl
   ·rw [b2g (by omega)]at hv
    rw [<-hv,show c=0 by omega];simp
end Go.Proofs.YthaegflpecbfgaaGreatDoor.D
namespace Go.Proofs.YthaegflpecbfgaaGreatDoor.D
open Go Rt M
theorem d3v(n:Nat)(a b:List Int)(kont:List Int->Option (List Int))(ha:InR a)(hb:InR b)(hla:a.length<1073741824)(hlb:b.length<1073741824)(hn:b.length+2<=n)(T:Int):∀(us:List Int)(i m:Nat)(l:List Int),
 a.drop i=us->us.length<m->InR l->l.length=a.length+b.length->val l<pw (i+b.length)->val l+pw i*(val us*val b)=T->
 ∃l',a4p n a b kont m (i:Int) l=kont l'/\InR l'/\l'.length=a.length+b.length/\val l'=T
 | [],i,m+1,l,hd,_,hl,hlen,_,hv=>by
  refine⟨l,?_,hl,hlen,?_⟩
  ·unfold a4p
   have:=drop_nil hd
   rw [show decide ((i:Int)<(a.length:Int))=false by simp;omega];rfl
  ·rw [<-hv];simp [val]
 |x::us,i,m+1,l,hd,hm,hl,hlen,hlt,hv=>by
  obtain⟨f1,f2,f3⟩:=drop_cons hd
  have xr:=(show InR (x::us) by rw [<-hd];exact InR.drop ha i).head
  unfold a4p
  rw [show decide ((i:Int)<(a.length:Int))=true by simpa using f3,cond_true]
  have hbv:=val_lt hb
  have hb0:=val_nonneg hb
  have hpi:=pw_pos i
  have hW:val l+pw i*(x*val b)<pw (i+b.length+1):=by
   have h1:x*val b<=1048575*pw b.length:=Int.le_trans (Int.mul_le_mul_of_nonneg_right (show x<=1048575 by omega) hb0) (Int.mul_le_mul_of_nonneg_left (Int.le_of_lt hbv) (by decide))
   have h2:=Int.mul_le_mul_of_nonneg_left h1 (Int.le_of_lt hpi)
   rw [d4i]at hlt
   rw [show pw (i+b.length+1)=1048576*pw (i+b.length)from rfl,d4i]
   have h3:pw i*(1048575*pw b.length)=1048575*(pw i*pw b.length):=by grind
   omega
  obtain⟨l',h1,h2,h3,h4⟩:=d3z n a b i x (fun(l5:List Int)=>a4p n a b kont m (iadd .i64 (i:Int) 1) l5) f1 xr hb hla hlb (val l+pw i*(x*val b)) f3 hW n 0 0 l hl hlen (by decide) (by decide) (by simp) (.inl (by omega)) (by omega)
  obtain⟨l2,h5,h6,h7,h8⟩:=d3v n a b kont ha hb hla hlb hn T us (i+1) m l' f2 (by simpa using hm) h2 h3 (by rw [h4,show i+1+b.length=i+b.length+1 by omega];exact hW) (by
   rw [h4,<-hv,show pw (i+1)=1048576*pw i from rfl]
   simp only [val]
   grind)
  refine⟨l2,?_,h6,h7,h8⟩
  refine Eq.trans h1 ?_
  show a4p n a b kont m (iadd .i64 (i:Int) 1) l'=_
  rw [inc64 (by omega)];exact h5
 |_,_,0,_,_,h,_,_,_,_=>by omega
theorem val_zeros:∀k,val (List.replicate k (0:Int))=0
 |0=>rfl
 |k+1=>by rw [List.replicate_succ];simp only [val,val_zeros k];rfl
theorem d9y(k:Nat):InR (List.replicate k (0:Int)):=fun e he=>by rw [(List.mem_replicate.1 he).2];decide
theorem d9v{a b:List Int}(ha:InR a)(hb:InR b)(hla:a.length<536870912)(hlb:b.length<536870912){n:Nat}(hn:a.length+b.length+2<n):a4j n a b=some (dig (val a*val b).toNat):=by
 unfold a4j
 obtain⟨l',h1,h2,h3,h4⟩:=d3v n a b (fun(l3:List Int)=>(a1v n l3).bind fun v1=>some v1) ha hb (by omega) (by omega) (by omega) (val a*val b) a 0 n (List.replicate (a.length+b.length) 0) rfl (by omega) (d9y _) (by simp) (by rw [val_zeros];exact pw_pos _) (by rw [val_zeros];simp [pw])
 rw [show iadd .i64 (a.length:Int) (b.length:Int)=((a.length+b.length:Nat):Int) by rw [a1s (by omega) (by omega)];omega,c3y (by omega),Option.bind_some]
 refine Eq.trans h1 ?_
 show(a1v n l').bind _=_
 rw [b5x h2 (by omega) (by omega),h4];rfl
theorem c9d{u v n:Nat}(hu:(dig u).length<536870912)(hv:(dig v).length<536870912)(hn:(dig u).length+(dig v).length+2<n):a4j n (dig u) (dig v)=some (dig (u*v)):=by
 rw [d9v (a2b u) (a2b v) hu hv hn,a1l,a1l,<-Int.natCast_mul,Int.toNat_natCast]
theorem d0w(n:Nat)(b r:Nat)(kont:Int->Option (List Int×List Int))(hb:0<b)(hlb:(dig b).length<536870900)(hlr:(dig r).length<536870900)(hn:(dig b).length+(dig r).length+8<n):∀(m:Nat)(lo hi:Nat),
 hi-lo<m->lo<hi->hi<=1048576->lo*b<=r->r<hi*b->a7p n (dig b) (dig r) kont m (lo:Int) (hi:Int)=kont ((r/b:Nat):Int)
 |0,_,_,h,_,_,_,_=>by omega
 |m+1,lo,hi,hm,hlt,hh,h1,h2=>by
  unfold a7p
  rw [a1c (by omega) (by omega)]
  by_cases hg:1<hi-lo
  ·rw [show decide (1<(hi:Int)-(lo:Int))=true by simp;omega,cond_true,a1s (by omega) (by omega),c2h (by omega) (by omega) (by decide),Option.bind_some]
   have e1:((lo:Int)+(hi:Int))/2=(((lo+hi)/2:Nat):Int):=by omega
   rw [e1]
   generalize hmid:(lo+hi)/2=mid at*
   have e2:a4j n (dig b) [(mid:Int)]=some (dig (b*mid)):=by
    rw [d9v (a2b b) (InR.cons (by omega) (by omega) InR.nil) (by omega) (by simp) (by simp;omega),a1l]
    have:val [(mid:Int)]=mid:=by simp [val]
    rw [this,<-Int.natCast_mul,Int.toNat_natCast]
   have hbm:(dig (b*mid)).length<=(dig b).length+1:=by
    have hs1:Sm (dig b).length (b:Int):=a6n (by rw [Int.natAbs_natCast];exact Nat.le_refl _)
    have hs2:Sm 1 (mid:Int):=by unfold Sm;rw [Int.natAbs_natCast,show pw 1=1048576 by decide];omega
    have:=a1k (hs1.mul hs2)
    rwa [<-Int.natCast_mul,Int.natAbs_natCast]at this
   rw [e2,Option.bind_some,e3j (a2b r) (a2b (b*mid)) (by omega) (by omega) (by omega),Option.bind_some,a1l,a1l]
   by_cases hl:r<b*mid
   ·rw [show decide ((r:Int)<((b*mid:Nat):Int))=true by rw [decide_eq_true_eq];omega,cond_true]
    exact d0w n b r kont hb hlb hlr hn m lo mid (by omega) (by omega) (by omega) h1 (by rw [Nat.mul_comm];exact hl)
   ·rw [show decide ((r:Int)<((b*mid:Nat):Int))=false by rw [decide_eq_false_iff_not];omega,cond_false]
    exact d0w n b r kont hb hlb hlr hn m mid hi (by omega) (by omega) hh (by rw [Nat.mul_comm];omega) h2
  ·rw [show decide (1<(hi:Int)-(lo:Int))=false by simp;omega,cond_false]
   have:hi=lo+1:=by omega
   subst this
   have:r/b=lo:=by
    apply Nat.div_eq_of_lt_le
    ·exact h1
    ·exact h2
   rw [this]
end Go.Proofs.YthaegflpecbfgaaGreatDoor.D
namespace Go.Proofs.YthaegflpecbfgaaGreatDoor.D
open Go Rt M
theorem e7i{a b:List Int}(ha:InR a)(hb:InR b)(hla:a.length<1073741824)(hlb:b.length<=a.length)(h:val b<=val a){n:Nat}(hn:a.length+2<=n):a3e n a b=some (dig (val a-val b).toNat):=by
 unfold a3e
 obtain⟨out,h1,h2,h3,h4⟩:=d1t n a b (fun(l2:List Int)=>(a1v n l2).bind fun v1=>some v1) ha hb hla hlb (val a-val b) (by omega) a n 0 0 [] rfl (by omega) rfl InR.nil (by decide) (by decide) (by simp [val,pw])
 refine Eq.trans h1 ?_
 show(a1v n out).bind _=_
 rw [b5x h2 (by omega) (by omega),h3];rfl
theorem d5y{x H b:Nat}(hb:0<b):(x+1048576*H)/b=1048576*(H/b)+(x+1048576*(H %b))/b/\(x+1048576*H) %b=(x+1048576*(H %b)) %b:=by
 have h1:=Nat.div_add_mod H b
 have e:x+1048576*H=(x+1048576*(H %b))+b*(1048576*(H/b)):=by
  generalize H/b=q at*
  generalize H %b=r at*
  rw [<-h1]
  grind
 rw [e,Nat.add_mul_div_left _ _ hb,Nat.add_mul_mod_self_left]
 omega
theorem d5e{v:Nat}(h:v<1048576):(dig v).length<=1:=by
 have h1:Sm 1 (v:Int):=by unfold Sm;rw [Int.natAbs_natCast,show pw 1=1048576 by decide];omega
 have:=a1k h1
 rwa [Int.natAbs_natCast]at this
theorem d5q(n:Nat)(a:List Int)(b:Nat)(kont:List Int->List Int->Option (List Int×List Int))(ha:InR a)(hb:0<b)(hla:a.length<536870800)(hlb:(dig b).length<536870800)(hn:a.length+2*(dig b).length+1048600<n):∀(i m:Nat)(H:Nat)(qs:List Int),
 i<=a.length->i<m->val (a.drop i)=H->InR qs->qs.length=a.length-i->val qs=((H/b:Nat):Int)->
 ∃out,a6h n a (dig b) kont m (dig (H %b)) ((i:Int)-1) (List.replicate i 0++qs)=kont (dig ((val a).toNat %b)) out/\InR out/\out.length=a.length/\val out=(((val a).toNat/b:Nat):Int)
 |0,m+1,H,qs,_,_,hH,hq,hql,hqv=>by
  refine⟨qs,?_,hq,by omega,?_⟩
  ·unfold a6h
   rw [show decide ((0:Int)<=((0:Nat):Int)-1)=false by decide,cond_false]
   rw [List.drop_zero]at hH
   rw [hH];rfl
  ·rw [List.drop_zero]at hH
   rw [hqv,hH];rfl
 |i+1,m+1,H,qs,hi,hm,hH,hq,hql,hqv=>by
  unfold a6h
  have hia:i<a.length:=by omega
  have hxr:=ha a[i] (List.getElem_mem hia)
  have hvd:=b0w a i
  rw [List.drop_eq_getElem_cons hia]at hvd
  simp only [List.headD_cons]at hvd
  rw [<-List.drop_eq_getElem_cons hia]at hvd
  rw [show((i+1:Nat):Int)-1=(i:Int) by omega,show decide (0<=(i:Int))=true by simp,cond_true,b1z,List.getElem?_eq_getElem hia,Option.bind_some]
  generalize a[i]=x at*
  obtain⟨X,rfl⟩:=Int.eq_ofNat_of_zero_le hxr.1
  have hmod:=Nat.mod_lt H hb
  have hlr:=a4o (Nat.le_of_lt hmod)
  obtain⟨s1,s2⟩:=d5y (x:=X) (H:=H) hb
  have hr':X+1048576*(H %b)<1048576*b:=by omega
  have hvl:val ((X:Int)::dig (H %b))=((X+1048576*(H %b):Nat):Int):=by simp only [val,a1l];omega
  rw [b8y (by simp;omega),Option.bind_some,List.singleton_append,b5x (InR.cons hxr.1 hxr.2 (a2b _)) (by simp;omega) (by simp;omega),Option.bind_some,hvl,Int.toNat_natCast]
  have hlr':(dig (X+1048576*(H %b))).length<=(dig b).length+1:=by
   have h1:=c0e (l:=(X:Int)::dig (H %b)) (InR.cons hxr.1 hxr.2 (a2b _))
   rw [hvl,Int.toNat_natCast]at h1
   simp only [List.length_cons]at h1
   omega
  generalize hR:X+1048576*(H %b)=R at*
  have hlo:R/b<1048576:=by rw [Nat.div_lt_iff_lt_mul hb];omega
  have hlob:b*(R/b)<=R:=Nat.mul_div_le R b
  have h2:=d0w n b R (fun(lo2:Int)=>
   (ix (List.replicate (i+1) 0++qs) (i:Int)).bind fun _=>
   (lset (List.replicate (i+1) 0++qs) (i:Int) lo2).bind fun l5=>
   (a1v n [lo2]).bind fun v3=>
   (a4j n (dig b) v3).bind fun v4=>
   (a3e n (dig R) v4).bind fun v5=>
   a6h n a (dig b) kont m v5 (isub .i64 (i:Int) 1) l5) hb (by omega) (by omega) (by omega) n 0 1048576 (by omega) (by omega) (by omega) (by omega) (by omega)
  generalize hL:R/b=L at*
  have e1:List.replicate (i+1) (0:Int)++qs=List.replicate i 0++0::qs:=by rw [List.replicate_succ',List.append_assoc];rfl
  have e2:ix (List.replicate (i+1) (0:Int)++qs) (i:Int)=some 0:=by rw [e1];exact a5s _ _ _ (by simp)
  have e3:lset (List.replicate (i+1) (0:Int)++qs) (i:Int) ((L:Nat):Int)=some (List.replicate i 0++((L:Nat):Int)::qs):=by rw [e1];exact a9c _ _ _ _ (by simp)
  have e4:a1v n [((L:Nat):Int)]=some (dig (L)):=by
   rw [b5x (InR.cons (by omega) (by omega) InR.nil) (by simp) (by simp;omega)]
   simp [val]
  have hl1:=d5e hlo
  have e5:a4j n (dig b) (dig (L))=some (dig (b*(L))):=c9d (by omega) (by omega) (by omega)
  have e6:a3e n (dig R) (dig (b*(L)))=some (dig (R %b)):=by
   have h3:=a4o hlob
   rw [e7i (a2b _) (a2b _) (by omega) h3 (by rw [a1l,a1l];omega) (by omega),a1l,a1l]
   congr 2
   have:=Nat.div_add_mod R b
   rw [hL]at this
   omega
  have hnext:=d5q n a b kont ha hb hla hlb hn i m (X+1048576*H) (((L:Nat):Int)::qs) (by omega) (by omega) (by rw [hvd,hH];omega) (InR.cons (by omega) (by omega) hq) (by simp;omega) (by
   rw [s1];simp only [val];rw [hqv];omega)
  obtain⟨out,h4,h5,h6,h7⟩:=hnext
  refine⟨out,?_,h5,h6,h7⟩
  refine Eq.trans h2 ?_
  show(ix (List.replicate (i+1) 0++qs) (i:Int)).bind _=_
  rw [e2,Option.bind_some,e3,Option.bind_some,e4,Option.bind_some,e5,Option.bind_some,e6,Option.bind_some,a1c (by omega) (by omega),<-h4,s2]
 |_,0,_,_,_,h,_,_,_,_=>by omega
theorem e8v{A b:Nat}(hb:0<b)(hla:(dig A).length<536870800)(hlb:(dig b).length<536870800){n:Nat}(hn:(dig A).length+2*(dig b).length+1048600<n):a8m n (dig A) (dig b)=some (dig (A/b),dig (A %b)):=by
 unfold a8m
 obtain⟨out,h1,h2,h3,h4⟩:=d5q n (dig A) b (fun(rx2:List Int)(l3:List Int)=>(a1v n l3).bind fun v1=>some (v1,rx2)) (a2b A) hb hla hlb hn (dig A).length n 0 [] (Nat.le_refl _) (by omega) (by rw [b2g (Nat.le_refl _)];rfl) InR.nil (by simp) (by rw [Nat.zero_div];rfl)
 rw [Nat.zero_mod,dig_zero,List.append_nil]at h1
 rw [c3y (by omega),Option.bind_some,a1c (by omega) (by omega)]
 refine Eq.trans h1 ?_
 show(a1v n out).bind _=_
 rw [b5x h2 (by omega) (by omega),h4,a1l,Int.toNat_natCast,Int.toNat_natCast];rfl
end Go.Proofs.YthaegflpecbfgaaGreatDoor.D
