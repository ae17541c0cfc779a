/- Several texts in one, for FormStraight.card: what the theorem leans on. -/
import Derived.Test.YthaegflpecbfgaaGreatDoorRows
import Derived.Test.YthaegflpecbfgaaGreatDoorPs3
set_option maxHeartbeats 1000000
set_option maxRecDepth 1000000
set_option linter.unusedVariables false
set_option linter.unusedSimpArgs false
namespace Go.Proofs.YthaegflpecbfgaaGreatDoor.Rt
open Go Go.RowKit
set_option linter.unusedVariables false
set_option linter.unusedSimpArgs false
structure Fv{P:Program}(T:Tbl P)where
 α:Type
 ρ:Type
 az:α->List (AV T.ty)
 m:α->Option ρ
 res:ρ->AV T.ty
section
variable{P:Program}{T:Tbl P}
def FvV(T:Tbl P)(F:Frz)(u:Value)(Φ:Fv T):Prop:=∃f cap,u= .func (.func f) #[] cap/\Ent P f/\∀F',F.le F'->T.gl F'->∀(q:Φ.α)r,Φ.m q=some r->∀w us,Sat F' w->ConcL T.rp [] F' (Φ.az q) us->
 Calls P f (us.toArray++cap) w fun e w'=>∃v F2,e= .returned v/\HS F' w [] F2 [] w'/\Conc T.rp [] F2 (Φ.res r) v
theorem FvV.mono{F F':Frz}{u:Value}{Φ:Fv T}(hF:F.le F')(h:FvV T F u Φ):FvV T F' u Φ:=by
 obtain⟨f,cap,h1,h2,h3⟩:=h
 exact⟨f,cap,h1,h2,fun F2 hF2=>h3 F2 (hF.trans hF2)⟩
def Tbl.plus(T:Tbl P)(Φ:Fv T)(u:Value):Tbl P:={T with
 gl:=fun F=>T.gl F/\FvV T F u Φ
 glMono:=fun hF h=>⟨T.glMono hF h.1,h.2.mono hF⟩}
theorem FnC.up{Φ:Fv T}{u:Value}{f:FuncId}{ρ:Type}{az:List (AV T.ty)}{m:Option ρ}{res:ρ->AV T.ty}(h:FnC T f az m res):FnC (T.plus Φ u) f az m res:=
 ⟨h.1,fun r hr w F hs hg=>h.2 r hr w F hs hg.1⟩
def FnH(T:Tbl P)(f:FuncId){ρ:Type}(az:List (AV T.ty))(Φ:Fv T)(m:Option ρ)(res:ρ->AV T.ty):Prop:=
 Ent P f/\∀r,m=some r->∀w F,Sat F w->T.gl F->∀us u,ConcL T.rp [] F az us->FvV T F u Φ->Calls P f (us++ [u]).toArray w fun e w'=>∃v F',e= .returned v/\HS F w [] F' [] w'/\Conc T.rp [] F' (res r) v
theorem FnH.up{Φ Ψ:Fv T}{u:Value}{f:FuncId}{ρ:Type}{az:List (AV T.ty)}{m:Option ρ}{res:ρ->AV T.ty}(h:FnH T f az Φ m res):FnH (T.plus Ψ u) f az ⟨Φ.α,Φ.ρ,Φ.az,Φ.m,Φ.res⟩ m res:=
 ⟨h.1,fun r hr w F hs hg us u2 hu hv=>h.2 r hr w F hs hg.1 us u2 hu (by
  obtain⟨f2,cap,g1,g2,g3⟩:=hv
  exact⟨f2,cap,g1,g2,fun F' hF' hgl q r hr w us hs hc=>g3 F' hF' ⟨hgl,hg.2.mono hF'⟩ q r hr w us hs hc⟩)⟩
variable{n:Nat}{F0:Frz}{w0:World}{X:List Nat}{ρ:Type}{Q:Exit->Act->World->Prop}{Kz Ky:Snap}
theorem b2v{f:FuncId}{fn:Func}{c:Code}(hf:P.funcs[f]?=some fn)(hb:fn.body=some c)(hn:fn.ntmps=n){az:List (AV T.ty)}(hle:Nat.ble (az.length+1) n=true)(he:Ent P f){Φ:Fv T}{m:Option ρ}{res:ρ->AV T.ty}
 (h:∀F0 w0 r u,G (T.plus Φ u) (retQ (T.plus Φ u) fn F0 w0 res r) n F0 w0 [] Snap.nil r m ⟨.code c,[],argE 0 (az++ [.val u]),[]⟩):FnH T f az Φ m res:=by
 refine⟨he,fun r hr w F hs hg us u hus hv=> ?_⟩
 refine a2g n hf hb hn (by rw [List.length_append,hus.len];exact hle) ?_
 have h1:ConcL T.rp [] F (az++ [.val u]) (us++ [u]):=hus.app ⟨u,[],rfl,rfl,rfl⟩
 exact h F w r u hr [] F _ w (c0o 0 h1) ⟨rfl,fun i o hi=>by simp at hi⟩ (HS.init hs) ⟨fun j b hb=>(by simp at hb),hg,hv⟩
end
section
variable{P:Program}(T:Tbl P)
def d7z{α:Type}:List α->Option (List α×α)
 | []=>none
 | [x]=>some ([],x)
 |x::l=>match d7z l with
  |some (r,y)=>some (x::r,y)
  |none=>none
structure HV(ty:Nat->Type)where
 f:FuncId
 az:List (AV ty)
 y:AV ty
 nx:AV ty->St ty
def evKh(n:Nat)(s:St T.ty):Option (HV T.ty):=match s with
 |⟨.ops all (o::l),k,e,H⟩=>match a9b all e o.guard,o.dst,o.op with
  |true,some d,.call ⟨.value c,args,_⟩=>match Nat.blt d n,opA e c,opL e args.toList with
   |true,some y,some az=>match calA y with
    |some (f,[])=>match frzW T (H.length+1) az e H with
     |some (as',e',H')=>match d7z as' with
      |some (as2,z)=>some ⟨f,as2,z,fun v=>⟨.ops all l,k,(d,v)::e',H'⟩⟩
      |none=>none
     |none=>none
    |_=>none
   |_,_,_=>none
  |_,_,_=>none
 |_=>none
def evKf(n:Nat)(s:St T.ty):Option (AV T.ty×List (AV T.ty)×(AV T.ty->St T.ty)):=match s with
 |⟨.ops all (o::l),k,e,H⟩=>match a9b all e o.guard,o.dst,o.op with
  |true,some d,.call ⟨.value c,args,_⟩=>match Nat.blt d n,opA e c,opL e args.toList with
   |true,some y,some az=>match frzW T (H.length+1) az e H with
    |some (as',e',H')=>some (y,as',fun v=>⟨.ops all l,k,(d,v)::e',H'⟩)
    |none=>none
   |_,_,_=>none
  |_,_,_=>none
 |_=>none
end
section
variable{P:Program}{T:Tbl P}{n:Nat}{F0:Frz}{w0:World}{X:List Nat}{ρ:Type}{Q:Exit->Act->World->Prop}{Kz Ky:Snap}
theorem d3n{α:Type}:∀{l r:List α}{y:α},d7z l=some (r,y)->l=r++ [y]
 | [],_,_,h=>by cases h
 | [x],_,_,h=>by cases h;rfl
 |x::x2::l,r,y,h=>by
  simp only [d7z]at h
  split at h
  ·rename_i r' y' h'
   cases h
   rw [d3n h'];rfl
  ·cases h
theorem ConcL.split{ty:Nat->Type}{rp:∀c,Rp (ty c)}{R:List OE}{F:Frz}:∀{l l2:List (AV ty)}{us:List Value},ConcL rp R F (l++l2) us->∃a b,us=a++b/\ConcL rp R F l a/\ConcL rp R F l2 b
 | [],l2,us,h=>⟨[],us,rfl,rfl,h⟩
 |x::l,l2,us,⟨v,k,h1,h2,h3⟩=>by
  obtain⟨a,b,e,g1,g2⟩:=ConcL.split h3
  exact⟨v::a,b,by rw [h1,e];rfl,⟨v,a,rfl,h2,g1⟩,g2⟩
def FvA(T:Tbl P)(y:AV T.ty)(Φ:Fv T):Prop:=∀R F v,T.gl F->Conc T.rp R F y v->FvV T F v Φ
theorem fvA{y:AV T.ty}{Φ:Fv T}{f:FuncId}{caps:List (AV T.ty)}(hy:calA y=some (f,caps))(hp:a8v caps=true)(hF:∀q,FnC T f (Φ.az q++caps) (Φ.m q) Φ.res)(q0:Φ.α):FvA T y Φ:=by
 intro R F v hg hc
 obtain⟨cs,rfl,g⟩:=d1r hy hc
 refine⟨f,cs.toArray,rfl,(hF q0).1,fun F' hF' hgl q r hr w us hs hu=> ?_⟩
 have:=(hF q).2 r hr w F' hs hgl (us++cs) (hu.app ((g.pure hp).mono (c9c hF')))
 simpa using this
theorem b6k{Φ:Fv T}{u:Value}:FvA (T.plus Φ u) (.val u) ⟨Φ.α,Φ.ρ,Φ.az,Φ.m,Φ.res⟩:=by
 intro R F v hg hc
 simp only [Conc]at hc
 subst hc
 obtain⟨f,cap,h1,h2,h3⟩:=hg.2
 exact⟨f,cap,h1,h2,fun F' hF' hgl q r hr w us hs hu=>h3 F' hF' hgl.1 q r hr w us hs hu⟩
theorem e5t{s:St T.ty}{q:HV T.ty}(h:evKh T n s=some q){σ:Type}{az:List (AV T.ty)}{Φ:Fv T}{mr:Option σ}{res:σ->AV T.ty}(hF:FnH T q.f az Φ mr res)(hc:cnvL q.az az=az)(hp:a8v az=true)(hv:FvA T q.y Φ){r:σ}(hr:mr=some r)
 (k:Sm T Q n F0 w0 X Kz (q.nx (res r))):Sm T Q n F0 w0 X Kz s:=by
 unfold evKh at h
 split at h
 ·rename_i all o l its e H
  split at h
  ·rename_i d c args ts hg hd ho
   split at h
   ·rename_i y as0 hn hf hl
    split at h
    ·rename_i f hcal
     split at h
     ·rename_i as' e' H' hz
      split at h
      ·rename_i as2 z hla
       cases h
       dsimp only at hF hc k hv
       intro R F m w h1 h2 h3 hX
       obtain⟨us,g1,g2⟩:=c0u h1 hl
       obtain⟨u,g3,g4⟩:=a0v h1 hf
       obtain⟨cs,rfl,g5⟩:=d1r hcal g4
       simp only [ConcL]at g5
       subst g5
       obtain⟨R',F',k1,k2,k3,k4,k5,k6⟩:=b0j hz h1 h2 h3 hX g2
       rw [d3n hla]at k6
       obtain⟨us1,us2,rfl,k61,k62⟩:=k6.split
       obtain⟨uz,_,rfl,k8,k9⟩:=k62
       simp only [ConcL]at k9
       subst k9
       have k7:=(k61.cnv az)
       rw [hc]at k7
       obtain⟨dst,op,type,pos,after,guard⟩:=o
       dsimp only at hg hd ho
       subst hd;subst ho
       have:=a1r (P:=P) (Q:=kq P Kz Q its) (opr:=all) (rest:=l) (ty:=type) (pos:=pos) (es:=after) (ts:=ts) (R:=fun v F' O'=>O'= []/\Conc T.rp [] F' (res r) v) hF.1 (a3g h1 hg) hn g3 g1 k4
        ((hF.2 r hr w F' k4.sat k5.2 us1 uz (k7.pure hp) (hv R' F' uz k5.2 k8)).mono fun _ _⟨v,F2,e1,e2,e3⟩=>⟨v,F2,[],e1,e2,rfl,e3⟩)
        (fun v F2 O' w' hle hS⟨e1,e2⟩=>by
         subst e1
         exact k R' F2 ((d,v)::m) w' ((k2.mono (Keep.frz hle)).put (e2.mono (c9c (Frz.refl F2)))) (k3.mono (Keep.frz hle)) hS (k5.keep (Keep.frz hle)))
       show RW P all _ _ _ _ _
       simpa using this
      ·cases h
     ·cases h
    ·cases h
   ·cases h
  ·cases h
 ·cases h
theorem e7f{s:St T.ty}{y:AV T.ty}{as0:List (AV T.ty)}{nx:AV T.ty->St T.ty}(h:evKf T n s=some (y,as0,nx)){Φ:Fv T}(hv:FvA T y Φ){q:Φ.α}(hc:cnvL as0 (Φ.az q)=Φ.az q)(hp:a8v (Φ.az q)=true){r:Φ.ρ}(hr:Φ.m q=some r)
 (k:Sm T Q n F0 w0 X Kz (nx (Φ.res r))):Sm T Q n F0 w0 X Kz s:=by
 unfold evKf at h
 split at h
 ·rename_i all o l its e H
  split at h
  ·rename_i d c args ts hg hd ho
   split at h
   ·rename_i y' as1 hn hf hl
    split at h
    ·rename_i as' e' H' hz
     cases h
     intro R F m w h1 h2 h3 hX
     obtain⟨us,g1,g2⟩:=c0u h1 hl
     obtain⟨u,g3,g4⟩:=a0v h1 hf
     obtain⟨f,cap,rfl,hE,hC⟩:=hv R F u hX.2 g4
     obtain⟨R',F',k1,k2,k3,k4,k5,k6⟩:=b0j hz h1 h2 h3 hX g2
     have k7:=(k6.cnv (Φ.az q))
     rw [hc]at k7
     obtain⟨dst,op,type,pos,after,guard⟩:=o
     dsimp only at hg hd ho
     subst hd;subst ho
     have:=d0x (P:=P) (Q:=kq P Kz Q its) (opr:=all) (rest:=l) (ty:=type) (pos:=pos) (es:=after) (ts:=ts) (first:= #[]) (cap:=cap) (R:=fun v F' O'=>O'= []/\Conc T.rp [] F' (Φ.res r) v) hE (a3g h1 hg) hn g3 g1 k4
      (by
       have h9:=(hC F' k1 k5.2 q r hr w us k4.sat (k7.pure hp)).mono fun _ _⟨v,F2,e1,e2,e3⟩=>(⟨v,F2,[],e1,e2,rfl,e3⟩:∃v F2 O',_=Ending.returned v/\HS F' w [] F2 O' _/\O'= []/\Conc T.rp [] F2 (Φ.res r) v)
       simpa using h9)
      (fun v F2 O' w' hle hS⟨e1,e2⟩=>by
       subst e1
       exact k R' F2 ((d,v)::m) w' ((k2.mono (Keep.frz hle)).put (e2.mono (c9c (Frz.refl F2)))) (k3.mono (Keep.frz hle)) hS (k5.keep (Keep.frz hle)))
     show RW P all _ _ _ _ _
     simpa using this
    ·cases h
   ·cases h
  ·cases h
 ·cases h
theorem gKh{r:ρ}{σ:Type}{x:Option σ}{g:σ->Option ρ}{f:FuncId}{as0 az:List (AV T.ty)}{y:AV T.ty}{Φ:Fv T}{res:σ->AV T.ty}{nx:AV T.ty->St T.ty}{s:St T.ty}(hF:FnH T f az Φ x res)(h:evKh T n (rn T n s)=some ⟨f,as0,y,nx⟩)(hc:cnvL as0 az=az)(hp:a8v az=true)(hv:FvA T y Φ)
 (k:∀v,G T Q n F0 w0 X Kz r (g v) (nx (res v))):G T Q n F0 w0 X Kz r (x.bind g) s:=fun hm=>by
 obtain⟨v,hv',hm⟩:=bind_some hm
 exact a7k (e5t h hF hc hp hv hv' (k v hm))
theorem gKf{r:ρ}{y:AV T.ty}{Φ:Fv T}(hv:FvA T y Φ)(q:Φ.α){g:Φ.ρ->Option ρ}{as0:List (AV T.ty)}{nx:AV T.ty->St T.ty}{s:St T.ty}(h:evKf T n (rn T n s)=some (y,as0,nx))(hc:cnvL as0 (Φ.az q)=Φ.az q)(hp:a8v (Φ.az q)=true)
 (k:∀v,G T Q n F0 w0 X Kz r (g v) (nx (Φ.res v))):G T Q n F0 w0 X Kz r ((Φ.m q).bind g) s:=fun hm=>by
 obtain⟨v,hv',hm⟩:=bind_some hm
 exact a7k (e7f h hv hc hp hv' (k v hm))
theorem gKv{Φ:Fv T}{u:Value}{r:ρ}(q:Φ.α){g:Φ.ρ->Option ρ}{as0:List (AV T.ty)}{nx:AV T.ty->St T.ty}{s:St T.ty}(h:evKf (T.plus Φ u) n (rn (T.plus Φ u) n s)=some (.val u,as0,nx))(hc:cnvL as0 (Φ.az q)=Φ.az q)(hp:a8v (Φ.az q)=true)
 (k:∀v,G (T.plus Φ u) Q n F0 w0 X Kz r (g v) (nx (Φ.res v))):G (T.plus Φ u) Q n F0 w0 X Kz r ((Φ.m q).bind g) s:=
 gKf (T:=T.plus Φ u) (Φ:=⟨Φ.α,Φ.ρ,Φ.az,Φ.m,Φ.res⟩) b6k q h hc hp k
end
mutual
def AV.subB{ty:Nat->Type}(i:Nat)(r:Nat->AV ty)(s:Nat->Nat->AV ty):AV ty->AV ty
 | .agg l=> .agg (AV.subBL i r s l)
 | .tup l=> .tup (AV.subBL i r s l)
 | .clo f l=> .clo f (AV.subBL i r s l)
 | .fb l o=> .fb (AV.subBL i r s l) o
 | .bx j o=>bif Nat.beq j i then r o else .bx j o
 | .sb j c k=>bif Nat.beq j i then s c k else .sb j c k
 | .rel j c x p o=> .rel j c x p o
 | .row j=> .row j
 | .rw j lo hi=> .rw j lo hi
 | .int k x=> .int k x
 | .bool b=> .bool b
 | .ob b=> .ob b
 | .lb c b=> .lb c b
 | .str l=> .str l
 | .val v=> .val v
 | .sl c xs=> .sl c xs
 | .el c x o=> .el c x o
 | .any=> .any
def AV.subBL{ty:Nat->Type}(i:Nat)(r:Nat->AV ty)(s:Nat->Nat->AV ty):List (AV ty)->List (AV ty)
 | []=> []
 |x::l=>AV.subB i r s x::AV.subBL i r s l
 end
def e0r{ty:Nat->Type}(i:Nat)(r:Nat->AV ty)(s:Nat->Nat->AV ty):AE ty->AE ty
 | []=> []
 |p::l=>(p.1,AV.subB i r s p.2)::e0r i r s l
def AO.subB{ty:Nat->Type}(i:Nat)(r:Nat->AV ty)(s:Nat->Nat->AV ty):AO ty->AO ty
 | .box T cs=> .box T (AV.subBL i r s cs)
 | .row e q c xs=> .row e q c xs
 | .gone=> .gone
 | .kbox j T cs=> .kbox j T (AV.subBL i r s cs)
 | .krow j e q c xs=> .krow j e q c xs
 | .mark=> .mark
def d1e{ty:Nat->Type}(i:Nat)(r:Nat->AV ty)(s:Nat->Nat->AV ty):List (AO ty)->List (AO ty)
 | []=> []
 |o::l=>o.subB i r s::d1e i r s l
section
variable{ty:Nat->Type}{rp:∀c,Rp (ty c)}{R R':List OE}{F F':Frz}
structure TurnB(rp:∀c,Rp (ty c))(i:Nat)(r:Nat->AV ty)(s:Nat->Nat->AV ty)(R:List OE)(F:Frz)(R':List OE)(F':Frz):Prop where
 le:F.le F'
 box:∀(j b:Nat)T(cs:List Value),j≠i->R[j]?=some (.box b T cs)->R'[j]?=some (.box b T cs)
 row:∀(j:Nat)e q a m n(xs:List Value),R[j]?=some (.row e q a m n xs)->R'[j]?=some (.row e q a m n xs)
 at1:∀o v,Conc rp R F (.bx i o) v->Conc rp R' F' (r o) v
 at2:∀c k v,Conc rp R F (.sb i c k) v->Conc rp R' F' (s c k) v
variable{i:Nat}{r:Nat->AV ty}{s:Nat->Nat->AV ty}
mutual
theorem Conc.subB(t:TurnB rp i r s R F R' F'):∀{x:AV ty}{v:Value},Conc rp R F x v->Conc rp R' F' (AV.subB i r s x) v
 | .int k x,v,h=>h
 | .bool b,v,h=>h
 | .ob b,v,h=>h
 | .lb c b,v,h=>h
 | .str l,v,h=>h
 | .val u,v,h=>h
 | .agg l,v,⟨cs,h1,h2⟩=>⟨cs,h1,ConcL.subB t h2⟩
 | .tup l,v,⟨cs,h1,h2⟩=>⟨cs,h1,ConcL.subB t h2⟩
 | .sl c xs,v,⟨a,m,n,h1,h2⟩=>⟨a,m,n,h1,h2.mono t.le⟩
 | .bx j o,v,h=>by
  unfold AV.subB
  cases hb:Nat.beq j i with
  |true=>obtain rfl:=Nat.eq_of_beq_eq_true hb;exact t.at1 o v h
  |false=>
   obtain⟨b,T,cs,h1,h2⟩:=h
   exact⟨b,T,cs,t.box j b T cs (Nat.ne_of_beq_eq_false hb) h1,h2⟩
 | .sb j c k,v,h=>by
  unfold AV.subB
  cases hb:Nat.beq j i with
  |true=>obtain rfl:=Nat.eq_of_beq_eq_true hb;exact t.at2 c k v h
  |false=>
   obtain⟨b,T,cs,h1,h2⟩:=h
   exact⟨b,T,cs,t.box j b T cs (Nat.ne_of_beq_eq_false hb) h1,h2⟩
 | .el c x o,v,⟨b,p,cs,h1,h2,h3⟩=>⟨b,p,cs,h1.mono t.le,(rp c).mono t.le h2,h3⟩
 | .row j,v,⟨e,q,a,m,n,xs,h1,h2⟩=>⟨e,q,a,m,n,xs,t.row j e q a m n xs h1,h2⟩
 | .rel j c x p o,v,⟨e,b,m,n,us,cs,h1,h2,h3,h4⟩=>⟨e,b,m,n,us,cs,t.row j e _ _ m n us h1,h2,(rp c).mono t.le h3,h4⟩
 | .rw j lo hi,v,⟨e,q,b,m,n,xs,h1,h2⟩=>⟨e,q,b,m,n,xs,t.row j e q _ m n xs h1,h2⟩
 | .any,v,_=>trivial
 | .clo f l,v,⟨cs,h1,h2⟩=>⟨cs,h1,ConcL.subB t h2⟩
 | .fb l o,v,⟨b,cs,h1,h2,h3⟩=>⟨b,cs,h1,h2.mono t.le,ConcL.subB t h3⟩
theorem ConcL.subB(t:TurnB rp i r s R F R' F'):∀{l:List (AV ty)}{cs:List Value},ConcL rp R F l cs->ConcL rp R' F' (AV.subBL i r s l) cs
 | [],_,h=>h
 |_::_,_,⟨v,k,h1,h2,h3⟩=>⟨v,k,h1,Conc.subB t h2,ConcL.subB t h3⟩
 end
theorem ConcE.subB(t:TurnB rp i r s R F R' F'):∀{l:AE ty}{m:Env},ConcE rp R F l m->ConcE rp R' F' (e0r i r s l) m
 | [],_,h=>h
 |_::_,_,⟨v,k,h1,h2,h3⟩=>⟨v,k,h1,Conc.subB t h2,ConcE.subB t h3⟩
theorem RelO.subB{K:Snap}(t:TurnB rp i r s R F R' F'){o:AO ty}{e:OE}(h:RelO rp K R F o e):RelO rp K R' F' (o.subB i r s) e:=by
 cases o with
 |box T cs=>obtain⟨b,us,h1,h2⟩:=h;exact⟨b,us,h1,h2.subB t⟩
 |row el q c xs=>obtain⟨a,m,n,us,h1,h2⟩:=h;exact⟨a,m,n,us,h1,h2.mono t.le⟩
 |gone=>trivial
 |kbox j T cs=>obtain⟨h0,b,us,h1,h2⟩:=h;exact⟨h0,b,us,h1,h2.subB t⟩
 |krow j el q c xs=>obtain⟨h0,a,m,n,us,h1,h2⟩:=h;exact⟨h0,a,m,n,us,h1,h2.mono t.le⟩
 |mark=>exact⟨h.1.trans t.le,h.2⟩
theorem c3o(i:Nat)(r:Nat->AV ty)(s:Nat->Nat->AV ty):∀H:List (AO ty),d1e i r s H=H.map (AO.subB i r s)
 | []=>rfl
 |o::l=>by rw [d1e,c3o i r s l];rfl
theorem RelH.subB{K:Snap}{H:List (AO ty)}{S:List OE}(t:TurnB rp i r s R F R' F')(h:RelH rp K R F H S):RelH rp K R' F' (d1e i r s H) S:=by
 refine⟨by rw [c3o];simpa using h.1,fun j o ho=> ?_⟩
 rw [c3o,List.getElem?_map]at ho
 obtain⟨o',h1,rfl⟩:=Option.map_eq_some_iff.1 ho
 obtain⟨e,h2,h3⟩:=h.2 j o' h1
 exact⟨e,h2,h3.subB t⟩
end
theorem d4p{F0 F:Frz}{w0 w:World}{X:List Nat}{O:List OE}(h:HS F0 w0 X F O w){i b:Nat}{t:TypeId}{cs:List Value}(hi:O[i]?=some (.box b t cs))(hge:w0.heap.size<=b):
 ∃F',F.le F'/\HS F0 w0 X F' (O.set i (.row 0 0 none 0 0 [])) w/\FC F' b 0 cs:=by
 obtain⟨hlt,hget⟩:=List.getElem?_eq_some_iff.1 hi
 have hperm:HS F0 w0 X F (.box b t cs::O.eraseIdx i) w:=by
  refine⟨h.sat,h.le,h.new,fun x hx=> ?_,fun x hx=> ?_,?_,h.os,h.tape,h.output,h.size,h.old⟩
  ·rcases List.mem_cons.1 hx with rfl|hx
   ·exact h.get hi
   ·exact h.own x ((List.eraseIdx_sublist O i).subset hx)
  ·rcases List.mem_cons.1 hx with rfl|hx
   ·exact h.sep _ (List.mem_of_getElem? hi)
   ·exact h.sep x ((List.eraseIdx_sublist O i).subset hx)
  ·refine List.pairwise_cons.2 ⟨fun x hx b hb1 hb2=> ?_,h.dis.sublist (List.eraseIdx_sublist O i)⟩
   obtain⟨j,hj,hne,hxj⟩:∃j,∃hj:j<O.length,j≠i/\O[j]=x:=by
    obtain⟨p,hp,rfl⟩:=List.mem_iff_getElem.1 hx
    rw [List.getElem_eraseIdx]
    have hp':p<O.length-1:=by rw [List.length_eraseIdx]at hp;simp [hlt]at hp;exact hp
    split
    ·exact⟨p,by omega,by omega,rfl⟩
    ·exact⟨p+1,by omega,by omega,rfl⟩
   have hp:=List.pairwise_iff_getElem.1 h.dis
   rcases Nat.lt_or_ge j i with h1|h1
   ·exact hp j i hj hlt h1 b (hxj▸hb2) (hget▸hb1)
   ·exact hp i j hlt hj (by omega) b (hget▸hb1) (hxj▸hb2)
 have hown:w.heap[b]?=some (.cells cs.toArray t (0,0)):=h.get hi
 have hsep:=hperm.sep _ (List.mem_cons_self ..) b rfl
 have hle:F.le (fun k=>if k=b then some (.cells cs.toArray t (0,0))else F k):=c3w hsep.1
 exact⟨_,hle,((hperm.freeze rfl rfl hge hown).nilRow 0 0).perm (c7d _ _ _ hlt),⟨cs.toArray,t,(0,0),by simp,by simp⟩⟩
section
variable{P:Program}{T:Tbl P}{n:Nat}{F0:Frz}{w0:World}{X:List Nat}{ρ:Type}{Q:Exit->Act->World->Prop}{Kz:Snap}
def anyS{ty:Nat->Type}:Nat->Nat->AV ty:=fun _ _=> .any
theorem e7b{R:List OE}{F:Frz}{w:World}(hS:HS F0 w0 X F R w)(hX:LX X R){i b:Nat}{t:TypeId}{cs:List Value}(hi:R[i]?=some (.box b t cs))(hx:X.length<=i):w0.heap.size<=b:=by
 rcases(hS.sep _ (List.mem_of_getElem? hi) b rfl).2 with h|h
 ·exact h
 ·exfalso
  obtain⟨j,hj0⟩:=List.mem_iff_getElem?.1 h
  obtain⟨t',cs',hj⟩:=hX j b hj0
  have hjl:=(List.getElem?_eq_some_iff.1 hj0).1
  obtain⟨hj1,hj2⟩:=List.getElem?_eq_some_iff.1 hj
  obtain⟨hlt,hget⟩:=List.getElem?_eq_some_iff.1 hi
  have hp:=List.pairwise_iff_getElem.1 hS.dis
  exact hp j i hj1 hlt (by omega) b (by rw [hj2];rfl) (by rw [hget];rfl)
theorem e8l{R:List OE}{F:Frz}{w:World}{H:List (AO T.ty)}{i:Nat}{t:TypeId}{cs:List (AV T.ty)}{r:Nat->AV T.ty}{s:Nat->Nat->AV T.ty}(hH:RelH T.rp Kz R F H R)(hS:HS F0 w0 X F R w)(hX:LG T X R F)(hi:H[i]?=some (.box t cs))(hp:a8v cs=true)(hx:X.length<=i)
 (h1:∀(R':List OE)(F':Frz)(b:Nat)(us:List Value),FC F' b 0 us->ConcL T.rp R' F' cs us->(∀o,Conc T.rp R' F' (r o) (.pointer (some ⟨b,o,none⟩)))/\∀c k,Conc T.rp R' F' (s c k) (.slice (some ⟨b,0,none⟩) k k)):
 ∃R' F',TurnB T.rp i r s R F R' F'/\RelH T.rp Kz R' F' ((d1e i r s H).set i .gone) R'/\HS F0 w0 X F' R' w/\LG T X R' F':=by
 obtain⟨en,g1,b,us,rfl,g2⟩:=hH.2 i _ hi
 obtain⟨hlt,hget⟩:=List.getElem?_eq_some_iff.1 g1
 obtain⟨F',hle,g3,g4⟩:=d4p hS g1 (e7b hS hX.1 g1 hx)
 have g5:=h1 (R.set i (.row 0 0 none 0 0 [])) F' b us g4 ((g2.mono (Keep.frz hle)).pure hp)
 have hT:TurnB T.rp i r s R F (R.set i (.row 0 0 none 0 0 [])) F':=by
  refine⟨hle,fun j b' t' us' hji hj=> ?_,fun j e q a m n xs hj=> ?_,fun o v hv=> ?_,fun c k v hv=> ?_⟩
  ·rw [List.getElem?_set,if_neg (fun e=>hji e.symm)];exact hj
  ·rw [List.getElem?_set,if_neg (fun e=>by subst e;rw [g1]at hj;cases hj)];exact hj
  ·obtain⟨b',t',us',h2,rfl⟩:=hv
   rw [g1]at h2;cases h2
   exact g5.1 o
  ·obtain⟨b',t',us',h2,rfl⟩:=hv
   rw [g1]at h2;cases h2
   exact g5.2 c k
 refine⟨_,F',hT,(hH.subB hT).set i trivial,g3,fun j b' hb=> ?_,T.glMono hle hX.2⟩
 obtain⟨t',cs',hj⟩:=hX.1 j b' hb
 have hjl:=(List.getElem?_eq_some_iff.1 hb).1
 exact⟨t',cs',by rw [List.getElem?_set,if_neg (by omega)];exact hj⟩
def evFz(i:Nat)(s:St T.ty):Option (St T.ty):=match s with
 |⟨.ops all l,k,e,H⟩=>match H[i]? with
  |some (.box _ cs)=>match a8v cs,putA i .gone (d1e i (fun o=> .fb cs o) anyS H)with
   |true,some H'=>some ⟨.ops all l,k,e0r i (fun o=> .fb cs o) anyS e,H'⟩
   |_,_=>none
  |_=>none
 |_=>none
theorem gFz(i:Nat){r:ρ}{m:Option ρ}{s s':St T.ty}(h:evFz i (rn T n s)=some s')(hx:Nat.ble X.length i=true)(g:G T Q n F0 w0 X Kz r m s'):G T Q n F0 w0 X Kz r m s:=fun hm=>by
 refine a7k ?_
 revert h
 generalize rn T n s=s2
 intro h
 unfold evFz at h
 split at h
 ·rename_i all l k e H
  split at h
  ·rename_i t cs hi
   split at h
   ·rename_i H' hp hput
    cases h
    intro R F mm w h1 h2 h3 hX
    obtain⟨R',F',hT,g1,g2,g3⟩:=e8l (r:=fun o=> .fb cs o) (s:=anyS) h2 h3 hX hi hp (Nat.le_of_ble_eq_true hx) (fun R' F' b us hc hl=>⟨fun o=>⟨b,us,rfl,hc,hl⟩,fun _ _=>trivial⟩)
    rw [<-b8e hput]at g1
    exact g hm R' F' mm w (h1.subB hT) g1 g2 g3
   ·cases h
  ·cases h
 ·cases h
def evMk(n:Nat)(s:St T.ty):Option (EV T.ty):=match s with
 |⟨.ops all (o::l),k,e,H⟩=>match a9b all e o.guard,o.dst,o.op with
  |true,some d,.makeSlice t (.tmp a) (.tmp b)=>match Nat.blt d n,Nat.beq a b,e.lookup a,T.app t with
   |true,true,some (.int _ N),some (el,q,by')=>match T.zero el,Nat.beq q (T.rp (T.cod t)).k with
    |some z,true=>match T.dec (T.cod t) (z.cells.toList.map ofC)with
     |some u=>some ⟨List (T.ty (T.cod t)),mks by' u N,fun v=>lenK H fun h=>⟨.ops all l,k,(d,.row h)::e,snoc (.row el q (T.cod t) v) H⟩⟩
     |none=>none
    |_,_=>none
   |_,_,_,_=>none
  |_,_,_=>none
 |_=>none
theorem e7q{s:St T.ty}{q:EV T.ty}(hz:∀t z,T.zero t=some z->(P.info? t).map (·.zero)=some (some z))(h:evMk n s=some q)(v:q.α)(hv:q.x=some v)(k:Sm T Q n F0 w0 X Kz (q.nx v)):Sm T Q n F0 w0 X Kz s:=by
 unfold evMk at h
 simp only [b7n]at h
 split at h
 ·rename_i all o l its e H
  split at h
  ·rename_i d t a b hg hd ho
   split at h
   ·rename_i ik N el qq by' hn hab ha happ
    split at h
    ·rename_i z hz0 hqk
     split at h
     ·rename_i u hdec
      cases h
      dsimp only at hv k
      obtain rfl:=Nat.eq_of_beq_eq_true hab
      have hqk:=Nat.eq_of_beq_eq_true hqk
      intro R F m w h1 h2 h3 hX
      obtain⟨ua,g1,g2⟩:=h1.get ha
      simp only [Conc]at g2
      subst g2
      obtain⟨dst,op,type,pos,after,guard⟩:=o
      dsimp only at hg hd ho
      subst hd;subst ho
      refine d3c (r:=T.rp (T.cod t)) (T.appOk happ) (hz _ _ hz0) (fun F=>T.decOk (R:= []) hdec (concL_ofC _)) hqk (a3g h1 hg) hn h3 (show opv m (.tmp a)=_ from g1) (show opv m (.tmp a)=_ from g1) hv ?_
      intro b w' xs hS hR
      have hk:Keep R F (R++ [.row el qq (some ⟨b,0,none⟩) N.toNat N.toNat xs]) F:=Keep.more (Frz.refl F)
      refine k _ F _ w' ((h1.mono hk).put ⟨el,qq,some ⟨b,0,none⟩,_,_,xs,?_,rfl⟩) ?_ hS.addEnd (hX.keep hk)
      ·rw [h2.1];simp
      ·show RelH _ _ _ _ (snoc _ H) _
       rw [b3p]
       exact(h2.mono hk).add ⟨_,_,_,xs,rfl,hR⟩
     ·cases h
    ·cases h
   ·cases h
  ·cases h
 ·cases h
end
mutual
def AV.subR{ty:Nat->Type}(i:Nat):AV ty->AV ty
 | .agg l=> .agg (AV.subRL i l)
 | .tup l=> .tup (AV.subRL i l)
 | .clo f l=> .clo f (AV.subRL i l)
 | .fb l o=> .fb (AV.subRL i l) o
 | .rel j c x p o=>bif Nat.beq j i then .any else .rel j c x p o
 | .bx j o=> .bx j o
 | .sb j c k=> .sb j c k
 | .row j=> .row j
 | .rw j lo hi=> .rw j lo hi
 | .int k x=> .int k x
 | .bool b=> .bool b
 | .ob b=> .ob b
 | .lb c b=> .lb c b
 | .str l=> .str l
 | .val v=> .val v
 | .sl c xs=> .sl c xs
 | .el c x o=> .el c x o
 | .any=> .any
def AV.subRL{ty:Nat->Type}(i:Nat):List (AV ty)->List (AV ty)
 | []=> []
 |x::l=>AV.subR i x::AV.subRL i l
 end
def d5p{ty:Nat->Type}(i:Nat):AE ty->AE ty
 | []=> []
 |p::l=>(p.1,AV.subR i p.2)::d5p i l
def AO.subR{ty:Nat->Type}(i:Nat):AO ty->AO ty
 | .box T cs=> .box T (AV.subRL i cs)
 | .row e q c xs=> .row e q c xs
 | .gone=> .gone
 | .kbox j T cs=> .kbox j T (AV.subRL i cs)
 | .krow j e q c xs=> .krow j e q c xs
 | .mark=> .mark
def d1m{ty:Nat->Type}(i:Nat):List (AO ty)->List (AO ty)
 | []=> []
 |o::l=>o.subR i::d1m i l
section
variable{ty:Nat->Type}{rp:∀c,Rp (ty c)}{R R':List OE}{F F':Frz}
structure TurnR(i:Nat)(R:List OE)(F:Frz)(R':List OE)(F':Frz):Prop where
 le:F.le F'
 box:∀(j b:Nat)T(cs:List Value),R[j]?=some (.box b T cs)->∃cs':List Value,R'[j]?=some (.box b T cs')
 row:∀(j:Nat)e q a m n(xs:List Value),R[j]?=some (.row e q a m n xs)->∃xs':List Value,R'[j]?=some (.row e q a m n xs')
 rel:∀(j:Nat)e q a m n(xs:List Value),j≠i->R[j]?=some (.row e q a m n xs)->R'[j]?=some (.row e q a m n xs)
variable{i:Nat}
mutual
theorem Conc.subR(t:TurnR i R F R' F'):∀{x:AV ty}{v:Value},Conc rp R F x v->Conc rp R' F' (AV.subR i x) v
 | .int k x,v,h=>h
 | .bool b,v,h=>h
 | .ob b,v,h=>h
 | .lb c b,v,h=>h
 | .str l,v,h=>h
 | .val u,v,h=>h
 | .agg l,v,⟨cs,h1,h2⟩=>⟨cs,h1,ConcL.subR t h2⟩
 | .tup l,v,⟨cs,h1,h2⟩=>⟨cs,h1,ConcL.subR t h2⟩
 | .sl c xs,v,⟨a,m,n,h1,h2⟩=>⟨a,m,n,h1,h2.mono t.le⟩
 | .bx j o,v,⟨b,T,cs,h1,h2⟩=>by
  obtain⟨cs',h3⟩:=t.box j b T cs h1
  exact⟨b,T,cs',h3,h2⟩
 | .sb j c k,v,⟨b,T,cs,h1,h2⟩=>by
  obtain⟨cs',h3⟩:=t.box j b T cs h1
  exact⟨b,T,cs',h3,h2⟩
 | .el c x o,v,⟨b,p,cs,h1,h2,h3⟩=>⟨b,p,cs,h1.mono t.le,(rp c).mono t.le h2,h3⟩
 | .row j,v,⟨e,q,a,m,n,xs,h1,h2⟩=>by
  obtain⟨xs',h3⟩:=t.row j e q a m n xs h1
  exact⟨e,q,a,m,n,xs',h3,h2⟩
 | .rel j c x p o,v,h=>by
  unfold AV.subR
  cases hb:Nat.beq j i with
  |true=>trivial
  |false=>
   obtain⟨e,b,m,n,us,cs,h1,h2,h3,h4⟩:=h
   exact⟨e,b,m,n,us,cs,t.rel j e _ _ m n us (Nat.ne_of_beq_eq_false hb) h1,h2,(rp c).mono t.le h3,h4⟩
 | .rw j lo hi,v,⟨e,q,b,m,n,xs,h1,h2⟩=>by
  obtain⟨xs',h3⟩:=t.row j e q _ m n xs h1
  exact⟨e,q,b,m,n,xs',h3,h2⟩
 | .any,v,_=>trivial
 | .clo f l,v,⟨cs,h1,h2⟩=>⟨cs,h1,ConcL.subR t h2⟩
 | .fb l o,v,⟨b,cs,h1,h2,h3⟩=>⟨b,cs,h1,h2.mono t.le,ConcL.subR t h3⟩
theorem ConcL.subR(t:TurnR i R F R' F'):∀{l:List (AV ty)}{cs:List Value},ConcL rp R F l cs->ConcL rp R' F' (AV.subRL i l) cs
 | [],_,h=>h
 |_::_,_,⟨v,k,h1,h2,h3⟩=>⟨v,k,h1,Conc.subR t h2,ConcL.subR t h3⟩
 end
theorem ConcE.subR(t:TurnR i R F R' F'):∀{l:AE ty}{m:Env},ConcE rp R F l m->ConcE rp R' F' (d5p i l) m
 | [],_,h=>h
 |_::_,_,⟨v,k,h1,h2,h3⟩=>⟨v,k,h1,Conc.subR t h2,ConcE.subR t h3⟩
theorem RelO.subR{K:Snap}(t:TurnR i R F R' F'){o:AO ty}{e:OE}(h:RelO rp K R F o e):RelO rp K R' F' (o.subR i) e:=by
 cases o with
 |box T cs=>obtain⟨b,us,h1,h2⟩:=h;exact⟨b,us,h1,h2.subR t⟩
 |row el q c xs=>obtain⟨a,m,n,us,h1,h2⟩:=h;exact⟨a,m,n,us,h1,h2.mono t.le⟩
 |gone=>trivial
 |kbox j T cs=>obtain⟨h0,b,us,h1,h2⟩:=h;exact⟨h0,b,us,h1,h2.subR t⟩
 |krow j el q c xs=>obtain⟨h0,a,m,n,us,h1,h2⟩:=h;exact⟨h0,a,m,n,us,h1,h2.mono t.le⟩
 |mark=>exact⟨h.1.trans t.le,h.2⟩
theorem c4k(i:Nat):∀H:List (AO ty),d1m i H=H.map (AO.subR i)
 | []=>rfl
 |o::l=>by rw [d1m,c4k i l];rfl
theorem RelH.subR{K:Snap}{H:List (AO ty)}{S:List OE}(t:TurnR i R F R' F')(h:RelH rp K R F H S):RelH rp K R' F' (d1m i H) S:=by
 refine⟨by rw [c4k];simpa using h.1,fun j o ho=> ?_⟩
 rw [c4k,List.getElem?_map]at ho
 obtain⟨o',h1,rfl⟩:=Option.map_eq_some_iff.1 ho
 obtain⟨e,h2,h3⟩:=h.2 j o' h1
 exact⟨e,h2,h3.subR t⟩
end
structure WV(ty:Nat->Type)where
 α:Type
 xs:List α
 j:Nat
 u:α
 nx:List α->St ty
section
variable{P:Program}{T:Tbl P}{n:Nat}{F0:Frz}{w0:World}{X:List Nat}{ρ:Type}{Q:Exit->Act->World->Prop}{Kz:Snap}
def evW(s:St T.ty):Option (WV T.ty):=match s with
 |⟨.ops all (o::l),k,e,H⟩=>match a9b all e o.guard,o.dst,o.op with
  |true,none,.store t x y=>match opA e x,opA e y,T.size t with
   |some (.rel i c x0 j oo),some z,some m=>match H[i]?,c5y z with
    |some (.row el q c' xs),some zl=>match d0r c' c xs,Nat.beq zl.length m,Nat.beq q (T.rp c).k,setA oo zl (T.en c x0)with
     |some xs',true,true,some cs'=>match T.dec c cs' with
      |some u=>some ⟨T.ty c,xs',j,u,fun v=>⟨.ops all l,k,d5p i e,(d1m i H).set i (.row el q c v)⟩⟩
      |none=>none
     |_,_,_,_=>none
    |_,_=>none
   |_,_,_=>none
  |_,_,_=>none
 |_=>none
theorem f0q{s:St T.ty}{q:WV T.ty}(h:evW s=some q){z:Int}(hz:z.toNat=q.j){v:List q.α}(hv:lset q.xs z q.u=some v)(k:Sm T Q n F0 w0 X Kz (q.nx v)):Sm T Q n F0 w0 X Kz s:=by
 unfold evW at h
 split at h
 ·rename_i all o l its e H
  split at h
  ·rename_i t x y hg hd ho
   split at h
   ·rename_i i c x0 j oo zz m hx hy hS
    split at h
    ·rename_i el qq c' xs zl hi hcell
     split at h
     ·rename_i xs' cs' hcast hlen hqk hset
      split at h
      ·rename_i u hdec
       cases h
       dsimp only at hz hv k
       obtain⟨e1,e2⟩:=b9s hcast
       subst e1
       have e2:xs'=xs:=e2
       subst e2
       have hqk:=Nat.eq_of_beq_eq_true hqk
       subst hqk
       have hlen:=Nat.eq_of_beq_eq_true hlen
       intro R F mm w h1 h2 h3 hX
       obtain⟨ux,g1,e3,b,m',n',us,cs,g2,g3,g4,g5⟩:=a0v h1 hx
       subst g5
       obtain⟨uy,y1,y2⟩:=a0v h1 hy
       obtain⟨c1,c2⟩:=b9l hcell y2
       obtain⟨en,k1,a2,m2,n2,us2,rfl,k2⟩:=h2.2 i _ hi
       rw [g2]at k1;cases k1
       obtain⟨s1,s2⟩:=c4n hset
       have henc:=T.enOk R g4
       have hel:=henc.len
       have hcl:=c1.len
       have hnew:ConcL T.rp R F cs' (cs.take oo++uy.cells.toList++cs.drop (oo+m)):=by
        rw [s2,<-hlen]
        exact((henc.take oo).app c1).app (henc.drop _)
       obtain⟨dst,op,type,pos,after,guard⟩:=o
       dsimp only at hg hd ho
       subst hd;subst ho
       subst hz
       refine d3s (r:=T.rp c') (j:=oo) (p:=i) (a:=some ⟨b,0,none⟩) (base:=0) (o:=z.toNat*(T.rp c').k) (cs:=cs) (T.sizeOk hS) (a3g h1 hg) h3 g1 y1 (by rw [<-hlen,<-hcl];simp) (List.all_eq_true.2 c2) g2 rfl rfl (by simp) g3 k2 rfl (Nat.ble_eq_true_of_le (by rw [hel,<-hlen];exact s1)) ((T.rp c').len g4) (T.decOk hdec hnew) hv ?_
       intro w' xs2 hS' hR' _
       have hlt:=(List.getElem?_eq_some_iff.1 g2).1
       have hT:TurnR i R F (R.set i ((OE.row el (T.rp c').k (some ⟨b,0,none⟩) m' n' us).withCells xs2)) F:=by
        refine⟨Frz.refl F,fun j2 b2 t2 cs2 hj=>⟨cs2,?_⟩,fun j2 e4 q2 a2 m2 n2 ys hj=> ?_,fun j2 e4 q2 a2 m2 n2 ys hne hj=> ?_⟩
        ·rw [List.getElem?_set,if_neg (fun e=>by subst e;rw [g2]at hj;cases hj)];exact hj
        ·rw [List.getElem?_set]
         by_cases hij:i=j2
         ·subst hij;rw [g2]at hj;cases hj
          rw [if_pos rfl,if_pos hlt];exact⟨xs2,rfl⟩
         ·rw [if_neg hij];exact⟨ys,hj⟩
        ·rw [List.getElem?_set,if_neg (fun e=>hne e.symm)];exact hj
       refine k _ F mm w' (h1.subR hT) ((h2.subR hT).set i ⟨_,_,_,xs2,rfl,hR'⟩) hS' ⟨fun j2 b2 hb=> ?_,hX.2⟩
       obtain⟨t2,cs2,h5⟩:=hX.1 j2 b2 hb
       obtain⟨cs3,h6⟩:=hT.box j2 b2 t2 cs2 h5
       exact⟨t2,cs3,h6⟩
      ·cases h
     ·cases h
    ·cases h
   ·cases h
  ·cases h
 ·cases h
theorem gMk{r:ρ}{α:Type}{x:Option α}{g:α->Option ρ}{nx:α->St T.ty}{s:St T.ty}(hz:∀t z,T.zero t=some z->(P.info? t).map (·.zero)=some (some z))(h:evMk n (rn T n s)=some ⟨α,x,nx⟩)
 (k:∀v,G T Q n F0 w0 X Kz r (g v) (nx v)):G T Q n F0 w0 X Kz r (x.bind g) s:=fun hm=>by
 obtain⟨v,hv,hm⟩:=bind_some hm
 exact a7k (e7q hz h v hv (k v hm))
theorem gW{r:ρ}{α:Type}{j:Nat}{xs:List α}{z:Int}{u:α}{g:List α->Option ρ}{nx:List α->St T.ty}{s:St T.ty}(h:evW (rn T n s)=some ⟨α,xs,j,u,nx⟩)(hz:z.toNat=j)
 (k:∀v,G T Q n F0 w0 X Kz r (g v) (nx v)):G T Q n F0 w0 X Kz r ((lset xs z u).bind g) s:=fun hm=>by
 obtain⟨v,hv,hm⟩:=bind_some hm
 exact a7k (f0q h hz hv (k v hm))
end
section
variable{P:Program}{T:Tbl P}{n:Nat}{F0:Frz}{w0:World}{X:List Nat}{ρ:Type}{Q:Exit->Act->World->Prop}{Kz:Snap}
theorem gNo{r:ρ}{s:St T.ty}:G T Q n F0 w0 X Kz r none s:=fun h=>by cases h
def boxL{ty:Nat->Type}:List (AV ty)->Option Nat
 | []=>none
 | .bx i _::_=>some i
 |_::l=>boxL l
def evFc(s:St T.ty):Option Nat:=match s with
 |⟨.ops _ (o::_),_,e,_⟩=>match o.op with
  | .call ⟨.value _,args,_⟩=>match opL e args.toList with
    |some az=>match d7z az with
     |some (_,.clo _ l)=>boxL l
     |_=>none
    |none=>none
  |_=>none
 |_=>none
def evFd(s:St T.ty):Option (Nat×St T.ty):=match evFc s with
 |some i=>match evFz i s with
  |some s'=>some (i,s')
  |none=>none
 |none=>none
theorem gFc{r:ρ}{m:Option ρ}{s s':St T.ty}{i:Nat}(h:evFd (rn T n s)=some (i,s'))(hx:Nat.ble X.length i=true)(g:G T Q n F0 w0 X Kz r m s'):G T Q n F0 w0 X Kz r m s:=by
 refine gFz i (s':=s') ?_ hx g
 unfold evFd at h
 split at h
 ·split at h
  ·rename_i h2;cases h;exact h2
  ·cases h
 ·cases h
end
section
variable{P:Program}{T:Tbl P}{n:Nat}{F0:Frz}{w0:World}{X:List Nat}{ρ:Type}{Q:Exit->Act->World->Prop}{Kz:Snap}
def evZ(s:St T.ty):Option (St T.ty):=match s with
 |⟨.ops all (o::l),k,e,H⟩=>match o.op with
  | .buildSlice _ _ ps=>match opL e (ps.toList.map (·.2))with
    |some az=>match rowL az with
     |some _=>match frzW T (H.length+1) az e H with
      |some (_,e',H')=>some ⟨.ops all (o::l),k,e',H'⟩
      |none=>none
     |none=>none
    |none=>none
  |_=>none
 |_=>none
theorem gZ{r:ρ}{m:Option ρ}{s s':St T.ty}(h:evZ (rn T n s)=some s')(g:G T Q n F0 w0 X Kz r m s'):G T Q n F0 w0 X Kz r m s:=fun hm=>by
 refine a7k ?_
 revert h
 generalize rn T n s=s2
 intro h
 unfold evZ at h
 split at h
 ·rename_i all o l k e H
  split at h
  ·split at h
   ·rename_i az hl
    split at h
    ·split at h
     ·rename_i as' e' H' hz
      cases h
      intro R F mm w h1 h2 h3 hX
      obtain⟨us,g1,g2⟩:=c0u h1 hl
      obtain⟨R',F',k1,k2,k3,k4,k5,k6⟩:=b0j hz h1 h2 h3 hX g2
      exact g hm R' F' mm w k2 k3 k4 k5
     ·cases h
    ·cases h
   ·cases h
  ·cases h
 ·cases h
end
section
variable{P:Program}{T:Tbl P}{n:Nat}{F0:Frz}{w0:World}{X:List Nat}{ρ:Type}{Q:Exit->Act->World->Prop}{Kz:Snap}
def calm:Ctl->Bool
 | .code _=>true
 | .ops _ _=>true
 | .out _=>true
 |_=>false
theorem d1w{R R':List OE}{F F':Frz}{c:Ctl}{k:List It}{m:Env}{w:World}(h:calm c=true):GW P Q n F0 w0 X Kz R F c k m w->GW P Q n F0 w0 X Kz R' F' c k m w:=by
 cases c<;>first|exact id|cases h
def evFr(t:Nat)(s:St T.ty):Option (St T.ty):=match s with
 |⟨c,k,e,H⟩=>match calm c,e.lookup t with
  |true,some x=>match rowA x with
   |some _=>match frzW T (H.length+1) [x] e H with
    |some (_,e',H')=>some ⟨c,k,e',H'⟩
    |none=>none
   |none=>none
  |_,_=>none
theorem gFr(t:Nat){r:ρ}{m:Option ρ}{s s':St T.ty}(h:evFr t (rn T n s)=some s')(g:G T Q n F0 w0 X Kz r m s'):G T Q n F0 w0 X Kz r m s:=fun hm=>by
 refine a7k ?_
 revert h
 generalize rn T n s=s2
 intro h
 unfold evFr at h
 split at h
 rename_i c k e H
 split at h
 ·rename_i x hc hx
  split at h
  ·split at h
   ·rename_i as' e' H' hz
    cases h
    intro R F mm w h1 h2 h3 hX
    obtain⟨u,u1,u2⟩:=h1.get hx
    obtain⟨R',F',k1,k2,k3,k4,k5,k6⟩:=b0j (us:= [u]) hz h1 h2 h3 hX ⟨u,[],rfl,u2,rfl⟩
    exact d1w hc (g hm R' F' mm w k2 k3 k4 k5)
   ·cases h
  ·cases h
 ·cases h
end
theorem frzO{F F':Frz}{w w':World}{O:List OE}{α:Type}{r:Rp α}{e:TypeId}{q m c:Nat}{a:Option Addr}{xs:List Value}{ts:List α}(h:HS F w [] F' (.row e q a m c xs::O) w')(hr:RowN r F' m xs ts):∃F2,F'.le F2/\HS F w [] F2 O w'/\SlR r F2 a m c ts:=
 c0c (i:=0) h rfl hr (fun gb hb=>by
  rcases(h.sep _ (List.mem_cons_self ..) gb hb).2 with h1|h1
  ·exact h1
  ·cases h1)
end Go.Proofs.YthaegflpecbfgaaGreatDoor.Rt
namespace Go.Proofs.YthaegflpecbfgaaGreatDoor.M
open Go Go.RowKit Rt
set_option maxRecDepth 100000
set_option maxHeartbeats 4000000
def wty:Nat->Type
 |0=>Expr
 |1=>Bs
 |2=>Int
 |3=>Frac
 |4=>(List Affine)
 |5=>Affine
 |6=>(List Int)
 |7=>Token
 |8=>Result
 |9=>(List (List Affine))
 |10=>Int
 |_=>Unit
def wrp:∀c,Rp (wty c)
 |0=>rp_Expr
 |1=>Rp.str
 |2=>Rp.int .i64
 |3=>rp_Frac
 |4=>Rp.sl rp_Affine
 |5=>rp_Affine
 |6=>Rp.sl (Rp.int .i64)
 |7=>rp_Token
 |8=>rp_Result
 |9=>Rp.sl (Rp.sl rp_Affine)
 |10=>Rp.int .u8
 |_+11=>Rp.unit
def wen:∀c,wty c->List (AV wty)
 |0,x=> [.int .i64 x.Op,.int .i64 x.N,.str x.Name,.sl 0 x.Args]
 |1,x=> [.str x]
 |2,x=> [.int .i64 x]
 |3,x=> [.int .i64 x.P.Sign,.sl 2 x.P.Digits,.int .i64 x.Q.Sign,.sl 2 x.Q.Digits]
 |4,x=> [.sl 5 x]
 |5,x=> [.int .i64 x.Const.P.Sign,.sl 2 x.Const.P.Digits,.int .i64 x.Const.Q.Sign,.sl 2 x.Const.Q.Digits,.sl 3 x.Coefs]
 |6,x=> [.sl 2 x]
 |7,x=> [.int .i64 x.Kind,.str x.Text,.int .i64 x.N,.int .i64 x.Pos]
 |8,x=> [.int .i64 x.N.P.Sign,.sl 2 x.N.P.Digits,.int .i64 x.N.Q.Sign,.sl 2 x.N.Q.Digits,.ob x.Is]
 |9,x=> [.sl 4 x]
 |10,x=> [.int .u8 x]
 |_+11,_=> []
def dec0:List (AV wty)->Option (wty 0)
 | [.int .i64 x0,.int .i64 x1,.str x2,y3]=>match slOf 0 y3 with
   |some x3=>(some ⟨x0,x1,x2,x3⟩)
   |none=>none
 |_=>none
def dec1:List (AV wty)->Option (wty 1)
 | [.str x0]=>some x0
 |_=>none
def dec2:List (AV wty)->Option (wty 2)
 | [.int .i64 x0]=>some x0
 |_=>none
def dec3:List (AV wty)->Option (wty 3)
 | [.int .i64 x0,y1,.int .i64 x2,y3]=>match slOf 2 y1 with
   |some x1=>(match slOf 2 y3 with
   |some x3=>(some ⟨⟨x0,x1⟩,⟨x2,x3⟩⟩)
   |none=>none)
   |none=>none
 |_=>none
def dec4:List (AV wty)->Option (wty 4)
 | [y0]=>match slOf 5 y0 with
   |some x0=>(some x0)
   |none=>none
 |_=>none
def dec5:List (AV wty)->Option (wty 5)
 | [.int .i64 x0,y1,.int .i64 x2,y3,y4]=>match slOf 2 y1 with
   |some x1=>(match slOf 2 y3 with
   |some x3=>(match slOf 3 y4 with
   |some x4=>(some ⟨⟨⟨x0,x1⟩,⟨x2,x3⟩⟩,x4⟩)
   |none=>none)
   |none=>none)
   |none=>none
 |_=>none
def dec6:List (AV wty)->Option (wty 6)
 | [y0]=>match slOf 2 y0 with
   |some x0=>(some x0)
   |none=>none
 |_=>none
def dec7:List (AV wty)->Option (wty 7)
 | [.int .i64 x0,.str x1,.int .i64 x2,.int .i64 x3]=>some ⟨x0,x1,x2,x3⟩
 |_=>none
def dec8:List (AV wty)->Option (wty 8)
 | [.int .i64 x0,y1,.int .i64 x2,y3,y4]=>match slOf 2 y1 with
   |some x1=>(match slOf 2 y3 with
   |some x3=>(match d0d y4 with
   |some x4=>(some ⟨⟨⟨x0,x1⟩,⟨x2,x3⟩⟩,x4⟩)
   |none=>none)
   |none=>none)
   |none=>none
 |_=>none
def dec9:List (AV wty)->Option (wty 9)
 | [y0]=>match slOf 4 y0 with
   |some x0=>(some x0)
   |none=>none
 |_=>none
def dec10:List (AV wty)->Option (wty 10)
 | [.int .u8 x0]=>some x0
 |_=>none
def wdec:∀c,List (AV wty)->Option (wty c)
 |0,l=>dec0 l
 |1,l=>dec1 l
 |2,l=>dec2 l
 |3,l=>dec3 l
 |4,l=>dec4 l
 |5,l=>dec5 l
 |6,l=>dec6 l
 |7,l=>dec7 l
 |8,l=>dec8 l
 |9,l=>dec9 l
 |10,l=>dec10 l
 |_+11,_=>none
theorem f0x(R:List OE):∀{F:Frz}{c:Nat}{cs:List Value}{x:wty c},(wrp c).R F cs x->ConcL wrp R F (wen c x) cs
 |F,0,cs,x,h0=>by
  obtain⟨_,_,_,h,hs3⟩:=(expr_iff.1 h0)
  exact⟨_,_,h,rfl,_,_,rfl,rfl,_,_,rfl,rfl,_,_,rfl,⟨_,_,_,rfl,hs3⟩,rfl⟩
 |F,1,cs,x,h=>⟨_,_,h,rfl,rfl⟩
 |F,2,cs,x,h=>⟨_,_,h,rfl,rfl⟩
 |F,3,cs,x,⟨_,_,_,_,_,_,h,hs1,hs3⟩=>⟨_,_,h,rfl,_,_,rfl,⟨_,_,_,rfl,hs1⟩,_,_,rfl,rfl,_,_,rfl,⟨_,_,_,rfl,hs3⟩,rfl⟩
 |F,4,cs,x,⟨_,_,_,h,hs0⟩=>⟨_,_,h,⟨_,_,_,rfl,hs0⟩,rfl⟩
 |F,5,cs,x,⟨_,_,_,_,_,_,_,_,_,h,hs1,hs3,hs4⟩=>⟨_,_,h,rfl,_,_,rfl,⟨_,_,_,rfl,hs1⟩,_,_,rfl,rfl,_,_,rfl,⟨_,_,_,rfl,hs3⟩,_,_,rfl,⟨_,_,_,rfl,hs4⟩,rfl⟩
 |F,6,cs,x,⟨_,_,_,h,hs0⟩=>⟨_,_,h,⟨_,_,_,rfl,hs0⟩,rfl⟩
 |F,7,cs,x,h=>⟨_,_,h,rfl,_,_,rfl,rfl,_,_,rfl,rfl,_,_,rfl,rfl,rfl⟩
 |F,8,cs,x,⟨_,_,_,_,_,_,h,hs1,hs3⟩=>⟨_,_,h,rfl,_,_,rfl,⟨_,_,_,rfl,hs1⟩,_,_,rfl,rfl,_,_,rfl,⟨_,_,_,rfl,hs3⟩,_,_,rfl,rfl,rfl⟩
 |F,9,cs,x,⟨_,_,_,h,hs0⟩=>⟨_,_,h,⟨_,_,_,rfl,hs0⟩,rfl⟩
 |F,10,cs,x,h=>⟨_,_,h,rfl,rfl⟩
 |F,_+11,cs,x,h=>h
theorem wdecOk:∀{R:List OE}{F:Frz}{c:Nat}{l:List (AV wty)}{cs:List Value}{x:wty c},wdec c l=some x->ConcL wrp R F l cs->(wrp c).R F cs x
 |R,F,0,l,cs,x,h,hc=>by
  have h:dec0 l=some x:=h
  unfold dec0 at h
  split at h
  ·split at h
   rotate_left
   ·cases h
   rename_i e3
   cases h
   obtain⟨v0,_,rfl,h0,⟨v1,_,rfl,h1,⟨v2,_,rfl,h2,⟨v3,_,rfl,h3,rfl⟩⟩⟩⟩:=hc
   simp only [Conc]at h0
   subst h0
   simp only [Conc]at h1
   subst h1
   simp only [Conc]at h2
   subst h2
   obtain⟨_,_,_,rfl,hs3⟩:=b1y e3 h3
   exact(expr_iff.2 ⟨_,_,_,rfl,hs3⟩)
  ·cases h
 |R,F,1,l,cs,x,h,hc=>by
  have h:dec1 l=some x:=h
  unfold dec1 at h
  split at h
  ·cases h
   obtain⟨v0,_,rfl,h0,rfl⟩:=hc
   simp only [Conc]at h0
   subst h0
   exact rfl
  ·cases h
 |R,F,2,l,cs,x,h,hc=>by
  have h:dec2 l=some x:=h
  unfold dec2 at h
  split at h
  ·cases h
   obtain⟨v0,_,rfl,h0,rfl⟩:=hc
   simp only [Conc]at h0
   subst h0
   exact rfl
  ·cases h
 |R,F,3,l,cs,x,h,hc=>by
  have h:dec3 l=some x:=h
  unfold dec3 at h
  split at h
  ·split at h
   rotate_left
   ·cases h
   rename_i e1
   split at h
   rotate_left
   ·cases h
   rename_i e3
   cases h
   obtain⟨v0,_,rfl,h0,⟨v1,_,rfl,h1,⟨v2,_,rfl,h2,⟨v3,_,rfl,h3,rfl⟩⟩⟩⟩:=hc
   simp only [Conc]at h0
   subst h0
   obtain⟨_,_,_,rfl,hs1⟩:=b1y e1 h1
   simp only [Conc]at h2
   subst h2
   obtain⟨_,_,_,rfl,hs3⟩:=b1y e3 h3
   exact⟨_,_,_,_,_,_,rfl,hs1,hs3⟩
  ·cases h
 |R,F,4,l,cs,x,h,hc=>by
  have h:dec4 l=some x:=h
  unfold dec4 at h
  split at h
  ·split at h
   rotate_left
   ·cases h
   rename_i e0
   cases h
   obtain⟨v0,_,rfl,h0,rfl⟩:=hc
   obtain⟨_,_,_,rfl,hs0⟩:=b1y e0 h0
   exact⟨_,_,_,rfl,hs0⟩
  ·cases h
 |R,F,5,l,cs,x,h,hc=>by
  have h:dec5 l=some x:=h
  unfold dec5 at h
  split at h
  ·split at h
   rotate_left
   ·cases h
   rename_i e1
   split at h
   rotate_left
   ·cases h
   rename_i e3
   split at h
   rotate_left
   ·cases h
   rename_i e4
   cases h
   obtain⟨v0,_,rfl,h0,⟨v1,_,rfl,h1,⟨v2,_,rfl,h2,⟨v3,_,rfl,h3,⟨v4,_,rfl,h4,rfl⟩⟩⟩⟩⟩:=hc
   simp only [Conc]at h0
   subst h0
   obtain⟨_,_,_,rfl,hs1⟩:=b1y e1 h1
   simp only [Conc]at h2
   subst h2
   obtain⟨_,_,_,rfl,hs3⟩:=b1y e3 h3
   obtain⟨_,_,_,rfl,hs4⟩:=b1y e4 h4
   exact⟨_,_,_,_,_,_,_,_,_,rfl,hs1,hs3,hs4⟩
  ·cases h
 |R,F,6,l,cs,x,h,hc=>by
  have h:dec6 l=some x:=h
  unfold dec6 at h
  split at h
  ·split at h
   rotate_left
   ·cases h
   rename_i e0
   cases h
   obtain⟨v0,_,rfl,h0,rfl⟩:=hc
   obtain⟨_,_,_,rfl,hs0⟩:=b1y e0 h0
   exact⟨_,_,_,rfl,hs0⟩
  ·cases h
 |R,F,7,l,cs,x,h,hc=>by
  have h:dec7 l=some x:=h
  unfold dec7 at h
  split at h
  ·cases h
   obtain⟨v0,_,rfl,h0,⟨v1,_,rfl,h1,⟨v2,_,rfl,h2,⟨v3,_,rfl,h3,rfl⟩⟩⟩⟩:=hc
   simp only [Conc]at h0
   subst h0
   simp only [Conc]at h1
   subst h1
   simp only [Conc]at h2
   subst h2
   simp only [Conc]at h3
   subst h3
   exact rfl
  ·cases h
 |R,F,8,l,cs,x,h,hc=>by
  have h:dec8 l=some x:=h
  unfold dec8 at h
  split at h
  ·split at h
   rotate_left
   ·cases h
   rename_i e1
   split at h
   rotate_left
   ·cases h
   rename_i e3
   split at h
   rotate_left
   ·cases h
   rename_i e4
   cases h
   obtain⟨v0,_,rfl,h0,⟨v1,_,rfl,h1,⟨v2,_,rfl,h2,⟨v3,_,rfl,h3,⟨v4,_,rfl,h4,rfl⟩⟩⟩⟩⟩:=hc
   simp only [Conc]at h0
   subst h0
   obtain⟨_,_,_,rfl,hs1⟩:=b1y e1 h1
   simp only [Conc]at h2
   subst h2
   obtain⟨_,_,_,rfl,hs3⟩:=b1y e3 h3
   have h4:=c2y e4 h4
   subst h4
   exact⟨_,_,_,_,_,_,rfl,hs1,hs3⟩
  ·cases h
 |R,F,9,l,cs,x,h,hc=>by
  have h:dec9 l=some x:=h
  unfold dec9 at h
  split at h
  ·split at h
   rotate_left
   ·cases h
   rename_i e0
   cases h
   obtain⟨v0,_,rfl,h0,rfl⟩:=hc
   obtain⟨_,_,_,rfl,hs0⟩:=b1y e0 h0
   exact⟨_,_,_,rfl,hs0⟩
  ·cases h
 |R,F,10,l,cs,x,h,hc=>by
  have h:dec10 l=some x:=h
  unfold dec10 at h
  split at h
  ·cases h
   obtain⟨v0,_,rfl,h0,rfl⟩:=hc
   simp only [Conc]at h0
   subst h0
   exact rfl
  ·cases h
 |R,F,_+11,l,cs,x,h,hc=>by cases h
def wund:TypeId->Option TypeDesc
 |2=>some (.int .i64)
 |3=>some (.int .i64)
 |4=>some .bool
 |5=>some (.int .u8)
 |6=>some (.int .u8)
 |9=>some .string
 |10=>some .string
 |11=>some .string
 |12=>some (.int .u64)
 |21=>some (.int .i32)
 |22=>some (.slice 24)
 |27=>some (.slice 9)
 |28=>some (.slice 3)
 |31=>some (.slice 44)
 |32=>some (.slice 57)
 |38=>some (.int .i64)
 |57=>some (.slice 62)
 |73=>some (.slice 28)
 |105=>some (.int .u64)
 |144=>some (.slice 152)
 |156=>some (.int .u32)
 |159=>some (.int .u64)
 |170=>some (.slice 116)
 |198=>some (.slice 32)
 |211=>some (.array 13 5)
 |213=>some (.slice 5)
 |217=>some (.array 0 16)
 |221=>some (.int .u8)
 |222=>some (.int .u8)
 |225=>some (.int .i32)
 |_=>none
def wagg:TypeId->Option Bool
 |2=>some false
 |3=>some false
 |4=>some false
 |5=>some false
 |6=>some false
 |7=>some true
 |8=>some true
 |9=>some false
 |10=>some false
 |11=>some false
 |12=>some false
 |13=>some true
 |14=>some true
 |18=>some true
 |19=>some true
 |21=>some false
 |22=>some false
 |23=>some true
 |24=>some true
 |25=>some true
 |26=>some true
 |27=>some false
 |28=>some false
 |29=>some true
 |30=>some true
 |31=>some false
 |32=>some false
 |33=>some true
 |34=>some true
 |38=>some false
 |41=>some true
 |42=>some true
 |43=>some true
 |44=>some true
 |57=>some false
 |61=>some true
 |62=>some true
 |73=>some false
 |76=>some true
 |77=>some true
 |89=>some true
 |90=>some true
 |105=>some false
 |115=>some true
 |116=>some true
 |144=>some false
 |148=>some true
 |149=>some true
 |151=>some true
 |152=>some true
 |156=>some false
 |159=>some false
 |170=>some false
 |198=>some false
 |211=>some true
 |213=>some false
 |215=>some true
 |216=>some true
 |217=>some true
 |218=>some true
 |219=>some true
 |221=>some false
 |222=>some false
 |225=>some false
 |1=>some false
 |35=>some false
 |36=>some false
 |37=>some false
 |40=>some false
 |46=>some false
 |47=>some false
 |48=>some false
 |49=>some false
 |51=>some false
 |52=>some false
 |53=>some false
 |54=>some false
 |55=>some false
 |56=>some false
 |58=>some false
 |59=>some false
 |60=>some false
 |63=>some false
 |64=>some false
 |65=>some false
 |66=>some false
 |67=>some false
 |69=>some false
 |70=>some false
 |71=>some false
 |72=>some false
 |74=>some false
 |78=>some false
 |79=>some false
 |80=>some false
 |81=>some false
 |82=>some false
 |83=>some false
 |84=>some false
 |85=>some false
 |86=>some false
 |87=>some false
 |88=>some false
 |91=>some false
 |92=>some false
 |93=>some false
 |94=>some false
 |95=>some false
 |96=>some false
 |98=>some false
 |99=>some false
 |100=>some false
 |101=>some false
 |102=>some false
 |104=>some false
 |107=>some false
 |108=>some false
 |109=>some false
 |110=>some false
 |111=>some false
 |112=>some false
 |113=>some false
 |114=>some false
 |117=>some false
 |118=>some false
 |119=>some false
 |120=>some false
 |121=>some false
 |122=>some false
 |123=>some false
 |124=>some false
 |125=>some false
 |126=>some false
 |127=>some false
 |128=>some false
 |129=>some false
 |130=>some false
 |131=>some false
 |132=>some false
 |133=>some false
 |134=>some false
 |135=>some false
 |136=>some false
 |137=>some false
 |138=>some false
 |139=>some false
 |141=>some false
 |142=>some false
 |146=>some false
 |150=>some false
 |153=>some false
 |154=>some false
 |155=>some false
 |158=>some false
 |161=>some false
 |162=>some false
 |163=>some false
 |164=>some false
 |165=>some false
 |166=>some false
 |168=>some false
 |169=>some false
 |171=>some false
 |173=>some false
 |174=>some false
 |175=>some false
 |177=>some false
 |178=>some false
 |179=>some false
 |180=>some false
 |181=>some false
 |182=>some false
 |183=>some false
 |184=>some false
 |185=>some false
 |186=>some false
 |187=>some false
 |188=>some false
 |189=>some false
 |191=>some false
 |192=>some false
 |194=>some false
 |195=>some false
 |196=>some false
 |197=>some false
 |199=>some false
 |200=>some false
 |201=>some false
 |202=>some false
 |204=>some false
 |205=>some false
 |206=>some false
 |207=>some false
 |208=>some false
 |210=>some false
 |212=>some false
 |214=>some false
 |220=>some false
 |_=>none
def wsize:TypeId->Option Nat
 |2=>some 1
 |3=>some 1
 |4=>some 1
 |5=>some 1
 |6=>some 1
 |7=>some 4
 |8=>some 4
 |9=>some 1
 |10=>some 1
 |11=>some 1
 |12=>some 1
 |13=>some 2
 |14=>some 2
 |18=>some 1
 |19=>some 1
 |21=>some 1
 |22=>some 1
 |23=>some 4
 |24=>some 4
 |25=>some 6
 |26=>some 6
 |27=>some 1
 |28=>some 1
 |29=>some 3
 |30=>some 3
 |31=>some 1
 |32=>some 1
 |33=>some 1
 |34=>some 1
 |38=>some 1
 |41=>some 2
 |42=>some 2
 |43=>some 4
 |44=>some 4
 |57=>some 1
 |61=>some 5
 |62=>some 5
 |73=>some 1
 |76=>some 5
 |77=>some 5
 |89=>some 5
 |90=>some 5
 |105=>some 1
 |115=>some 5
 |116=>some 5
 |144=>some 1
 |148=>some 3
 |149=>some 3
 |151=>some 4
 |152=>some 4
 |156=>some 1
 |159=>some 1
 |170=>some 1
 |198=>some 1
 |211=>some 13
 |213=>some 1
 |215=>some 4
 |216=>some 4
 |217=>some 0
 |218=>some 0
 |219=>some 0
 |221=>some 1
 |222=>some 1
 |225=>some 1
 |1=>some 1
 |35=>some 1
 |36=>some 1
 |37=>some 1
 |40=>some 1
 |46=>some 1
 |47=>some 1
 |48=>some 1
 |49=>some 1
 |51=>some 1
 |52=>some 1
 |53=>some 1
 |54=>some 1
 |55=>some 1
 |56=>some 1
 |58=>some 1
 |59=>some 1
 |60=>some 1
 |63=>some 1
 |64=>some 1
 |65=>some 1
 |66=>some 1
 |67=>some 1
 |69=>some 1
 |70=>some 1
 |71=>some 1
 |72=>some 1
 |74=>some 1
 |78=>some 1
 |79=>some 1
 |80=>some 1
 |81=>some 1
 |82=>some 1
 |83=>some 1
 |84=>some 1
 |85=>some 1
 |86=>some 1
 |87=>some 1
 |88=>some 1
 |91=>some 1
 |92=>some 1
 |93=>some 1
 |94=>some 1
 |95=>some 1
 |96=>some 1
 |98=>some 1
 |99=>some 1
 |100=>some 1
 |101=>some 1
 |102=>some 1
 |104=>some 1
 |107=>some 1
 |108=>some 1
 |109=>some 1
 |110=>some 1
 |111=>some 1
 |112=>some 1
 |113=>some 1
 |114=>some 1
 |117=>some 1
 |118=>some 1
 |119=>some 1
 |120=>some 1
 |121=>some 1
 |122=>some 1
 |123=>some 1
 |124=>some 1
 |125=>some 1
 |126=>some 1
 |127=>some 1
 |128=>some 1
 |129=>some 1
 |130=>some 1
 |131=>some 1
 |132=>some 1
 |133=>some 1
 |134=>some 1
 |135=>some 1
 |136=>some 1
 |137=>some 1
 |138=>some 1
 |139=>some 1
 |141=>some 1
 |142=>some 1
 |146=>some 1
 |150=>some 1
 |153=>some 1
 |154=>some 1
 |155=>some 1
 |158=>some 1
 |161=>some 1
 |162=>some 1
 |163=>some 1
 |164=>some 1
 |165=>some 1
 |166=>some 1
 |168=>some 1
 |169=>some 1
 |171=>some 1
 |173=>some 1
 |174=>some 1
 |175=>some 1
 |177=>some 1
 |178=>some 1
 |179=>some 1
 |180=>some 1
 |181=>some 1
 |182=>some 1
 |183=>some 1
 |184=>some 1
 |185=>some 1
 |186=>some 1
 |187=>some 1
 |188=>some 1
 |189=>some 1
 |191=>some 1
 |192=>some 1
 |194=>some 1
 |195=>some 1
 |196=>some 1
 |197=>some 1
 |199=>some 1
 |200=>some 1
 |201=>some 1
 |202=>some 1
 |204=>some 1
 |205=>some 1
 |206=>some 1
 |207=>some 1
 |208=>some 1
 |210=>some 1
 |212=>some 1
 |214=>some 1
 |220=>some 1
 |_=>none
def wfel:TypeId->Nat->Option (TypeId×Nat)
 |7,0=>some (2,0)
 |7,1=>some (3,1)
 |7,2=>some (4,2)
 |7,3=>some (6,3)
 |8,0=>some (2,0)
 |8,1=>some (3,1)
 |8,2=>some (4,2)
 |8,3=>some (6,3)
 |13,0=>some (9,0)
 |13,1=>some (12,1)
 |14,0=>some (9,0)
 |14,1=>some (12,1)
 |23,0=>some (3,0)
 |23,1=>some (3,1)
 |23,2=>some (9,2)
 |23,3=>some (22,3)
 |24,0=>some (3,0)
 |24,1=>some (3,1)
 |24,2=>some (9,2)
 |24,3=>some (22,3)
 |25,0=>some (9,0)
 |25,1=>some (24,1)
 |25,2=>some (3,5)
 |26,0=>some (9,0)
 |26,1=>some (24,1)
 |26,2=>some (3,5)
 |29,0=>some (28,0)
 |29,1=>some (3,1)
 |29,2=>some (3,2)
 |30,0=>some (28,0)
 |30,1=>some (3,1)
 |30,2=>some (3,2)
 |33,0=>some (32,0)
 |34,0=>some (32,0)
 |41,0=>some (3,0)
 |41,1=>some (28,1)
 |42,0=>some (3,0)
 |42,1=>some (28,1)
 |43,0=>some (42,0)
 |43,1=>some (42,2)
 |44,0=>some (42,0)
 |44,1=>some (42,2)
 |61,0=>some (44,0)
 |61,1=>some (31,4)
 |62,0=>some (44,0)
 |62,1=>some (31,4)
 |76,0=>some (27,0)
 |76,1=>some (30,1)
 |76,2=>some (4,4)
 |77,0=>some (27,0)
 |77,1=>some (30,1)
 |77,2=>some (4,4)
 |89,0=>some (27,0)
 |89,1=>some (30,1)
 |89,2=>some (31,4)
 |90,0=>some (27,0)
 |90,1=>some (30,1)
 |90,2=>some (31,4)
 |115,0=>some (44,0)
 |115,1=>some (4,4)
 |116,0=>some (44,0)
 |116,1=>some (4,4)
 |148,0=>some (144,0)
 |148,1=>some (3,1)
 |148,2=>some (38,2)
 |149,0=>some (144,0)
 |149,1=>some (3,1)
 |149,2=>some (38,2)
 |151,0=>some (3,0)
 |151,1=>some (9,1)
 |151,2=>some (3,2)
 |151,3=>some (3,3)
 |152,0=>some (3,0)
 |152,1=>some (9,1)
 |152,2=>some (3,2)
 |152,3=>some (3,3)
 |_,_=>none
def wfld:TypeId->Nat->Option Nat
 |7,0=>some 0
 |7,1=>some 1
 |7,2=>some 2
 |7,3=>some 3
 |8,0=>some 0
 |8,1=>some 1
 |8,2=>some 2
 |8,3=>some 3
 |13,0=>some 0
 |13,1=>some 1
 |14,0=>some 0
 |14,1=>some 1
 |23,0=>some 0
 |23,1=>some 1
 |23,2=>some 2
 |23,3=>some 3
 |24,0=>some 0
 |24,1=>some 1
 |24,2=>some 2
 |24,3=>some 3
 |25,0=>some 0
 |25,1=>some 1
 |25,2=>some 5
 |26,0=>some 0
 |26,1=>some 1
 |26,2=>some 5
 |29,0=>some 0
 |29,1=>some 1
 |29,2=>some 2
 |30,0=>some 0
 |30,1=>some 1
 |30,2=>some 2
 |33,0=>some 0
 |34,0=>some 0
 |41,0=>some 0
 |41,1=>some 1
 |42,0=>some 0
 |42,1=>some 1
 |43,0=>some 0
 |43,1=>some 2
 |44,0=>some 0
 |44,1=>some 2
 |61,0=>some 0
 |61,1=>some 4
 |62,0=>some 0
 |62,1=>some 4
 |76,0=>some 0
 |76,1=>some 1
 |76,2=>some 4
 |77,0=>some 0
 |77,1=>some 1
 |77,2=>some 4
 |89,0=>some 0
 |89,1=>some 1
 |89,2=>some 4
 |90,0=>some 0
 |90,1=>some 1
 |90,2=>some 4
 |115,0=>some 0
 |115,1=>some 4
 |116,0=>some 0
 |116,1=>some 4
 |148,0=>some 0
 |148,1=>some 1
 |148,2=>some 2
 |149,0=>some 0
 |149,1=>some 1
 |149,2=>some 2
 |151,0=>some 0
 |151,1=>some 1
 |151,2=>some 2
 |151,3=>some 3
 |152,0=>some 0
 |152,1=>some 1
 |152,2=>some 2
 |152,3=>some 3
 |_,_=>none
def wzero:TypeId->Option Value
 |2=>some (.int .i64 0)
 |3=>some (.int .i64 0)
 |4=>some (.bool false)
 |5=>some (.int .u8 0)
 |6=>some (.int .u8 0)
 |7=>some (.agg #[.int .i64 0,.int .i64 0,.bool false,.int .u8 0])
 |8=>some (.agg #[.int .i64 0,.int .i64 0,.bool false,.int .u8 0])
 |9=>some (vs [])
 |10=>some (vs [])
 |11=>some (vs [])
 |12=>some (.int .u64 0)
 |13=>some (.agg #[vs [],.int .u64 0])
 |14=>some (.agg #[vs [],.int .u64 0])
 |18=>some (.agg #[.pointer none])
 |19=>some (.agg #[.pointer none])
 |21=>some (.int .i32 0)
 |22=>some (.slice none 0 0)
 |23=>some (.agg #[.int .i64 0,.int .i64 0,vs [],.slice none 0 0])
 |24=>some (.agg #[.int .i64 0,.int .i64 0,vs [],.slice none 0 0])
 |25=>some (.agg #[vs [],.int .i64 0,.int .i64 0,vs [],.slice none 0 0,.int .i64 0])
 |26=>some (.agg #[vs [],.int .i64 0,.int .i64 0,vs [],.slice none 0 0,.int .i64 0])
 |27=>some (.slice none 0 0)
 |28=>some (.slice none 0 0)
 |29=>some (.agg #[.slice none 0 0,.int .i64 0,.int .i64 0])
 |30=>some (.agg #[.slice none 0 0,.int .i64 0,.int .i64 0])
 |31=>some (.slice none 0 0)
 |32=>some (.slice none 0 0)
 |33=>some (.agg #[.slice none 0 0])
 |34=>some (.agg #[.slice none 0 0])
 |38=>some (.int .i64 0)
 |41=>some (.agg #[.int .i64 0,.slice none 0 0])
 |42=>some (.agg #[.int .i64 0,.slice none 0 0])
 |43=>some (.agg #[.int .i64 0,.slice none 0 0,.int .i64 0,.slice none 0 0])
 |44=>some (.agg #[.int .i64 0,.slice none 0 0,.int .i64 0,.slice none 0 0])
 |57=>some (.slice none 0 0)
 |61=>some (.agg #[.int .i64 0,.slice none 0 0,.int .i64 0,.slice none 0 0,.slice none 0 0])
 |62=>some (.agg #[.int .i64 0,.slice none 0 0,.int .i64 0,.slice none 0 0,.slice none 0 0])
 |73=>some (.slice none 0 0)
 |76=>some (.agg #[.slice none 0 0,.slice none 0 0,.int .i64 0,.int .i64 0,.bool false])
 |77=>some (.agg #[.slice none 0 0,.slice none 0 0,.int .i64 0,.int .i64 0,.bool false])
 |89=>some (.agg #[.slice none 0 0,.slice none 0 0,.int .i64 0,.int .i64 0,.slice none 0 0])
 |90=>some (.agg #[.slice none 0 0,.slice none 0 0,.int .i64 0,.int .i64 0,.slice none 0 0])
 |105=>some (.int .u64 0)
 |115=>some (.agg #[.int .i64 0,.slice none 0 0,.int .i64 0,.slice none 0 0,.bool false])
 |116=>some (.agg #[.int .i64 0,.slice none 0 0,.int .i64 0,.slice none 0 0,.bool false])
 |144=>some (.slice none 0 0)
 |148=>some (.agg #[.slice none 0 0,.int .i64 0,.int .i64 0])
 |149=>some (.agg #[.slice none 0 0,.int .i64 0,.int .i64 0])
 |151=>some (.agg #[.int .i64 0,vs [],.int .i64 0,.int .i64 0])
 |152=>some (.agg #[.int .i64 0,vs [],.int .i64 0,.int .i64 0])
 |156=>some (.int .u32 0)
 |159=>some (.int .u64 0)
 |170=>some (.slice none 0 0)
 |198=>some (.slice none 0 0)
 |211=>some (.agg #[.int .u8 0,.int .u8 0,.int .u8 0,.int .u8 0,.int .u8 0,.int .u8 0,.int .u8 0,.int .u8 0,.int .u8 0,.int .u8 0,.int .u8 0,.int .u8 0,.int .u8 0])
 |213=>some (.slice none 0 0)
 |215=>some (.agg #[.pointer none,.pointer none,.pointer none,vs []])
 |216=>some (.agg #[.pointer none,.pointer none,.pointer none,vs []])
 |217=>some (.agg #[])
 |218=>some (.agg #[])
 |219=>some (.agg #[])
 |221=>some (.int .u8 0)
 |222=>some (.int .u8 0)
 |225=>some (.int .i32 0)
 |1=>some (.nilFunc)
 |35=>some (.nilFunc)
 |36=>some (.nilFunc)
 |37=>some (.nilFunc)
 |40=>some (.nilFunc)
 |46=>some (.nilFunc)
 |47=>some (.nilFunc)
 |48=>some (.nilFunc)
 |49=>some (.nilFunc)
 |51=>some (.nilFunc)
 |52=>some (.nilFunc)
 |53=>some (.nilFunc)
 |54=>some (.nilFunc)
 |55=>some (.nilFunc)
 |56=>some (.nilFunc)
 |58=>some (.nilFunc)
 |59=>some (.nilFunc)
 |60=>some (.nilFunc)
 |63=>some (.nilFunc)
 |64=>some (.nilFunc)
 |65=>some (.nilFunc)
 |66=>some (.nilFunc)
 |67=>some (.nilFunc)
 |69=>some (.nilFunc)
 |70=>some (.nilFunc)
 |71=>some (.nilFunc)
 |72=>some (.nilFunc)
 |74=>some (.nilFunc)
 |78=>some (.nilFunc)
 |79=>some (.nilFunc)
 |80=>some (.nilFunc)
 |81=>some (.nilFunc)
 |82=>some (.nilFunc)
 |83=>some (.nilFunc)
 |84=>some (.nilFunc)
 |85=>some (.nilFunc)
 |86=>some (.nilFunc)
 |87=>some (.nilFunc)
 |88=>some (.nilFunc)
 |91=>some (.nilFunc)
 |92=>some (.nilFunc)
 |93=>some (.nilFunc)
 |94=>some (.nilFunc)
 |95=>some (.nilFunc)
 |96=>some (.nilFunc)
 |98=>some (.nilFunc)
 |99=>some (.nilFunc)
 |100=>some (.nilFunc)
 |101=>some (.nilFunc)
 |102=>some (.nilFunc)
 |104=>some (.nilFunc)
 |107=>some (.nilFunc)
 |108=>some (.nilFunc)
 |109=>some (.nilFunc)
 |110=>some (.nilFunc)
 |111=>some (.nilFunc)
 |112=>some (.nilFunc)
 |113=>some (.nilFunc)
 |114=>some (.nilFunc)
 |117=>some (.nilFunc)
 |118=>some (.nilFunc)
 |119=>some (.nilFunc)
 |120=>some (.nilFunc)
 |121=>some (.nilFunc)
 |122=>some (.nilFunc)
 |123=>some (.nilFunc)
 |124=>some (.nilFunc)
 |125=>some (.nilFunc)
 |126=>some (.nilFunc)
 |127=>some (.nilFunc)
 |128=>some (.nilFunc)
 |129=>some (.nilFunc)
 |130=>some (.nilFunc)
 |131=>some (.nilFunc)
 |132=>some (.nilFunc)
 |133=>some (.nilFunc)
 |134=>some (.nilFunc)
 |135=>some (.nilFunc)
 |136=>some (.nilFunc)
 |137=>some (.nilFunc)
 |138=>some (.nilFunc)
 |139=>some (.nilFunc)
 |141=>some (.nilFunc)
 |142=>some (.nilFunc)
 |146=>some (.nilFunc)
 |150=>some (.nilFunc)
 |153=>some (.nilFunc)
 |154=>some (.nilFunc)
 |155=>some (.nilFunc)
 |158=>some (.nilFunc)
 |161=>some (.nilFunc)
 |162=>some (.nilFunc)
 |163=>some (.nilFunc)
 |164=>some (.nilFunc)
 |165=>some (.nilFunc)
 |166=>some (.nilFunc)
 |168=>some (.nilFunc)
 |169=>some (.nilFunc)
 |171=>some (.nilFunc)
 |173=>some (.nilFunc)
 |174=>some (.nilFunc)
 |175=>some (.nilFunc)
 |177=>some (.nilFunc)
 |178=>some (.nilFunc)
 |179=>some (.nilFunc)
 |180=>some (.nilFunc)
 |181=>some (.nilFunc)
 |182=>some (.nilFunc)
 |183=>some (.nilFunc)
 |184=>some (.nilFunc)
 |185=>some (.nilFunc)
 |186=>some (.nilFunc)
 |187=>some (.nilFunc)
 |188=>some (.nilFunc)
 |189=>some (.nilFunc)
 |191=>some (.nilFunc)
 |192=>some (.nilFunc)
 |194=>some (.nilFunc)
 |195=>some (.nilFunc)
 |196=>some (.nilFunc)
 |197=>some (.nilFunc)
 |199=>some (.nilFunc)
 |200=>some (.nilFunc)
 |201=>some (.nilFunc)
 |202=>some (.nilFunc)
 |204=>some (.nilFunc)
 |205=>some (.nilFunc)
 |206=>some (.nilFunc)
 |207=>some (.nilFunc)
 |208=>some (.nilFunc)
 |210=>some (.nilFunc)
 |212=>some (.nilFunc)
 |214=>some (.nilFunc)
 |220=>some (.nilFunc)
 |_=>none
def wbld:TypeId->Option (List (Nat×Nat))
 |7=>some [(0,1),(1,1),(2,1),(3,1)]
 |8=>some [(0,1),(1,1),(2,1),(3,1)]
 |13=>some [(0,1),(1,1)]
 |14=>some [(0,1),(1,1)]
 |23=>some [(0,1),(1,1),(2,1),(3,1)]
 |24=>some [(0,1),(1,1),(2,1),(3,1)]
 |25=>some [(0,1),(1,4),(5,1)]
 |26=>some [(0,1),(1,4),(5,1)]
 |29=>some [(0,1),(1,1),(2,1)]
 |30=>some [(0,1),(1,1),(2,1)]
 |33=>some [(0,1)]
 |34=>some [(0,1)]
 |41=>some [(0,1),(1,1)]
 |42=>some [(0,1),(1,1)]
 |43=>some [(0,2),(2,2)]
 |44=>some [(0,2),(2,2)]
 |61=>some [(0,4),(4,1)]
 |62=>some [(0,4),(4,1)]
 |76=>some [(0,1),(1,3),(4,1)]
 |77=>some [(0,1),(1,3),(4,1)]
 |89=>some [(0,1),(1,3),(4,1)]
 |90=>some [(0,1),(1,3),(4,1)]
 |115=>some [(0,4),(4,1)]
 |116=>some [(0,4),(4,1)]
 |148=>some [(0,1),(1,1),(2,1)]
 |149=>some [(0,1),(1,1),(2,1)]
 |151=>some [(0,1),(1,1),(2,1),(3,1)]
 |152=>some [(0,1),(1,1),(2,1),(3,1)]
 |_=>none
def wcod:TypeId->Nat
 |22=>0
 |27=>1
 |28=>2
 |31=>3
 |32=>4
 |57=>5
 |73=>6
 |144=>7
 |170=>8
 |198=>9
 |213=>10
 |_=>0
def welt:Nat->TypeId
 |0=>24
 |1=>9
 |2=>3
 |3=>44
 |4=>57
 |5=>62
 |6=>28
 |7=>152
 |8=>116
 |9=>32
 |10=>5
 |_=>0
def wapp:TypeId->Option (TypeId×Nat×Nat)
 |22=>some (24,4,56)
 |27=>some (9,1,16)
 |28=>some (3,1,8)
 |31=>some (44,4,64)
 |32=>some (57,1,24)
 |57=>some (62,5,88)
 |73=>some (28,1,24)
 |144=>some (152,4,40)
 |170=>some (116,5,72)
 |198=>some (32,1,24)
 |213=>some (5,1,1)
 |_=>none
theorem wappOk:∀{t el q b},wapp t=some (el,q,b)->AppIs Tryz.prog t el q b:=by
 intro t el q b h
 unfold wapp at h
 split at h
 ·cases h;exact AppIs.of (z:= .agg #[.int .i64 0,.int .i64 0,vs [],.slice none 0 0]) (by kernel_rfl) (by kernel_rfl) rfl (by decide) (by decide)
 ·cases h;exact AppIs.of (z:=vs []) (by kernel_rfl) (by kernel_rfl) rfl (by decide) (by decide)
 ·cases h;exact AppIs.of (z:= .int .i64 0) (by kernel_rfl) (by kernel_rfl) rfl (by decide) (by decide)
 ·cases h;exact AppIs.of (z:= .agg #[.int .i64 0,.slice none 0 0,.int .i64 0,.slice none 0 0]) (by kernel_rfl) (by kernel_rfl) rfl (by decide) (by decide)
 ·cases h;exact AppIs.of (z:= .slice none 0 0) (by kernel_rfl) (by kernel_rfl) rfl (by decide) (by decide)
 ·cases h;exact AppIs.of (z:= .agg #[.int .i64 0,.slice none 0 0,.int .i64 0,.slice none 0 0,.slice none 0 0]) (by kernel_rfl) (by kernel_rfl) rfl (by decide) (by decide)
 ·cases h;exact AppIs.of (z:= .slice none 0 0) (by kernel_rfl) (by kernel_rfl) rfl (by decide) (by decide)
 ·cases h;exact AppIs.of (z:= .agg #[.int .i64 0,vs [],.int .i64 0,.int .i64 0]) (by kernel_rfl) (by kernel_rfl) rfl (by decide) (by decide)
 ·cases h;exact AppIs.of (z:= .agg #[.int .i64 0,.slice none 0 0,.int .i64 0,.slice none 0 0,.bool false]) (by kernel_rfl) (by kernel_rfl) rfl (by decide) (by decide)
 ·cases h;exact AppIs.of (z:= .slice none 0 0) (by kernel_rfl) (by kernel_rfl) rfl (by decide) (by decide)
 ·cases h;exact AppIs.of (z:= .int .u8 0) (by kernel_rfl) (by kernel_rfl) rfl (by decide) (by decide)
 ·cases h
def Wt:Tbl Tryz.prog where
 ty:=wty
 rp:=wrp
 en:=wen
 dec:=wdec
 enOk:=f0x
 decOk:=wdecOk
 und:=wund
 undOk:=by intro t D h;unfold wund at h;split at h<;>cases h<;>kernel_rfl
 agg:=wagg
 aggOk:=by intro t b h;unfold wagg at h;split at h<;>cases h<;>(intro w;kernel_rfl)
 size:=wsize
 sizeOk:=by intro t k h;unfold wsize at h;split at h<;>cases h<;>(intro w;kernel_rfl)
 fel:=wfel
 felOk:=by
  intro t j e o h;unfold wfel at h
  split at h<;>first|cases h;done|(injection h with h;injection h with h1 h2;subst h1;subst h2;kernel_rfl)
 fld:=wfld
 fldOk:=by
  intro t j o h;unfold wfld at h
  split at h<;>first|cases h;done|(injection h with h;subst h;intro b p w;kernel_rfl)
 zero:=wzero
 zeroOk:=by intro t z h;unfold wzero at h;split at h<;>cases h<;>(intro w;kernel_rfl)
 cod:=wcod
 elt:=welt
 app:=wapp
 appOk:=wappOk
 mix:=rfl
 gl:=fun F=>FX F 0 [.int .u8 40,.int .u8 41,.int .u8 44,.int .u8 59,.int .u8 58,.int .u8 61,.int .u8 60,.int .u8 43,.int .u8 45,.int .u8 42,.int .u8 47,.int .u8 123,.int .u8 125]
 glMono:=fun hF h=>h.mono hF
 bld:=wbld
 bldOk:=by intro t ps h;unfold wbld at h;split at h<;>cases h<;>exact e8n (by kernel_rfl) (by kernel_rfl)
theorem wzOk:∀t z,Wt.zero t=some z->(Tryz.prog.info? t).map (·.zero)=some (some z):=by
 intro t z h;change wzero t=some z at h;unfold wzero at h;split at h<;>cases h<;>kernel_rfl
end Go.Proofs.YthaegflpecbfgaaGreatDoor.M
namespace Go.Proofs.YthaegflpecbfgaaGreatDoor.M
open Go Go.RowKit Rt
set_option maxRecDepth 1000000
set_option maxHeartbeats 40000000
theorem b9d(n:Nat)(c1:Int):FnC Wt 216 [.int .u8 c1] (a9u n c1) (fun r=> .ob r):=by
 refine a0z (n:=13) Tryz.func216 rfl rfl rfl (fun _ _=>by kernel_rfl) fun F0 w0 r=> ?_
 unfold a9u
 refine gJ 3 (fun v1=> [.v 8 (.ob v1)]) rfl (fun _=>rfl) (fun J1 hJ1=> ?_) (fun v1=> ?_)
 ·
  refine gD rfl (fun _=> ?_) (fun _=> ?_)
  ·
   exact gX hJ1 rfl (by kernel_rfl)
  ·
   exact gX hJ1 rfl (by kernel_rfl)
 refine gJ 3 (fun v2=> [.v 12 (.ob v2)]) rfl (fun _=>rfl) (fun J2 hJ2=> ?_) (fun v2=> ?_)
 ·
  refine gD rfl (fun _=> ?_) (fun _=> ?_)
  ·
   exact gX hJ2 rfl (by kernel_rfl)
  ·
   exact gX hJ2 rfl (by kernel_rfl)
 exact gR rfl rfl rfl
theorem b7f(n:Nat)(c1:Int):FnC Wt 175 [.int .u8 c1] (a5g n c1) (fun r=> .ob r):=by
 refine a0z (n:=17) Tryz.func175 rfl rfl rfl (fun _ _=>by kernel_rfl) fun F0 w0 r=> ?_
 unfold a5g
 refine gJ 3 (fun v1=> [.v 8 (.ob v1)]) rfl (fun _=>rfl) (fun J1 hJ1=> ?_) (fun v1=> ?_)
 ·
  refine gD rfl (fun _=> ?_) (fun _=> ?_)
  ·
   exact gX hJ1 rfl (by kernel_rfl)
  ·
   exact gX hJ1 rfl (by kernel_rfl)
 refine gJ 7 (fun v2=> [.v 16 (.ob v2)]) rfl (fun _=>rfl) (fun J2 hJ2=> ?_) (fun v2=> ?_)
 ·
  refine gD rfl (fun _=> ?_) (fun _=> ?_)
  ·
   exact gX hJ2 rfl (by kernel_rfl)
  ·
   refine gA ?_
   refine gD rfl (fun _=> ?_) (fun _=> ?_)
   ·
    refine gB ?_
    exact gX hJ2 rfl (by kernel_rfl)
   ·
    refine gB ?_
    exact gX hJ2 rfl (by kernel_rfl)
 exact gR rfl rfl rfl
theorem c6v(n:Nat)(c1:Int):FnC Wt 213 [.int .u8 c1] (a6i n c1) (fun r=> .ob r):=by
 refine a0z (n:=9) Tryz.func213 rfl rfl rfl (fun _ _=>by kernel_rfl) fun F0 w0 r=> ?_
 unfold a6i
 refine gJ 3 (fun v1=> [.v 8 (.ob v1)]) rfl (fun _=>rfl) (fun J1 hJ1=> ?_) (fun v1=> ?_)
 ·
  refine gD rfl (fun _=> ?_) (fun _=> ?_)
  ·
   exact gX hJ1 rfl (by kernel_rfl)
  ·
   exact gX hJ1 rfl (by kernel_rfl)
 exact gR rfl rfl rfl
theorem c6o(n:Nat)(c1:Int):FnC Wt 177 [.int .u8 c1] (a5p n c1) (fun r=> .ob r):=by
 refine a0z (n:=13) Tryz.func177 rfl rfl rfl (fun _ _=>by kernel_rfl) fun F0 w0 r=> ?_
 unfold a5p
 refine gK (b7f _ _) rfl rfl rfl fun v1=> ?_
 refine gJ 3 (fun v2=> [.v 8 (.ob v2)]) rfl (fun _=>rfl) (fun J1 hJ1=> ?_) (fun v2=> ?_)
 ·
  refine gD rfl (fun _=> ?_) (fun _=> ?_)
  ·
   exact gX hJ1 rfl (by kernel_rfl)
  ·
   refine gA ?_
   refine gK (c6v _ _) rfl rfl rfl fun v4=> ?_
   exact gX hJ1 rfl (by kernel_rfl)
 refine gJ 3 (fun v3=> [.v 12 (.ob v3)]) rfl (fun _=>rfl) (fun J2 hJ2=> ?_) (fun v3=> ?_)
 ·
  refine gD rfl (fun _=> ?_) (fun _=> ?_)
  ·
   exact gX hJ2 rfl (by kernel_rfl)
  ·
   exact gX hJ2 rfl (by kernel_rfl)
 exact gR rfl rfl rfl
theorem b5b(n:Nat)(s1:Bs)(isx1:(Int->Option Bool)):FnH Wt 176 [.str s1] ⟨Int,Bool,fun q=> [.int .u8 q],fun q=>isx1 q,fun r=> .ob r⟩ (a4z n s1 isx1) (fun r=> .int .i64 r):=by
 refine b2v (n:=20) Tryz.func176 rfl rfl rfl (fun _ _=>by kernel_rfl) fun F0 w0 r u=> ?_
 unfold a4z
 refine a2r ((fun k0 m(s:Int)=>lexer_span_L1 n s1 isx1 k0 m s) _) (fun(s:Int)=> [.v 5 (.int .i64 s)]) (fun _=>rfl) _ rfl rfl (fun _=>rfl) rfl fun K1 m1 hK1 nx1=> ?_
 refine gJ 6 (fun v1=> [.v 16 (.ob v1)]) rfl (fun _=>rfl) (fun J2 hJ2=> ?_) (fun v1=> ?_)
 ·
  refine gD rfl (fun _=> ?_) (fun _=> ?_)
  ·
   refine gA ?_
   refine gV rfl fun c1=> ?_
   refine gA ?_
   refine gKv (T:=Wt) (Φ:=⟨Int,Bool,fun q=> [.int .u8 q],fun q=>isx1 q,fun r=> .ob r⟩) (u:=u) c1 rfl rfl rfl fun v2=> ?_
   exact gX hJ2 rfl (by kernel_rfl)
  ·
   exact gX hJ2 rfl (by kernel_rfl)
 refine gC rfl (fun _=> ?_) (fun _=> ?_)
 ·
  exact gE hK1 _ rfl (by kernel_rfl)
 ·
  exact gR rfl rfl rfl
theorem b2j(n:Nat)(s1:Bs):FnC Wt 113 [.str s1] (a4q n s1) (fun r=> .ob r):=by
 refine a0z (n:=22) Tryz.func113 rfl rfl rfl (fun _ _=>by kernel_rfl) fun F0 w0 r=> ?_
 unfold a4q
 refine gJ 4 (fun v1=> [.v 9 (.ob v1)]) rfl (fun _=>rfl) (fun J1 hJ1=> ?_) (fun v1=> ?_)
 ·
  refine gD rfl (fun _=> ?_) (fun _=> ?_)
  ·
   refine gA ?_
   refine gV rfl fun c1=> ?_
   refine gA ?_
   refine gK (b7f _ _) rfl rfl rfl fun v5=> ?_
   exact gX hJ1 rfl (by kernel_rfl)
  ·
   exact gX hJ1 rfl (by kernel_rfl)
 refine gJ 4 (fun v2=> [.v 14 (.ob v2)]) rfl (fun _=>rfl) (fun J2 hJ2=> ?_) (fun v2=> ?_)
 ·
  refine gD rfl (fun _=> ?_) (fun _=> ?_)
  ·
   exact gX hJ2 rfl (by kernel_rfl)
  ·
   exact gX hJ2 rfl (by kernel_rfl)
 refine gJ 6 (fun v3=> [.v 21 (.ob v3)]) rfl (fun _=>rfl) (fun J3 hJ3=> ?_) (fun v3=> ?_)
 ·
  refine gD rfl (fun _=> ?_) (fun _=> ?_)
  ·
   refine gA ?_
   refine gKh (b5b n _ (a5p n)) rfl rfl rfl (fvA rfl rfl (fun q=>c6o n q) default) fun v4=> ?_
   exact gX hJ3 rfl (by kernel_rfl)
  ·
   exact gX hJ3 rfl (by kernel_rfl)
 exact gR rfl rfl rfl
theorem d2b(n:Nat)(s1:Bs):FnC Wt 186 [.str s1] (c4b n s1) (fun r=> .int .i64 r):=by
 refine a0z (n:=35) Tryz.func186 rfl rfl rfl (fun _ _=>by kernel_rfl) fun F0 w0 r=> ?_
 unfold c4b
 refine gKh (b5b n _ (a9u n)) rfl rfl rfl (fvA rfl rfl (fun q=>b9d n q) default) fun v1=> ?_
 refine a2r ((fun k0 m(s:Int)=>b5y n s1 k0 m s) _) (fun(s:Int)=> [.v 3 (.int .i64 s)]) (fun _=>rfl) _ rfl rfl (fun _=>rfl) rfl fun K1 m1 hK1 nx1=> ?_
 refine gJ 5 (fun v2=> [.v 15 (.ob v2)]) rfl (fun _=>rfl) (fun J2 hJ2=> ?_) (fun v2=> ?_)
 ·
  refine gD rfl (fun _=> ?_) (fun _=> ?_)
  ·
   refine gA ?_
   refine gV rfl fun c2=> ?_
   exact gX hJ2 rfl (by kernel_rfl)
  ·
   exact gX hJ2 rfl (by kernel_rfl)
 refine gC rfl (fun _=> ?_) (fun _=> ?_)
 ·
  refine a2r ((fun k0 m(s:Int)=>b5g n s1 k0 m s) _) (fun(s:Int)=> [.v 3 (.int .i64 s)]) (fun _=>rfl) _ rfl rfl (fun _=>rfl) rfl fun K3 m3 hK3 nx3=> ?_
  refine gJ 5 (fun v4=> [.v 25 (.ob v4)]) rfl (fun _=>rfl) (fun J4 hJ4=> ?_) (fun v4=> ?_)
  ·
   refine gD rfl (fun _=> ?_) (fun _=> ?_)
   ·
    refine gA ?_
    refine gV rfl fun c1=> ?_
    exact gX hJ4 rfl (by kernel_rfl)
   ·
    exact gX hJ4 rfl (by kernel_rfl)
  refine gC rfl (fun _=> ?_) (fun _=> ?_)
  ·
   exact gE hK3 _ rfl (by kernel_rfl)
  ·
   refine gV rfl fun t1=> ?_
   refine gKh (b5b n _ (a9u n)) rfl rfl rfl (fvA rfl rfl (fun q=>b9d n q) default) fun v3=> ?_
   exact gE hK1 _ rfl (by kernel_rfl)
 ·
  exact gR rfl rfl rfl
theorem c1s(n:Nat)(s1:Bs)(r:(Bs×Int))(hm:b4w n s1=some r){w:World}{F:Frz}(hs:Sat F w)(hg0:FX F 0 [.int .u8 40,.int .u8 41,.int .u8 44,.int .u8 59,.int .u8 58,.int .u8 61,.int .u8 60,.int .u8 43,.int .u8 45,.int .u8 42,.int .u8 47,.int .u8 123,.int .u8 125]):
 Calls Tryz.prog 218 #[vs s1] w fun e w'=>∃v F' O',e= .returned v/\HS F w [] F' O' w'/\(v= .tuple #[vs r.1,.int .i64 r.2]/\O'= []):=by
 unfold b4w at hm
 have h:=HS.init hs
 refine a2g 61 Tryz.func218 Y Y Y (a0f (a0a (a0c Y Y Y (a0c Y Y Y (a0e (a0d (d7n (a0f (a0a (a0c Y Y Y (a0e (a0d (a0f (a0a (a0c Y Y Y (a0e (a0d (a0f (d8z (a0d (a0f (a3d ?_))))))))))))))))))))))
 have ga:=h.nilRow 5 1
 intro a g4
 obtain⟨kont1,hkont1⟩:∃kont1:Int->(List Int)->Option (Bs×Int),kont1=(fun(nx2:Int)(l2:List Int)=>bif decide (400<(l2.length:Int))then some ([],0)else some (c8w l2,iadd .i64 nx2 1)):=⟨_,Y⟩
 replace hm:(fun m(s:Int×List Int)=>lexer_quoted_L1 n s1 kont1 m s.1 s.2) n (1,([]:List Int))=some r:=by rw [hkont1];exact hm
 refine b9w (id:=0) (fun m(s:Int×List Int)=>lexer_quoted_L1 n s1 kont1 m s.1 s.2) (fun(y:Int×List Int)=>kont1 y.1 y.2) r (fun(s:Int×List Int)a w'=>∃(x:Frz)(p:Option Addr)(g:Nat)(t:Nat)(xss2:List Value),Frz.le F x/\HS F w [] x [.row 5 1 p g t xss2] w'/\(RowN (Rp.int .u8) x g xss2 s.2)/\Has 61 a [(0,vs s1),(4,.slice p g t),(5,.int .i64 s.1)]) (fun(y:Int×List Int)a w'=>∃(I:Frz)(L:Option Addr)(J:Nat)(M:Nat)(xss3:List Value),Frz.le F I/\HS F w [] I [.row 5 1 L J M xss3] w'/\(RowN (Rp.int .u8) I J xss3 y.2)/\Has 61 a [(4,.slice L J M),(5,.int .i64 y.1)]) (fun _=>Y) ?_ ?_ hm ⟨_,none,0,0,[],Yf,ga.Yp [0] Y Y,((show RowN (Rp.int .u8) _ 0 [] []from⟨Y,Y⟩)),g4.cut (l:= [0,4,5]) Y⟩
 clear hm;rintro⟨nx2,l2⟩ a gv hm ⟨I,L,J,M,xss3,gw,N,g3,g5⟩
 rw [hkont1]at hm
 replace hm:=hm
 refine a6x (e:= .exit 0) g5 (a3l (a0d (a0f (a0f (a0a (a0b Y Y Y (a6y g3.len u213 Y Y Y (a0x Y Y Y Y Y (a0e (a0d ?_))))))))))
 rcases a0g hm with⟨Q,hm⟩|⟨Q,hm⟩
 refine a1j 56 Y Q (a1t Y (a0f (a0a (a0c Y Y Y (a0c Y Y Y (a0e (a0d (a3x (a0p (b1n (a9f (vl:= [vs [],.int .i64 0]) Y ⟨a6k Y,a6k Y,trivial⟩ (by simp) ?_)))))))))))
 obtain rfl:=Yo hm
 exact⟨_,_,_,Y,N.Yp [] Y Y,Y,Y⟩
 refine a1j 56 Y Q (a1f Y (a2v (a0d (a0f (a0a (a0b Y Y Y (e4n u213 u5 u9 Y Y N Y (i:=0) Y (e4i g3.2) (a0b Y Y Y (a0x Y Y Y Y Y (a0c Y Y Y (a0c Y Y Y (a0e (a0d (a3x (b1n (a9f (vl:= [vs (c8w l2),.int .i64 (iadd .i64 nx2 1)]) Y ⟨a6k Y,a6k Y,trivial⟩ (by simp) ?_))))))))))))))))
 obtain rfl:=Yo hm
 exact⟨_,_,_,Y,N.Yp [] Y Y,Y,Y⟩
 clear hm hkont1;intro hk1 mx1 K ihx1
 rintro⟨nx1,l1⟩ a R hm ⟨x,p,g,t,xss2,T,z,U,g6⟩
 simp only [lexer_quoted_L1_s]at hm
 refine a3a g6 (a3d (a0f (a3d (a0f (a0a (a0b Y Y Y (a0b Y Y Y (b6y u9 Y Y Y (a0x Y Y Y Y Y (a0b Y Y Y ?_))))))))))
 obtain⟨v1,o,hm⟩:=Yb hm
 refine a8i 6 (fun a w'=>R=w'/\Has 61 a [(0,vs s1),(4,.slice p g t),(5,.int .i64 nx1),(17,.bool v1)]) ?_ ?_
 rintro a gx ⟨rfl,g7⟩
 refine a2k g7 (a0c Y Y Y (a0e (a0d ?_)))
 rcases a0g hm with⟨V,hm⟩|⟨V,hm⟩
 refine a1j 6 Y V (a1t Y (a0f (a0a (a0c Y Y Y (a0c Y Y Y (a0e (a0d (a3x (a1p (a0p (a1p (a0p (a1p (a0p (b1n (a9f (vl:= [vs [],.int .i64 0]) Y ⟨a6k Y,a6k Y,trivial⟩ (by simp) ?_))))))))))))))))
 obtain rfl:=Yo hm
 exact⟨_,_,_,Y,z.Yp [] Y Y,Y,Y⟩
 refine a1j 6 Y V (a1f Y (a0f (a0a (a0b Y Y Y (a0b Y Y Y ?_)))))
 obtain⟨c1,gb,hm⟩:=Yb hm
 refine b1g u9 Y Y Y Y gb (a0x Y Y Y Y Y (a0c Y Y Y (a0e (a0d ?_))))
 rcases a0g hm with⟨Z,hm⟩|⟨Z,hm⟩
 refine a1j 18 Y Z (a1t Y (b1f (b4t (by decide) (a1b (b4t (by decide) (a1b (fun a ha=>hk1 (nx1,l1) a _ hm ?_)))))))
 exact⟨_,p,g,t,xss2,T,z.Yp [0] Y Y,U,ha.cut (l:= [4,5]) Y⟩
 refine a1j 18 Y Z (a1f Y (a0f (a0a (a0b Y Y Y (a0b Y Y Y ?_)))))
 obtain⟨c2,gc,hm⟩:=Yb hm
 refine b1g u9 Y Y Y Y gc (a0x Y Y Y Y Y (a0c Y Y Y (a0e (a0d ?_))))
 rcases a0g hm with⟨g0,hm⟩|⟨g0,hm⟩
 refine a1j 23 Y g0 (a1t Y (a0f (a0a (a0b Y Y Y (a0x Y Y Y Y Y (a0c Y Y Y (a0e (a0d (a0f (a0a (a0b Y Y Y (a0b Y Y Y (b6y u9 Y Y Y (a0x Y Y Y Y Y (a0b Y Y Y ?_)))))))))))))))
 obtain⟨v2,k,hm⟩:=Yb hm
 refine a8i 11 (fun a w'=>R=w'/\Has 61 a [(0,vs s1),(4,.slice p g t),(5,.int .i64 (iadd .i64 nx1 1)),(45,.bool v2)]) ?_ ?_
 rintro a gy ⟨rfl,g8⟩
 refine a2k g8 (a0e (a0d ?_))
 rcases a0g hm with⟨g1,hm⟩|⟨g1,hm⟩
 refine a1j 45 Y g1 (a1t Y (a0f (a0a (a0c Y Y Y (a0c Y Y Y (a0e (a0d (a3x (a1p (a0p (a1p (a0p (a1p (a0p (b1n (a9f (vl:= [vs [],.int .i64 0]) Y ⟨a6k Y,a6k Y,trivial⟩ (by simp) ?_))))))))))))))))
 obtain rfl:=Yo hm
 exact⟨_,_,_,Y,z.Yp [] Y Y,Y,Y⟩
 refine a1j 45 Y g1 (a1f Y (a2v (a4x (a0d (a0f (a0a (a0b Y Y Y (a0b Y Y Y (a0b Y Y Y ?_)))))))))
 obtain⟨c3,gd,hm⟩:=Yb hm
 refine b1g u9 Y Y Y Y gd (a0k (e:=5) (cs:= [.int .u8 c3]) (q:=1) Y Y z Y (fun _=>by kernel_rfl) Y Y ?_)
 intro b1 gz ge
 obtain⟨l3,gf,hm⟩:=Yb hm
 refine a7g (r:=(Rp.int .u8)) ap213 Y Y ge Y Y (i:=1) (j:=0) Y Y U ((show RowN (Rp.int .u8) x 1 [.int .u8 c3] [c3]from⟨Y,⟨_,_,Y,Y,(Y:RowR (Rp.int .u8) _ [] [])⟩⟩)) gf ?_
 intro gg gh h0 gi gj
 refine a0c Y Y Y (a0e (a0d (a0a (a0b Y Y Y (a0x Y Y Y Y Y (a0c Y Y Y (a0e (a4x (a0m (fun a ha=>ihx1 ((iadd .i64 (iadd .i64 nx1 1) 1),l3) a _ hm ?_))))))))))
 exact⟨_,gg,(g+1),gh,(xss2++ [.int .u8 c3]),T,gi.Yp [1] Y Y,gj,ha.cut (l:= [0,4,5]) Y⟩
 clear hm
 rcases a0g k with⟨g2,k⟩|⟨g2,k⟩
 refine a3o 34 Y g2 (a1g Y (by decide) Y (a1g Y (by decide) Y (a1g Y (by decide) Y (a1g Y (by decide) Y (a1g Y (by decide) Y (a1g Y (by decide) Y (a1g Y (by decide) Y (a1g Y (by decide) Y (a1g Y (by decide) Y (a1g Y (by decide) Y (a0n Y Y Y Y (a0e (a0m (fun a ha=> ?_))))))))))))))
 cases k
 exact⟨Y,ha.cut (l:= [0,4,5,45]) Y⟩
 refine a3o 34 Y g2 (a0b Y Y Y (a0b Y Y Y ?_))
 obtain⟨c4,gk,k⟩:=Yb k
 refine b1g u9 Y Y Y Y gk (a0x Y Y Y Y Y (a0b Y Y Y ?_))
 obtain⟨v3,u,k⟩:=Yb k
 refine a8i 5 (fun a w'=>R=w'/\Has 61 a [(0,vs s1),(4,.slice p g t),(5,.int .i64 (iadd .i64 nx1 1)),(34,.bool false),(44,.bool v3)]) ?_ ?_
 rintro a h1 ⟨rfl,g9⟩
 refine a2k g9 (a0j Y Y Y Y (a0e (a0m (fun a ha=> ?_))))
 cases k
 exact⟨Y,ha.cut (l:= [0,4,5,45]) Y⟩
 clear k
 rcases a0g u with⟨G,u⟩|⟨G,u⟩
 refine a3o 39 Y G (a0b Y Y Y (a0b Y Y Y ?_))
 obtain⟨c5,gl,u⟩:=Yb u
 refine b1g u9 Y Y Y Y gl (a0x Y Y Y Y Y (a0n Y Y Y Y (a0e (a0m (fun a ha=> ?_)))))
 cases u
 exact⟨Y,ha.cut (l:= [0,4,5,34,44]) Y⟩
 refine a3o 39 Y G (a1g Y (by decide) Y (a1g Y (by decide) Y (a1g Y (by decide) Y (a1g Y (by decide) Y (a0j Y Y Y Y (a0e (a0m (fun a ha=> ?_))))))))
 cases u
 exact⟨Y,ha.cut (l:= [0,4,5,34,44]) Y⟩
 refine a1j 23 Y g0 (a1f Y (a2v (a4x (a0d (a0f (a0a (a0b Y Y Y (a0b Y Y Y (a0b Y Y Y ?_)))))))))
 obtain⟨c6,gm,hm⟩:=Yb hm
 refine b1g u9 Y Y Y Y gm (a0k (e:=5) (cs:= [.int .u8 c6]) (q:=1) Y Y z Y (fun _=>by kernel_rfl) Y Y ?_)
 intro b2 h2 gn
 obtain⟨l4,go,hm⟩:=Yb hm
 refine a7g (r:=(Rp.int .u8)) ap213 Y Y gn Y Y (i:=1) (j:=0) Y Y U ((show RowN (Rp.int .u8) x 1 [.int .u8 c6] [c6]from⟨Y,⟨_,_,Y,Y,(Y:RowR (Rp.int .u8) _ [] [])⟩⟩)) go ?_
 intro gp gq h3 gr gs
 refine a0c Y Y Y (a0e (a0d (a0a (a0b Y Y Y (a0x Y Y Y Y Y (a0c Y Y Y (a0e (a4x (a0m (fun a ha=>ihx1 ((iadd .i64 nx1 1),l4) a _ hm ?_))))))))))
 exact⟨_,gp,(g+1),gq,(xss2++ [.int .u8 c6]),T,gr.Yp [1] Y Y,gs,ha.cut (l:= [0,4,5]) Y⟩
 clear hm
 rcases a0g o with⟨H,o⟩|⟨H,o⟩
 refine a3o 11 Y H (a1g Y (by decide) Y (a1g Y (by decide) Y (a1g Y (by decide) Y (a1g Y (by decide) Y (a1g Y (by decide) Y (a0n Y Y Y Y (a0e (a0m (fun a ha=> ?_)))))))))
 cases o
 exact⟨Y,ha.cut (l:= [0,4,5,17]) Y⟩
 refine a3o 11 Y H (a0b Y Y Y (a0b Y Y Y ?_))
 obtain⟨c7,gt,o⟩:=Yb o
 refine b1g u9 Y Y Y Y gt ?_
 obtain⟨v4,gu,o⟩:=Yb o
 refine a8f ent221 Y Y Y Y (c4t _ _ _ gu) (c8c Y Y Y (a0j Y Y Y Y (a0e (a0m (fun a ha=> ?_)))))
 cases o
 exact⟨Y,ha.cut (l:= [0,4,5,17]) Y⟩
theorem c5b(n:Nat)(s1:Bs)(r:(Token×Int×Int))(hm:b6r n s1=some r){w:World}{F:Frz}(hs:Sat F w)(hg0:FX F 0 [.int .u8 40,.int .u8 41,.int .u8 44,.int .u8 59,.int .u8 58,.int .u8 61,.int .u8 60,.int .u8 43,.int .u8 45,.int .u8 42,.int .u8 47,.int .u8 123,.int .u8 125]):
 Calls Tryz.prog 187 #[vs s1] w fun e w'=>∃v F' O',e= .returned v/\HS F w [] F' O' w'/\(v= .tuple #[.agg #[.int .i64 r.1.Kind,vs r.1.Text,.int .i64 r.1.N,.int .i64 r.1.Pos],.int .i64 r.2.1,.int .i64 r.2.2]/\O'= []):=by
 unfold b6r at hm
 have h:=HS.init hs
 refine a2g 78 Tryz.func187 Y Y Y (a0f (a0a (a3w ze152 Y Y Y h ?_)))
 intro b1 H g
 refine a0c Y Y Y (a0c Y Y Y (a0e (a0d (a0f (a3d (a0f (a0a (a0b Y Y Y ?_))))))))
 obtain⟨c1,g1,hm⟩:=Yb hm
 refine b1g u9 Y Y Y Y g1 ?_
 obtain⟨v1,g2,hm⟩:=Yb hm
 refine a8f ent175 Y Y Y Y (b1r _ _ _ g2) (a0c Y Y Y (a0e (a0d ?_)))
 rcases a0g hm with⟨k,hm⟩|⟨k,hm⟩
 refine a1j 13 Y k (a1t Y (a0f (a0a (a0b Y Y Y (a0b Y Y Y ?_)))))
 obtain⟨v2,g3,hm⟩:=Yb hm
 refine a8f ent176 Y Y Y Y (b0x _ _ _ _ g3 (pf177 _)) ?_
 obtain⟨t1,g4,hm⟩:=Yb hm
 refine d1u u9 Y Y Y Y g4 (a0c Y Y Y (a0e (a0d (a0f (a0f (a0a (a0b Y Y Y ?_)))))))
 obtain⟨v3,g5,hm⟩:=Yb hm
 refine a8f ent113 Y Y Y Y (c6y _ _ _ g5) (c8c Y Y Y (a0e (a0d ?_)))
 rcases a0g hm with⟨o,hm⟩|⟨o,hm⟩
 refine a1j 23 Y o (a1t Y (a0f (a0a (a5r (v:= .agg #[.int .i64 0,vs [],.int .i64 0,.int .i64 0]) Y Y Y (fun _=>by kernel_rfl) (a0w sz152 Y g Y Y Y Y (i:=0) Y Y Y Y ?_)))))
 intro gj I
 refine a0c Y Y Y (a0c Y Y Y (a0e (a0d (a3x (a0p (a1p (a0p (a9f (vl:= [.agg #[.int .i64 0,vs [],.int .i64 0,.int .i64 0],.int .i64 0,.int .i64 3]) Y ⟨c0w ag152 sz152 Y I Y (i:=0) Y,a6k Y,a6k Y,trivial⟩ (by simp) ?_))))))))
 obtain rfl:=Yo hm
 exact⟨_,_,_,Y,I.Yp [] Y Y,Y,Y⟩
 refine a1j 23 Y o (a1f Y (a2v (a0d (a0f (a0a (a0b Y Y Y (a5r (v:= .agg #[.int .i64 0,vs t1,.int .i64 0,.int .i64 0]) Y Y Y (fun _=>by kernel_rfl) (a0b Y Y Y (b6y u9 Y Y Y (a0w sz152 Y g Y Y Y Y (i:=0) Y Y Y Y ?_))))))))))
 intro gk J
 refine a0c Y Y Y (a0c Y Y Y (a0e (a0d (a3x (a1p (a0p (a9f (vl:= [.agg #[.int .i64 0,vs t1,.int .i64 0,.int .i64 0],.int .i64 (t1.length:Int),.int .i64 0]) Y ⟨c0w ag152 sz152 Y J Y (i:=0) Y,a6k Y,a6k Y,trivial⟩ (by simp) ?_)))))))
 obtain rfl:=Yo hm
 exact⟨_,_,_,Y,J.Yp [] Y Y,Y,Y⟩
 refine a1j 13 Y k (a1f Y (a0f (a0a (a0b Y Y Y ?_))))
 obtain⟨c2,g6,hm⟩:=Yb hm
 refine b1g u9 Y Y Y Y g6 ?_
 obtain⟨v4,g7,hm⟩:=Yb hm
 refine a8f ent213 Y Y Y Y (b2p _ _ _ g7) (a0c Y Y Y (a0e (a0d ?_)))
 rcases a0g hm with⟨p,hm⟩|⟨p,hm⟩
 refine a1j 29 Y p (a1t Y (a0f (a0a (a0b Y Y Y (a0b Y Y Y ?_)))))
 obtain⟨v5,g8,hm⟩:=Yb hm
 refine a8f ent176 Y Y Y Y (b0x _ _ _ _ g8 (pf213 _)) ?_
 obtain⟨t2,g9,hm⟩:=Yb hm
 refine d1u u9 Y Y Y Y g9 (a0c Y Y Y (a0e (a0d (a0f (a0a (a0b Y Y Y ?_))))))
 obtain⟨v6,ga,hm⟩:=Yb hm
 refine a8f ent217 Y Y Y Y (c3f _ _ _ ga) (a0b Y Y Y (a1h Y Y Y Y (a1h Y Y Y Y (a0c Y Y Y (a0c Y Y Y (a0e (a0d (a0f (a0f (a0a (a0b Y Y Y (c8c Y Y Y (a0e (a0d ?_))))))))))))))
 rcases a0g hm with⟨q,hm⟩|⟨q,hm⟩
 refine a1j 43 Y q (a1t Y (a0f (a0a (a5r (v:= .agg #[.int .i64 0,vs [],.int .i64 0,.int .i64 0]) Y Y Y (fun _=>by kernel_rfl) (a0w sz152 Y g Y Y Y Y (i:=0) Y Y Y Y ?_)))))
 intro gl L
 refine a0c Y Y Y (a0c Y Y Y (a0e (a0d (a3x (a0p (a1p (a0p (a9f (vl:= [.agg #[.int .i64 0,vs [],.int .i64 0,.int .i64 0],.int .i64 0,.int .i64 3]) Y ⟨c0w ag152 sz152 Y L Y (i:=0) Y,a6k Y,a6k Y,trivial⟩ (by simp) ?_))))))))
 obtain rfl:=Yo hm
 exact⟨_,_,_,Y,L.Yp [] Y Y,Y,Y⟩
 refine a1j 43 Y q (a1f Y (a2v (a0d (a0f (a0a (a0b Y Y Y (a0b Y Y Y (a5r (v:= .agg #[.int .i64 1,vs t2,.int .i64 v6.1,.int .i64 0]) Y Y Y (fun _=>by kernel_rfl) (a0b Y Y Y (b6y u9 Y Y Y (a0w sz152 Y g Y Y Y Y (i:=0) Y Y Y Y ?_)))))))))))
 intro gm M
 refine a0c Y Y Y (a0c Y Y Y (a0e (a0d (a3x (a1p (a0p (a9f (vl:= [.agg #[.int .i64 1,vs t2,.int .i64 v6.1,.int .i64 0],.int .i64 (t2.length:Int),.int .i64 0]) Y ⟨c0w ag152 sz152 Y M Y (i:=0) Y,a6k Y,a6k Y,trivial⟩ (by simp) ?_)))))))
 obtain rfl:=Yo hm
 exact⟨_,_,_,Y,M.Yp [] Y Y,Y,Y⟩
 refine a1j 29 Y p (a1f Y (a0f (a0a (a0b Y Y Y ?_))))
 obtain⟨c3,gb,hm⟩:=Yb hm
 refine b1g u9 Y Y Y Y gb (a0x Y Y Y Y Y (a0c Y Y Y (a0e (a0d ?_))))
 rcases a0g hm with⟨t,hm⟩|⟨t,hm⟩
 refine a1j 50 Y t (a1t Y (a0f (a0a (a0b Y Y Y ?_))))
 obtain⟨v7,gc,hm⟩:=Yb hm
 refine a1r ent218 Y Y Y Y g (c1s _ _ _ gc g.sat (hg0.mono g.le)) ?_
 rintro _ gn _ go gp Q ⟨rfl,rfl⟩
 refine a0b Y Y Y (a1h Y Y Y Y (a1h Y Y Y Y (a0c Y Y Y (a0c Y Y Y (a0e (a0d (a0f (a0f (a0a (a0b Y Y Y (a0x Y Y Y Y Y (a0e (a0d ?_)))))))))))))
 rcases a0g hm with⟨u,hm⟩|⟨u,hm⟩
 refine a1j 60 Y u (a1t Y (a0f (a0a (a5r (v:= .agg #[.int .i64 0,vs [],.int .i64 0,.int .i64 0]) Y Y Y (fun _=>by kernel_rfl) (a0w sz152 Y Q Y Y Y Y (i:=0) Y Y Y Y ?_)))))
 intro gq R
 refine a0c Y Y Y (a0c Y Y Y (a0e (a0d (a3x (a0p (a1p (a0p (a9f (vl:= [.agg #[.int .i64 0,vs [],.int .i64 0,.int .i64 0],.int .i64 0,.int .i64 2]) Y ⟨c0w ag152 sz152 Y R Y (i:=0) Y,a6k Y,a6k Y,trivial⟩ (by simp) ?_))))))))
 obtain rfl:=Yo hm
 exact⟨_,_,_,Y,R.Yp [] Y Y,Y,Y⟩
 refine a1j 60 Y u (a1f Y (a2v (a0d (a0f (a0a (a0b Y Y Y (a5r (v:= .agg #[.int .i64 2,vs v7.1,.int .i64 0,.int .i64 0]) Y Y Y (fun _=>by kernel_rfl) (a0b Y Y Y (a0w sz152 Y Q Y Y Y Y (i:=0) Y Y Y Y ?_)))))))))
 intro gr T
 refine a0c Y Y Y (a0c Y Y Y (a0e (a0d (a3x (a1p (a0p (a9f (vl:= [.agg #[.int .i64 2,vs v7.1,.int .i64 0,.int .i64 0],.int .i64 v7.2,.int .i64 0]) Y ⟨c0w ag152 sz152 Y T Y (i:=0) Y,a6k Y,a6k Y,trivial⟩ (by simp) ?_)))))))
 obtain rfl:=Yo hm
 exact⟨_,_,_,Y,T.Yp [] Y Y,Y,Y⟩
 refine a1j 50 Y t (a1f Y (a2v (a4x (a0d (a0f (a0f (a0a (d3j (j:=0) ag211 sz211 Y Y g hg0.fc Y Y Y (a0b Y Y Y (a0e (a0d (a3d ?_))))))))))))
 intro a V
 obtain⟨kont1,hkont1⟩:∃kont1:Option (Token×Int×Int),kont1=(some ((⟨0,[],0,0⟩:Token),0,10)):=⟨_,Y⟩
 replace hm:(fun m(s:Int)=>lexer_next_L1 n s1 kont1 m s) n 0=some r:=by rw [hkont1];exact hm
 refine b9w (id:=1) (fun m(s:Int)=>lexer_next_L1 n s1 kont1 m s) (fun(y:Unit)=>kont1) r (fun(s:Int)a w'=>H=w'/\Has 78 a [(0,vs s1),(2,.pointer (some ⟨b1,0,none⟩)),(65,.agg #[.int .u8 40,.int .u8 41,.int .u8 44,.int .u8 59,.int .u8 58,.int .u8 61,.int .u8 60,.int .u8 43,.int .u8 45,.int .u8 42,.int .u8 47,.int .u8 123,.int .u8 125]),(66,.int .i64 s)]) (fun(y:Unit)a w'=>H=w'/\Has 78 a [(2,.pointer (some ⟨b1,0,none⟩))]) (fun _=>Y) ?_ ?_ hm ⟨Y,V.cut (l:= [0,2,65,66]) Y⟩
 clear hm;rintro _u a gs hm ⟨rfl,Z⟩
 rw [hkont1]at hm
 refine a6x (e:= .exit 1) Z (a3l (a0d (a0f (a0a (a5r (v:= .agg #[.int .i64 0,vs [],.int .i64 0,.int .i64 0]) Y Y Y (fun _=>by kernel_rfl) (a0w sz152 Y g Y Y Y Y (i:=0) Y Y Y Y ?_))))))
 intro gg U
 refine a0c Y Y Y (a0c Y Y Y (a0e (a0d (a3x (a9f (vl:= [.agg #[.int .i64 0,vs [],.int .i64 0,.int .i64 0],.int .i64 0,.int .i64 10]) Y ⟨c0w ag152 sz152 Y U Y (i:=0) Y,a6k Y,a6k Y,trivial⟩ (by simp) ?_)))))
 obtain rfl:=Yo hm
 exact⟨_,_,_,Y,U.Yp [] Y Y,Y,Y⟩
 clear hm hkont1;intro hk1 mx1 K ihx1
 rintro i1 a gh hm ⟨rfl,g0⟩
 simp only [lexer_next_L1_s]at hm
 refine a3a g0 (a0f (a0a (a0x Y Y Y Y Y (a0e (a0d (a0f ?_))))))
 rcases a0g hm with⟨x,hm⟩|⟨x,hm⟩
 refine a1j 67 Y x (a1t Y (a2v (a0d (a0f (a3d (a0f (a0a ?_)))))))
 obtain⟨c4,gd,hm⟩:=Yb hm
 refine e8s u211 ag5 sz5 Y Y Y Y Y Y gd (a0c Y Y Y (a0e (a0d (a0f (a0a (a0b Y Y Y ?_))))))
 obtain⟨c5,ge,hm⟩:=Yb hm
 refine b1g u9 Y Y Y Y ge (a0b Y Y Y (a0x Y Y Y Y Y (a0e (a0d ?_))))
 rcases a0g hm with⟨z,hm⟩|⟨z,hm⟩
 refine a1j 72 Y z (a1t Y (a0f (a0a (a0b Y Y Y ?_))))
 obtain⟨t3,gf,hm⟩:=Yb hm
 refine d1u u9 Y Y Y Y gf (a5r (v:= .agg #[.int .i64 3,vs t3,.int .i64 0,.int .i64 0]) Y Y Y (fun _=>by kernel_rfl) (a0w sz152 Y g Y Y Y Y (i:=0) Y Y Y Y ?_))
 intro gi G
 refine a0c Y Y Y (a0c Y Y Y (a0e (a0d (a3x (a1p (a0p (a0p (a1p (a0p (a9f (vl:= [.agg #[.int .i64 3,vs t3,.int .i64 0,.int .i64 0],.int .i64 1,.int .i64 0]) Y ⟨c0w ag152 sz152 Y G Y (i:=0) Y,a6k Y,a6k Y,trivial⟩ (by simp) ?_))))))))))
 obtain rfl:=Yo hm
 exact⟨_,_,_,Y,G.Yp [] Y Y,Y,Y⟩
 refine a1j 72 Y z (a1f Y (a2v (a4x (a0d (a0a (a0x Y Y Y Y Y (a0b Y Y Y (a0e (a0m (fun a ha=>ihx1 (iadd .i64 i1 1) a _ hm ?_))))))))))
 exact⟨Y,ha.cut (l:= [0,2,65,66]) Y⟩
 refine a1j 67 Y x (a1f Y (b1f (a1b (a1b (fun a ha=>hk1 () a _ hm ?_)))))
 exact⟨Y,ha.cut (l:= [2]) Y⟩
theorem c8d(n:Nat)(s1:Bs):FnC Wt 187 [.str s1] (b6r n s1) (fun r=> .tup [.agg [.int .i64 r.1.Kind,.str r.1.Text,.int .i64 r.1.N,.int .i64 r.1.Pos],.int .i64 r.2.1,.int .i64 r.2.2]):=⟨fun _ _=>by kernel_rfl,fun r hm w F hs hg us hu=>by
 obtain⟨_,_,rfl,rfl,rfl⟩:=hu
 exact(c5b n s1 r hm hs (hg)).mono fun e w'⟨v,F',O',e1,e2,e3⟩=>by
  obtain⟨rfl,rfl⟩:=e3
  exact⟨_,F',e1,e2,⟨_,rfl,⟨_,_,rfl,⟨_,rfl,⟨_,_,rfl,rfl,⟨_,_,rfl,rfl,⟨_,_,rfl,rfl,⟨_,_,rfl,rfl,rfl⟩⟩⟩⟩⟩,⟨_,_,rfl,rfl,⟨_,_,rfl,rfl,rfl⟩⟩⟩⟩⟩⟩
theorem c9l(n:Nat)(s1:Bs):FnC Wt 131 [.str s1] (c0d n s1) (fun r=> .tup [.sl 7 r.1,.int .i64 r.2.1,.int .i64 r.2.2]):=by
 refine a0z (n:=45) Tryz.func131 rfl rfl rfl (fun _ _=>by kernel_rfl) fun F0 w0 r=> ?_
 unfold c0d
 refine gC rfl (fun _=> ?_) (fun _=> ?_)
 ·
  exact gR rfl rfl rfl
 ·
  refine a2r (fun m(s:Int×List Token)=>b3j n s1 m s.1 s.2) (fun(s:Int×List Token)=> [.r 5 7 s.2,.v 6 (.int .i64 s.1)]) (fun _=>rfl) (_,_) rfl rfl (fun _=>rfl) rfl fun K1 m1 hK1 z1=> ?_
  obtain⟨atx1,l1⟩:=z1;dsimp only
  refine gV rfl fun t1=> ?_
  refine gK (d2b _ _) rfl rfl rfl fun v1=> ?_
  refine gC rfl (fun _=> ?_) (fun _=> ?_)
  ·
   exact gR rfl rfl rfl
  ·
   refine gV rfl fun t2=> ?_
   refine gK (c8d _ _) rfl rfl rfl fun v2=> ?_
   refine gC rfl (fun _=> ?_) (fun _=> ?_)
   ·
    exact gR rfl rfl rfl
   ·
    refine gP rfl fun l2=> ?_
    exact gE hK1 (_,_) rfl (by kernel_rfl)
theorem b6p(n:Nat)(l1:(List Int)):FnC Wt 191 [.sl 2 l1] (a2s n l1) (fun r=> .sl 2 r):=by
 refine a0z (n:=21) Tryz.func191 rfl rfl rfl (fun _ _=>by kernel_rfl) fun F0 w0 r=> ?_
 unfold a2s
 refine a2r ((fun k0 m(s:Int)=>big_trim_L1 n l1 k0 m s) _) (fun(s:Int)=> [.v 3 (.int .i64 s)]) (fun _=>rfl) _ rfl rfl (fun _=>rfl) rfl fun K1 m1 hK1 nx1=> ?_
 refine gJ 7 (fun v1=> [.v 15 (.ob v1)]) rfl (fun _=>rfl) (fun J2 hJ2=> ?_) (fun v1=> ?_)
 ·
  refine gD rfl (fun _=> ?_) (fun _=> ?_)
  ·
   refine gA ?_
   refine gV rfl fun ex1=> ?_
   exact gX hJ2 rfl (by kernel_rfl)
  ·
   exact gX hJ2 rfl (by kernel_rfl)
 refine gC rfl (fun _=> ?_) (fun _=> ?_)
 ·
  exact gE hK1 _ rfl (by kernel_rfl)
 ·
  refine gV rfl fun l2=> ?_
  exact gR rfl rfl rfl
theorem a4c(n:Nat)(sign1:Int)(l1:(List Int)):FnC Wt 140 [.int .i64 sign1,.sl 2 l1] (a3h n sign1 l1) (fun r=> .agg [.int .i64 r.Sign,.sl 2 r.Digits]):=by
 refine a0z (n:=14) Tryz.func140 rfl rfl rfl (fun _ _=>by kernel_rfl) fun F0 w0 r=> ?_
 unfold a3h
 refine gK (b6p _ _) rfl rfl rfl fun v1=> ?_
 refine gC rfl (fun _=> ?_) (fun _=> ?_)
 ·
  exact gR rfl rfl rfl
 ·
  exact gR rfl rfl rfl
theorem a3c(n:Nat)(ax1:Big):FnC Wt 91 [.agg [.int .i64 ax1.Sign,.sl 2 ax1.Digits]] (a3b n ax1) (fun r=> .ob r):=by
 refine a0z (n:=45) Tryz.func91 rfl rfl rfl (fun _ _=>by kernel_rfl) fun F0 w0 r=> ?_
 unfold a3b
 refine a2r ((fun k0 m(s:Int)=>big_Right_L1 n ax1 k0 m s) _) (fun(s:Int)=> [.v 12 (.int .i64 s)]) (fun _=>rfl) _ rfl rfl (fun _=>rfl) rfl fun K1 m1 hK1 i1=> ?_
 refine gC rfl (fun _=> ?_) (fun _=> ?_)
 ·
  refine gV rfl fun ex2=> ?_
  refine gJ 3 (fun v3=> [.v 21 (.ob v3)]) rfl (fun _=>rfl) (fun J2 hJ2=> ?_) (fun v3=> ?_)
  ·
   refine gD rfl (fun _=> ?_) (fun _=> ?_)
   ·
    exact gX hJ2 rfl (by kernel_rfl)
   ·
    exact gX hJ2 rfl (by kernel_rfl)
  refine gC rfl (fun _=> ?_) (fun _=> ?_)
  ·
   exact gR rfl rfl rfl
  ·
   exact gE hK1 _ rfl (by kernel_rfl)
 ·
  refine gC rfl (fun _=> ?_) (fun _=> ?_)
  ·
   exact gR rfl rfl rfl
  ·
   refine gJ 4 (fun v1=> [.v 35 (.ob v1)]) rfl (fun _=>rfl) (fun J3 hJ3=> ?_) (fun v1=> ?_)
   ·
    refine gD rfl (fun _=> ?_) (fun _=> ?_)
    ·
     exact gX hJ3 rfl (by kernel_rfl)
    ·
     exact gX hJ3 rfl (by kernel_rfl)
   refine gJ 8 (fun v2=> [.v 44 (.ob v2)]) rfl (fun _=>rfl) (fun J4 hJ4=> ?_) (fun v2=> ?_)
   ·
    refine gD rfl (fun _=> ?_) (fun _=> ?_)
    ·
     refine gA ?_
     refine gV rfl fun ex1=> ?_
     exact gX hJ4 rfl (by kernel_rfl)
    ·
     exact gX hJ4 rfl (by kernel_rfl)
   exact gR rfl rfl rfl
theorem b5u(n:Nat)(x1:Int):FnC Wt 212 [.int .i64 x1] (a9g n x1) (fun r=> .ob r):=by
 refine a0z (n:=6) Tryz.func212 rfl rfl rfl (fun _ _=>by kernel_rfl) fun F0 w0 r=> ?_
 unfold a9g
 exact gR rfl rfl rfl
theorem a9q(n:Nat)(x1:Int)(y1:Int):FnC Wt 168 [.int .i64 x1,.int .i64 y1] (a4t n x1 y1) (fun r=> .int .i64 r):=by
 refine a0z (n:=20) Tryz.func168 rfl rfl rfl (fun _ _=>by kernel_rfl) fun F0 w0 r=> ?_
 unfold a4t
 refine gK (b5u _ _) rfl rfl rfl fun v1=> ?_
 refine gK (b5u _ _) rfl rfl rfl fun v2=> ?_
 refine gC rfl (fun _=> ?_) (fun _=> ?_)
 ·
  refine gC rfl (fun _=> ?_) (fun _=> ?_)
  ·
   exact gR rfl rfl rfl
  ·
   exact gR rfl rfl rfl
 ·
  refine gC rfl (fun _=> ?_) (fun _=> ?_)
  ·
   exact gR rfl rfl rfl
  ·
   refine gC rfl (fun _=> ?_) (fun _=> ?_)
   ·
    exact gR rfl rfl rfl
   ·
    refine gC rfl (fun _=> ?_) (fun _=> ?_)
    ·
     exact gR rfl rfl rfl
    ·
     exact gR rfl rfl rfl
theorem b4j(n:Nat)(ax1:(List Int))(b1:(List Int)):FnC Wt 169 [.sl 2 ax1,.sl 2 b1] (a6j n ax1 b1) (fun r=> .int .i64 r):=by
 refine a0z (n:=41) Tryz.func169 rfl rfl rfl (fun _ _=>by kernel_rfl) fun F0 w0 r=> ?_
 unfold a6j
 refine gC rfl (fun _=> ?_) (fun _=> ?_)
 ·
  refine gK (a9q _ _ _) rfl rfl rfl fun v1=> ?_
  exact gR rfl rfl rfl
 ·
  refine a2r ((fun k0 m(s:Int)=>big_compare_L1 n ax1 b1 k0 m s) _) (fun(s:Int)=> [.v 5 (.int .i64 s)]) (fun _=>rfl) _ rfl rfl (fun _=>rfl) rfl fun K1 m1 hK1 i1=> ?_
  refine gC rfl (fun _=> ?_) (fun _=> ?_)
  ·
   refine gG rfl (by kernel_rfl) ?_
   refine gV rfl fun ex1=> ?_
   refine gV rfl fun ex2=> ?_
   refine gC rfl (fun _=> ?_) (fun _=> ?_)
   ·
    refine gG rfl (by kernel_rfl) ?_
    refine gV rfl fun ex3=> ?_
    refine gV rfl fun ex4=> ?_
    refine gQ (a9q _ _ _) rfl rfl rfl (fun _=>rfl) fun v2=> ?_
    exact gR rfl rfl rfl
   ·
    exact gE hK1 _ rfl (by kernel_rfl)
  ·
   exact gR rfl rfl rfl
theorem c7q(n:Nat)(ax1:Big)(b1:Big):FnC Wt 103 [.agg [.int .i64 ax1.Sign,.sl 2 ax1.Digits],.agg [.int .i64 b1.Sign,.sl 2 b1.Digits]] (b1c n ax1 b1) (fun r=> .int .i64 r):=by
 refine a0z (n:=31) Tryz.func103 rfl rfl rfl (fun _ _=>by kernel_rfl) fun F0 w0 r=> ?_
 unfold b1c
 refine gK (a3c _ _) rfl rfl rfl fun v1=> ?_
 refine gJ 4 (fun v2=> [.v 12 (.ob v2)]) rfl (fun _=>rfl) (fun J1 hJ1=> ?_) (fun v2=> ?_)
 ·
  refine gD rfl (fun _=> ?_) (fun _=> ?_)
  ·
   exact gX hJ1 rfl (by kernel_rfl)
  ·
   refine gA ?_
   refine gK (a3c _ _) rfl rfl rfl fun v5=> ?_
   exact gX hJ1 rfl (by kernel_rfl)
 refine gC rfl (fun _=> ?_) (fun _=> ?_)
 ·
  exact gR rfl rfl rfl
 ·
  refine gC rfl (fun _=> ?_) (fun _=> ?_)
  ·
   refine gK (a9q _ _ _) rfl rfl rfl fun v3=> ?_
   exact gR rfl rfl rfl
  ·
   refine gG rfl (by kernel_rfl) ?_
   refine gQ (b4j _ _ _) rfl rfl rfl (fun _=>rfl) fun v4=> ?_
   exact gR rfl rfl rfl
theorem a3i(n:Nat)(s1:(List Int)):FnO Wt 110 [.sl 2 s1] (a0r n s1) 3 1 2 (fun r=>r):=⟨fun _ _=>by kernel_rfl,fun r hm w F hs hg us hu=>by
 obtain⟨_,_,rfl,⟨_,_,_,rfl,hs0⟩,rfl⟩:=hu
 exact(a9a n s1 r hm hs hs0).mono fun e w'⟨v,F',O',e1,e2,⟨a,m,n,xs,e3,e4,e5⟩⟩=>⟨v,F',a,m,n,xs,e1,e4▸e2,e5,e3⟩⟩
theorem b2z(n:Nat)(ax1:Big):FnC Wt 192 [.agg [.int .i64 ax1.Sign,.sl 2 ax1.Digits]] (b2u n ax1) (fun r=> .agg [.int .i64 r.Sign,.sl 2 r.Digits]):=by
 refine a0z (n:=14) Tryz.func192 rfl rfl rfl (fun _ _=>by kernel_rfl) fun F0 w0 r=> ?_
 unfold b2u
 refine gK (a3c _ _) rfl rfl rfl fun v1=> ?_
 refine gC rfl (fun _=> ?_) (fun _=> ?_)
 ·
  exact gR rfl rfl rfl
 ·
  refine gHs [(3,(pL [0,2,4,6,8,11,13,15] .nil))] rfl (by kernel_rfl) rfl rfl fun Ky=> ?_
  refine gO (a3i _ _) rfl rfl rfl fun v2=> ?_
  refine gK (a4c _ _ _) rfl rfl rfl fun v3=> ?_
  refine gHe rfl ?_
  exact gR rfl rfl rfl
theorem c9q(n:Nat)(ax1:(List Int))(b1:(List Int)):FnC Wt 210 [.sl 2 ax1,.sl 2 b1] (b8i n ax1 b1) (fun r=> .sl 2 r):=by
 refine a0z (n:=55) Tryz.func210 rfl rfl rfl (fun _ _=>by kernel_rfl) fun F0 w0 r=> ?_
 unfold b8i
 refine gM (fun j1=> [.v 0 (.sl 2 j1.1),.v 1 (.sl 2 j1.2)]) rfl (fun _=>rfl) (fun J1 hJ1=> ?_) (fun j1=> ?_)
 ·
  refine gD rfl (fun _=> ?_) (fun _=> ?_)
  ·
   exact gX hJ1 rfl (by kernel_rfl)
  ·
   exact gX hJ1 rfl (by kernel_rfl)
 obtain⟨ax2,b2⟩:=j1;dsimp only
 refine gMk wzOk rfl fun l1=> ?_
 refine a2r ((fun k0 m(s:Int×Int×List Int)=>big_add_L1 n ax2 b2 k0 m s.1 s.2.1 s.2.2) _) (fun(s:Int×Int×List Int)=> [.r 5 2 s.2.2,.v 6 (.int .i64 s.1),.v 22 (.int .i64 s.2.1)]) (fun _=>rfl) (_,_,_) rfl rfl (fun _=>rfl) rfl fun K2 m2 hK2 z2=> ?_
 obtain⟨carry1,i1,l2⟩:=z2;dsimp only
 refine gC rfl (fun _=> ?_) (fun _=> ?_)
 ·
  refine gV rfl fun ex2=> ?_
  refine gD rfl (fun _=> ?_) (fun _=> ?_)
  ·
   refine gA ?_
   refine gV rfl fun ex4=> ?_
   refine gB ?_
   refine gV rfl fun _=> ?_
   refine gW rfl rfl fun l5=> ?_
   refine gV rfl fun q1=> ?_
   exact gE hK2 (_,_,_) rfl (by kernel_rfl)
  ·
   refine gB ?_
   refine gV rfl fun _=> ?_
   refine gW rfl rfl fun l5=> ?_
   refine gV rfl fun q1=> ?_
   exact gE hK2 (_,_,_) rfl (by kernel_rfl)
 ·
  refine gV rfl fun _=> ?_
  refine gW rfl rfl fun l4=> ?_
  refine gK (b6p _ _) rfl rfl rfl fun v1=> ?_
  exact gR rfl rfl rfl
theorem c2p(n:Nat)(ax1:(List Int))(b1:(List Int)):FnC Wt 211 [.sl 2 ax1,.sl 2 b1] (b4z n ax1 b1) (fun r=> .sl 2 r):=by
 refine a0z (n:=43) Tryz.func211 rfl rfl rfl (fun _ _=>by kernel_rfl) fun F0 w0 r=> ?_
 unfold b4z
 refine gO (a3i _ _) rfl rfl rfl fun v1=> ?_
 refine a2r ((fun k0 m(s:Int×Int×List Int)=>big_sub_L1 n b1 v1 k0 m s.1 s.2.1 s.2.2) _) (fun(s:Int×Int×List Int)=> [.r 5 2 s.2.2,.v 6 (.int .i64 s.1),.v 13 (.int .i64 s.2.1)]) (fun _=>rfl) (_,_,_) rfl rfl (fun _=>rfl) rfl fun K1 m1 hK1 z1=> ?_
 obtain⟨borrow1,i1,l1⟩:=z1;dsimp only
 refine gC rfl (fun _=> ?_) (fun _=> ?_)
 ·
  refine gV rfl fun ex1=> ?_
  refine gD rfl (fun _=> ?_) (fun _=> ?_)
  ·
   refine gA ?_
   refine gV rfl fun ex3=> ?_
   refine gB ?_
   refine gV rfl fun q1=> ?_
   refine gV rfl fun _=> ?_
   refine gW rfl rfl fun l3=> ?_
   exact gE hK1 (_,_,_) rfl (by kernel_rfl)
  ·
   refine gB ?_
   refine gV rfl fun q1=> ?_
   refine gV rfl fun _=> ?_
   refine gW rfl rfl fun l3=> ?_
   exact gE hK1 (_,_,_) rfl (by kernel_rfl)
 ·
  refine gK (b6p _ _) rfl rfl rfl fun v2=> ?_
  exact gR rfl rfl rfl
theorem d6v(n:Nat)(ax1:(List Int))(b1:(List Int)):FnC Wt 207 [.sl 2 ax1,.sl 2 b1] (b0n n ax1 b1) (fun r=> .sl 2 r):=by
 refine a0z (n:=67) Tryz.func207 rfl rfl rfl (fun _ _=>by kernel_rfl) fun F0 w0 r=> ?_
 unfold b0n
 refine gMk wzOk rfl fun l1=> ?_
 refine a2r ((fun k0 m(s:Int×List Int)=>big_mul_L1 n ax1 b1 k0 m s.1 s.2) _) (fun(s:Int×List Int)=> [.r 5 2 s.2,.v 20 (.int .i64 s.1)]) (fun _=>rfl) (_,_) rfl rfl (fun _=>rfl) rfl fun K1 m1 hK1 z1=> ?_
 obtain⟨i1,l2⟩:=z1;dsimp only
 refine gC rfl (fun _=> ?_) (fun _=> ?_)
 ·
  refine gV rfl fun ex1=> ?_
  refine a2r ((fun k0 m(s:Int×Int×List Int)=>big_mul_L2 n b1 i1 ex1 k0 m s.1 s.2.1 s.2.2) _) (fun(s:Int×Int×List Int)=> [.r 5 2 s.2.2,.v 8 (.int .i64 s.1),.v 27 (.int .i64 s.2.1)]) (fun _=>rfl) (_,_,_) rfl rfl (fun _=>rfl) rfl fun K2 m2 hK2 z2=> ?_
  obtain⟨carry1,i2,l4⟩:=z2;dsimp only
  refine gC rfl (fun _=> ?_) (fun _=> ?_)
  ·
   refine gV rfl fun ex4=> ?_
   refine gV rfl fun ex5=> ?_
   refine gV rfl fun q1=> ?_
   refine gV rfl fun _=> ?_
   refine gW rfl rfl fun l7=> ?_
   exact gE hK2 (_,_,_) rfl (by kernel_rfl)
  ·
   refine gV rfl fun ex2=> ?_
   refine gV rfl fun _=> ?_
   refine gW rfl rfl fun l6=> ?_
   exact gE hK1 (_,_) rfl (by kernel_rfl)
 ·
  refine gK (b6p _ _) rfl rfl rfl fun v1=> ?_
  exact gR rfl rfl rfl
end Go.Proofs.YthaegflpecbfgaaGreatDoor.M
namespace Go.Proofs.YthaegflpecbfgaaGreatDoor.M
open Go Go.RowKit Rt
set_option maxRecDepth 1000000
set_option maxHeartbeats 40000000
theorem c4e(n:Nat)(ax1:(List Int))(b1:(List Int))(r:Int)(hm:a6j n ax1 b1=some r){w:World}{F:Frz}(hs:Sat F w)(hg0:FX F 0 [.int .u8 40,.int .u8 41,.int .u8 44,.int .u8 59,.int .u8 58,.int .u8 61,.int .u8 60,.int .u8 43,.int .u8 45,.int .u8 42,.int .u8 47,.int .u8 123,.int .u8 125]){as1:Option Addr}{ns1:Nat}{cs1:Nat}{as2:Option Addr}{ns2:Nat}{cs2:Nat}(hs1:SlR (Rp.int .i64) F as1 ns1 cs1 ax1)(hs2:SlR (Rp.int .i64) F as2 ns2 cs2 b1):
 Calls Tryz.prog 169 #[.slice as1 ns1 cs1,.slice as2 ns2 cs2] w fun e w'=>∃v F' O',e= .returned v/\HS F w [] F' O' w'/\(v= .int .i64 r/\O'= []):=
 (b4j n ax1 b1).2 r hm w F hs hg0 _ ⟨_,_,rfl,⟨_,_,_,rfl,hs1⟩,⟨_,_,rfl,⟨_,_,_,rfl,hs2⟩,rfl⟩⟩|>.mono fun e w'⟨v,F',e1,e2,e3⟩=>by
  obtain rfl:=e3
  exact⟨_,F',[],e1,e2,⟨rfl,rfl⟩⟩
theorem d0u(n:Nat)(ax1:(List Int))(b1:(List Int))(r:((List Int)×(List Int)))(hm:b5d n ax1 b1=some r){w:World}{F:Frz}(hs:Sat F w)(hg0:FX F 0 [.int .u8 40,.int .u8 41,.int .u8 44,.int .u8 59,.int .u8 58,.int .u8 61,.int .u8 60,.int .u8 43,.int .u8 45,.int .u8 42,.int .u8 47,.int .u8 123,.int .u8 125]){gp gq:Option Addr}{gr g4 gs g5:Nat}(gc:SlR (Rp.int .i64) F gp gr g4 ax1)(g6:SlR (Rp.int .i64) F gq gs g5 b1):
 Calls Tryz.prog 162 #[.slice gp gr g4,.slice gq gs g5] w fun e w'=>∃v F' O',e= .returned v/\HS F w [] F' O' w'/\(∃(a0_0:Option Addr)(n0_0:Nat)(c0_0:Nat)(a1_0:Option Addr)(n1_0:Nat)(c1_0:Nat)(xs1_0:List Value),v= .tuple #[.slice a0_0 n0_0 c0_0,.slice a1_0 n1_0 c1_0]/\O'= [.row 3 1 a1_0 n1_0 c1_0 xs1_0]/\SlR (Rp.int .i64) F' a0_0 n0_0 c0_0 r.1/\RowN (Rp.int .i64) F' n1_0 xs1_0 r.2):=by
 unfold b5d at hm
 have h:=HS.init hs
 refine a2g 170 Tryz.func162 Y Y Y (a0f (a0a (a0c Y Y Y (a0c Y Y Y (a0e (a0d (a0f (a0f (a0a (a0b Y Y Y (a0b Y Y Y ?_)))))))))))
 obtain⟨v1,k3,hm⟩:=Yb hm
 refine a1r ent169 Y Y Y Y h (c4e _ _ _ _ k3 h.sat (hg0.mono h.le) gc g6) ?_
 rintro _ k4 _ i7 g7 R ⟨rfl,rfl⟩
 refine a0x Y Y Y Y Y (a0e (a0d ?_))
 rcases a0g hm with⟨gx,hm⟩|⟨gx,hm⟩
 refine a1j 22 Y gx (a1t Y (a0f (a0a (a0b Y Y Y ?_))))
 obtain⟨v2,k5,hm⟩:=Yb hm
 refine a1r ent110 Y Y Y Y R (a9a _ _ _ k5 R.sat (gc.mono g7)) ?_
 rintro _ mp _ mq mr k6 ⟨i8,i9,gt,xss3,rfl,rfl,k7⟩
 refine a0c Y Y Y (a0c Y Y Y (a0e (a0d (a3x (a0p (a9f (vl:= [.slice none 0 0,.slice i8 i9 gt]) Y ⟨a6k Y,a6k Y,trivial⟩ (by simp) ?_))))))
 obtain rfl:=Yo hm
 exact⟨_,_,_,Y,k6.Yp [0] Y Y,none,0,0,i8,i9,gt,xss3,Y,Y,SlR.nil _ _,k7⟩
 refine a1j 22 Y gx (a1f Y (a2v (a0d (a0f (a0f (a0a (a0b Y Y Y (a6y g6.len u28 Y Y Y (a0x Y Y Y Y Y (a0e (a0d ?_)))))))))))
 rcases a0g hm with⟨gy,hm⟩|⟨gy,hm⟩
 refine a1j 27 Y gy (a1t Y (a0f (a0a (a0b Y Y Y (a0b Y Y Y ?_)))))
 obtain⟨ex1,k8,hm⟩:=Yb hm
 refine a9w (r:=(Rp.int .i64)) u28 sz3 Y Y Y Y (g6.mono g7) k8 ?_
 intro b2 o1 g4 k9 ka
 have kb:g4= [.int .i64 ex1]:=ka
 subst kb
 refine a6u (j:=0) ag3 Y Y R k9 Y Y ?_
 obtain⟨v3,kc,hm⟩:=Yb hm
 refine a1r ent206 Y Y Y Y R (c0z _ _ _ _ kc R.sat (gc.mono g7)) ?_
 rintro _ ia _ ms mt kd ⟨ib,ic,gu,xss4,rfl,rfl,ke⟩
 refine a0b Y Y Y (a1h Y Y Y Y (a1h Y Y Y Y (a0c Y Y Y (a0c Y Y Y (a0e (a0d (a0f (a0a (a0b Y Y Y (a0b Y Y Y (a0k (e:=3) (cs:= [.int .i64 v3.2]) (q:=1) Y Y kd Y (fun _=>by kernel_rfl) Y Y ?_)))))))))))
 intro b3 mu ie
 obtain⟨v4,kf,hm⟩:=Yb hm
 refine c3p ent191 Y Y Y Y (b1w _ _ _ kf (b8n _) (ie.viewRow (p:=0) Y Y ((show RowN (Rp.int .i64) ia 1 [.int .i64 v3.2] [v3.2]from⟨Y,⟨_,_,Y,Y,(Y:RowR (Rp.int .i64) _ [] [])⟩⟩)))) ?_
 intro gz hles5 hvs5
 obtain⟨kg,ig⟩:=ie.cutN (p:=0) Y ((show RowN (Rp.int .i64) ia 1 [.int .i64 v3.2] [v3.2]from⟨Y,⟨_,_,Y,Y,(Y:RowR (Rp.int .i64) _ [] [])⟩⟩)) hles5
 rw [<-hvs5]at ig
 refine a0c Y Y Y (a0c Y Y Y (a0e (a0d (a3x (a0p ?_)))))
 obtain⟨mv,kh,ki,hsx1⟩:=a1x kg (i:=1) Y ke
 refine a9f (vl:= [.slice ib ic gu,.slice (some ⟨b3,0,none⟩) gz 1]) Y ⟨a6k Y,a6k Y,trivial⟩ (by simp) ?_
 obtain rfl:=Yo hm
 exact⟨_,_,_,Y,ki.Yp [0] Y Y,ib,ic,gu,(some ⟨b3,0,none⟩),gz,1,([.int .i64 v3.2].take (gz*((Rp.int .i64)).k)),Y,Y,hsx1,(ig.mono kh)⟩
 refine a1j 27 Y gy (a1f Y (a2v (a0d (a0f (a0a (a0c Y Y Y (a0e (a0d (a0f (a3d ?_))))))))))
 intro a ht
 obtain⟨kont3,hkont3⟩:∃kont3:Int->Option ((List Int)×(List Int)),kont3=(fun(shift2:Int)=>(b0n n ax1 [shift2]).bind fun v5=>(app 8 v5 [0]).bind fun l1=>(b0n n b1 [shift2]).bind fun v6=>(bif(l1.length:Int)==(ax1.length:Int)then(app 8 l1 [0]).bind fun l10=>some l10 else some l1).bind fun l2=>(mks 8 0 (isub .i64 (l2.length:Int) (v6.length:Int))).bind fun l3=>big_div_L2 n v6 (fun(l6:List Int)(l7:List Int)=>(a2s n l7).bind fun v7=>(a8b n v7 shift2).bind fun v8=>(a2s n l6).bind fun v9=>some (v9,v8.1)) n (isub .i64 (l3.length:Int) 1) l3 l2):=⟨_,Y⟩
 replace hm:(fun m(s:Int)=>big_div_L1 n b1 kont3 m s) n 1=some r:=by rw [hkont3];exact hm
 refine b9w (id:=0) (fun m(s:Int)=>big_div_L1 n b1 kont3 m s) (fun(y:Int)=>kont3 y) r (fun(s:Int)a w'=>i7=w'/\Has 170 a [(0,.slice gp gr g4),(1,.slice gq gs g5),(8,.int .i64 s)]) (fun(y:Int)a w'=>i7=w'/\Has 170 a [(0,.slice gp gr g4),(1,.slice gq gs g5),(8,.int .i64 y)]) (fun _=>Y) ?_ ?_ hm ⟨Y,ht.cut (l:= [0,1,8]) Y⟩
 clear hm;rintro shift2 a mw hm ⟨rfl,iw⟩
 rw [hkont3]at hm
 replace hm:=hm
 refine a6x (e:= .exit 0) iw (a3l (a0d (a0f (a0a (a0b Y Y Y (a0b Y Y Y (a0k (e:=3) (cs:= [.int .i64 shift2]) (q:=1) Y Y R Y (fun _=>by kernel_rfl) Y Y ?_)))))))
 intro b4 mx kj
 obtain⟨my,ih,ii,hsx2⟩:=a1x kj (i:=0) Y ((show RowN (Rp.int .i64) k4 1 [.int .i64 shift2] [shift2]from⟨Y,⟨_,_,Y,Y,(Y:RowR (Rp.int .i64) _ [] [])⟩⟩))
 obtain⟨v5,kk,hm⟩:=Yb hm
 refine a1r ent207 Y Y Y Y ii (c5n _ _ _ _ kk ii.sat ((gc.mono g7).mono ih) hsx2) ?_
 rintro _ ij _ mz kl km ⟨o0,ik,il,xss6,rfl,rfl,kn⟩
 refine a0k (e:=3) (cs:= [.int .i64 0]) (q:=1) Y Y km Y (fun _=>by kernel_rfl) Y Y ?_
 intro b5 oa iy
 obtain⟨l1,ko,hm⟩:=Yb hm
 refine a7g (r:=(Rp.int .i64)) ap28 Y Y iy Y Y (i:=1) (j:=0) Y Y kn ((show RowN (Rp.int .i64) ij 1 [.int .i64 0] [0]from⟨Y,⟨_,_,Y,Y,(Y:RowR (Rp.int .i64) _ [] [])⟩⟩)) ko ?_
 intro kp h0 ob iz h1
 refine a0b Y Y Y (a0b Y Y Y (a0k (e:=3) (cs:= [.int .i64 shift2]) (q:=1) Y Y iz Y (fun _=>by kernel_rfl) Y Y ?_))
 intro b6 lx j0
 obtain⟨oc,h2,h3,hsx3⟩:=a1x j0 (i:=0) Y ((show RowN (Rp.int .i64) ij 1 [.int .i64 shift2] [shift2]from⟨Y,⟨_,_,Y,Y,(Y:RowR (Rp.int .i64) _ [] [])⟩⟩))
 have kq:=((g7.trans ih).trans kl).trans h2
 obtain⟨v6,kr,hm⟩:=Yb hm
 refine a1r ent207 Y Y Y Y h3 (c5n _ _ _ _ kr h3.sat (g6.mono kq) hsx3) ?_
 rintro _ im _ ly io h4 ⟨T,U,L,xss8,rfl,rfl,ip⟩
 refine a0c Y Y Y (a0c Y Y Y (a0e (a0d (a0f (a0f (a0a (a0b Y Y Y (a6y h1.len u28 Y Y Y (a0b Y Y Y (a6y gc.len u28 Y Y Y (a0x Y Y Y Y Y (a0e (a0d ?_)))))))))))))
 obtain⟨l2,V,hm⟩:=Yb hm
 refine c0t (fun a w'=>∃(gv:Frz)(gw:Option Addr)(gd:Nat)(g8:Nat)(xss9:List Value),Frz.le im gv/\HS F w [] gv [.row 3 1 T U L xss8,.row 3 1 (some ⟨b5,0,none⟩) 1 1 [.int .i64 0],.row 3 1 gw gd g8 xss9] w'/\(RowN (Rp.int .i64) gv gd xss9 l2)/\Has 170 a [(8,.int .i64 shift2),(9,.slice gw gd g8),(10,.slice T U L)]) ?_ ?_
 rintro a lz ⟨gv,gw,gd,g8,xss9,ks,j1,iq,j2⟩
 refine a3a j2 (a0f (a0a (a0b Y Y Y (a6y ip.len u28 Y Y Y (a0c Y Y Y (a0e (a0d (a0f (a0a (a0b Y Y Y (a6y iq.len u28 Y Y Y (a0b Y Y Y (a0x Y Y Y Y Y ?_)))))))))))))
 obtain⟨l3,kt,hm⟩:=Yb hm
 refine d3c (r:=(Rp.int .i64)) ap28 zi3 (fun _=>Y) Y Y Y j1 Y Y kt ?_
 intro b7 m0 xs1 j3 ir
 refine a0c Y Y Y (a0e (a0d (a0f (a0f (a0a (a0b Y Y Y (a6y ir.len u28 Y Y Y (a0x Y Y Y Y Y (a0c Y Y Y (a0e (a0d (a3d ?_))))))))))))
 obtain⟨h5,h6,j4,hsx4⟩:=a1x j3 (i:=1) Y (ip.mono ks)
 intro a hu
 obtain⟨kont1,hkont1⟩:∃kont1:(List Int)->(List Int)->Option ((List Int)×(List Int)),kont1=(fun(l6:List Int)(l7:List Int)=>(a2s n l7).bind fun v7=>(a8b n v7 shift2).bind fun v8=>(a2s n l6).bind fun v9=>some (v9,v8.1)):=⟨_,Y⟩
 replace hm:(fun m(s:Int×List Int×List Int)=>big_div_L2 n v6 kont1 m s.1 s.2.1 s.2.2) n ((isub .i64 (l3.length:Int) 1),l3,l2)=some r:=by rw [hkont1];exact hm
 refine b9w (id:=2) (fun m(s:Int×List Int×List Int)=>big_div_L2 n v6 kont1 m s.1 s.2.1 s.2.2) (fun(y:List Int×List Int)=>kont1 y.1 y.2) r (fun(s:Int×List Int×List Int)a w'=>∃(Z:Frz)(u:Option Addr)(o:Nat)(g:Nat)(xss10:List Value)(x:Option Addr)(t:Nat)(z:Nat)(xss11:List Value),Frz.le h5 Z/\HS F w [] Z [.row 3 1 u o g xss10,.row 3 1 x t z xss11] w'/\(RowN (Rp.int .i64) Z o xss10 s.2.1)/\(RowN (Rp.int .i64) Z t xss11 s.2.2)/\Has 170 a [(8,.int .i64 shift2),(9,.slice x t z),(10,.slice T U L),(11,.int .i64 (v6.length:Int)),(12,.slice u o g),(13,.int .i64 s.1)]) (fun(y:List Int×List Int)a w'=>∃(g0:Frz)(g1:Option Addr)(g9:Nat)(g2:Nat)(xss12:List Value)(ge:Option Addr)(ga:Nat)(gf:Nat)(xss13:List Value),Frz.le h5 g0/\HS F w [] g0 [.row 3 1 g1 g9 g2 xss12,.row 3 1 ge ga gf xss13] w'/\(RowN (Rp.int .i64) g0 g9 xss12 y.1)/\(RowN (Rp.int .i64) g0 ga xss13 y.2)/\Has 170 a [(8,.int .i64 shift2),(9,.slice ge ga gf),(12,.slice g1 g9 g2)]) (fun _=>Y) ?_ ?_ hm ⟨_,(some ⟨b7,0,none⟩),((isub .i64 (l2.length:Int) (v6.length:Int)).toNat),((isub .i64 (l2.length:Int) (v6.length:Int)).toNat),xs1,gw,gd,g8,xss9,Yf,j4.Yp [0,2] Y Y,(ir.mono h6),(iq.mono h6),hu.cut (l:= [8,9,10,11,12,13]) Y⟩
 clear hm;rintro⟨l6,l7⟩ a m1 hm ⟨g0,g1,g9,g2,xss12,ge,ga,gf,xss13,m2,h7,h8,h9,j5⟩
 rw [hkont1]at hm
 replace hm:=hm
 refine a6x (e:= .exit 2) j5 (a3l (a0d (a0f (a0a (a0b Y Y Y ?_)))))
 obtain⟨v7,ku,hm⟩:=Yb hm
 refine c3p ent191 Y Y Y Y (b1w _ _ _ ku (b8n _) (h7.viewRow (p:=1) Y Y h9)) ?_
 intro m3 hles14 hvs14
 obtain⟨j6,it⟩:=h7.cutN (p:=1) Y h9 hles14
 rw [<-hvs14]at it
 refine a0b Y Y Y ?_
 obtain⟨m4,hb,hc,hsx5⟩:=a1x j6 (i:=1) Y it
 obtain⟨v8,kv,hm⟩:=Yb hm
 refine a1r ent206 Y Y Y Y hc (c0z _ _ _ _ kv hc.sat hsx5) ?_
 rintro _ m5 _ m6 hd he ⟨hf,hg,hh,xss15,rfl,rfl,j7⟩
 refine a0b Y Y Y (a1h Y Y Y Y (a1h Y Y Y Y (a0c Y Y Y (a0c Y Y Y (a0e (a0d (a0f (a0a (a0b Y Y Y ?_)))))))))
 obtain⟨v9,kw,hm⟩:=Yb hm
 refine c3p ent191 Y Y Y Y (b1w _ _ _ kw (b8n _) (he.viewRow (p:=1) Y Y ((h8.mono hb).mono hd))) ?_
 intro hi hles16 hvs16
 obtain⟨j8,iu⟩:=he.cutN (p:=1) Y ((h8.mono hb).mono hd) hles16
 rw [<-hvs16]at iu
 refine a0b Y Y Y (a0c Y Y Y (a0c Y Y Y (a0e (a0d (a3x ?_)))))
 obtain⟨m7,j9,ja,hsx6⟩:=a1x j8 (i:=1) Y iu
 refine a9f (vl:= [.slice g1 hi g2,.slice hf hg hh]) Y ⟨a6k Y,a6k Y,trivial⟩ (by simp) ?_
 obtain rfl:=Yo hm
 exact⟨_,_,_,Y,ja.Yp [0] Y Y,g1,hi,g2,hf,hg,hh,xss15,Y,Y,hsx6,(j7.mono j9)⟩
 clear hm hkont1;intro hk1 mx1 K ihx1
 rintro⟨i1,l4,l5⟩ a m8 hm ⟨Z,u,o,g,xss10,x,t,z,xss11,J,gb,gg,M,jb⟩
 simp only [big_div_L2_s]at hm
 refine a3a jb (a0f (a0f (a0a (a0b Y Y Y (a0x Y Y Y Y Y (a0e (a0d ?_)))))))
 rcases a0g hm with⟨hj,hm⟩|⟨hj,hm⟩
 refine a1j 80 Y hj (a1t Y (a2v (a0d (a0f (a3d (a0f (b6c (by kernel_rfl) (by kernel_rfl) gb (a2x Y Y Y Y (fun _ _ _ _=>a0b Y Y Y Yn) (a2x Y Y Y Y (fun _ _ _ _=>a0b Y Y Y Yn) (a2x Y Y Y Y (fun _ _ _ _=>a0b Y Y Y Yn) (a2x Y Y Y Y (fun _ _ _ _=>a0x Y Y Y Y Y Yn) ?_)))))))))))
 obtain⟨ex2,kx,hm⟩:=Yb hm
 obtain⟨b8,o2,g5,jc,ho1,ky,hp1,hv⟩:=c2x (P:=Tryz.prog) (r:=(Rp.int .i64)) u28 sz3 gb (p:=1) Y Y M kx
 have kz:g5= [.int .i64 ex2]:=ky
 subst kz
 refine b6l Y Y Y Y hv (a2x Y Y Y Y (fun _ _ _ hq=>b3w (j:=0) ag3 Y Y hq Y (p:=1) Y Y jc ho1 hp1 Y Yn) ?_)
 obtain⟨q1,hq1,hm⟩:=Yb hm
 refine a2x Y Y Y Y (fun _ _ _ _=>e6z Y Y Y Y hq1 Yn) (a2x Y Y Y Y (fun _ _ _ _=>a0b Y Y Y Yn) (a2x Y Y Y Y (fun _ _ _ _=>a0b Y Y Y Yn) (a2x Y Y Y Y (fun _ _ _ _=>a0b Y Y Y Yn) (a2x Y Y Y Y (fun _ _ _ _=>a0x Y Y Y Y Y Yn) (a2x Y Y Y Y (fun _ _ _ _=>a0x Y Y Y Y Y Yn) ?_)))))
 obtain⟨ex3,l0,hm⟩:=Yb hm
 obtain⟨b9,o3,gt,jd,ho2,la,hp2,hw⟩:=c2x (P:=Tryz.prog) (r:=(Rp.int .i64)) u28 sz3 gb (p:=1) Y Y M l0
 have lb:gt= [.int .i64 ex3]:=la
 subst lb
 refine b6l Y Y Y Y hw (a2x Y Y Y Y (fun _ _ _ hq=>b3w (j:=0) ag3 Y Y hq Y (p:=1) Y Y jd ho2 hp2 Y Yn) (a2x Y Y Y Y (fun _ _ _ _=>a0x Y Y Y Y Y Yn) (a2x Y Y Y Y (fun _ _ _ _=>a0c Y Y Y Yn) (e1q ?_))))
 rintro m9 ⟨ma,G,je⟩
 refine a0d (a0f (b6c (by kernel_rfl) (by kernel_rfl) je (a2x Y Y Y Y (fun _ _ _ _=>a0b Y Y Y Yn) (a2x Y Y Y Y (fun _ _ _ _=>a0b Y Y Y Yn) (a2x Y Y Y Y (fun _ _ _ _=>a0b Y Y Y Yn) (a2x Y Y Y Y (fun _ _ _ _=>a0x Y Y Y Y Y Yn) ?_))))))
 obtain⟨ex4,lc,hm⟩:=Yb hm
 obtain⟨b10,o4,gu,ld,lf,hx⟩:=b3h (P:=Tryz.prog) (r:=(Rp.int .i64)) u28 sz3 ((hsx4.mono J).mono G) lc
 have lg:gu= [.int .i64 ex4]:=lf
 subst lg
 refine b6l Y Y Y Y hx (a2x Y Y Y Y (fun _ _ hleq hq=>a6u (j:=0) ag3 Y Y hq (ld.mono hleq) Y Y Yn) ?_)
 obtain⟨q2,hq2,hm⟩:=Yb hm
 refine a2x Y Y Y Y (fun _ _ _ _=>e9k Y Y Y Y hq2 Yn) (a2x Y Y Y Y (fun _ _ _ _=>a0b Y Y Y Yn) (a2x Y Y Y Y (fun _ _ _ _=>a0b Y Y Y Yn) (a2x Y Y Y Y (fun _ _ _ _=>a0b Y Y Y Yn) (a2x Y Y Y Y (fun _ _ _ _=>a0x Y Y Y Y Y Yn) ?_))))
 obtain⟨ex5,lh,hm⟩:=Yb hm
 obtain⟨b11,o5,li,lj,jf,hy⟩:=b3h (P:=Tryz.prog) (r:=(Rp.int .i64)) u28 sz3 ((hsx4.mono J).mono G) lh
 have lk:li= [.int .i64 ex5]:=jf
 subst lk
 refine b6l Y Y Y Y hy (a2x Y Y Y Y (fun _ _ hleq hq=>a6u (j:=0) ag3 Y Y hq (lj.mono hleq) Y Y Yn) ?_)
 obtain⟨q3,hq3,hm⟩:=Yb hm
 refine a2x Y Y Y Y (fun _ _ _ _=>f0k Y Y Y Y hq3 Yn) (a2x Y Y Y Y (fun _ _ _ _=>a0c Y Y Y Yn) (a2x Y Y Y Y (fun _ _ _ _=>a0c Y Y Y Yn) (e1q ?_)))
 rintro mb ⟨hk,H,jg⟩
 refine a0d (a0f (a3d ?_))
 intro a hz
 obtain⟨kont2,hkont2⟩:∃kont2:Int->Option ((List Int)×(List Int)),kont2=(fun(guess2:Int)=>(lsl l5 i1 (iadd .i64 (iadd .i64 i1 (v6.length:Int)) 1)).bind fun l8=>(a9v n l8 v6 guess2).bind fun v10=>(ix l4 i1).bind fun ex6=>(lset l4 i1 v10.2).bind fun l9=>big_div_L2 n v6 kont1 mx1 (isub .i64 i1 1) l9 (lput l5 i1 v10.1 (iadd .i64 (iadd .i64 i1 (v6.length:Int)) 1))):=⟨_,Y⟩
 replace hm:(fun m(s:Int×Int)=>big_div_L3 n v6 i1 l5 kont2 m s.1 s.2) n (q2,q3)=some r:=by rw [hkont2];exact hm
 refine b9w (id:=4) (fun m(s:Int×Int)=>big_div_L3 n v6 i1 l5 kont2 m s.1 s.2) (fun(y:Int)=>kont2 y) r (fun(s:Int×Int)a w'=>∃(gh:Frz),Frz.le hk gh/\HS F w [] gh [.row 3 1 u o g xss10,.row 3 1 x t z xss11] w'/\Has 170 a [(8,.int .i64 shift2),(9,.slice x t z),(10,.slice T U L),(11,.int .i64 (v6.length:Int)),(12,.slice u o g),(13,.int .i64 i1),(15,.int .i64 s.1),(16,.int .i64 s.2)]) (fun(y:Int)a w'=>∃(gi:Frz),Frz.le hk gi/\HS F w [] gi [.row 3 1 u o g xss10,.row 3 1 x t z xss11] w'/\Has 170 a [(8,.int .i64 shift2),(9,.slice x t z),(10,.slice T U L),(11,.int .i64 (v6.length:Int)),(12,.slice u o g),(13,.int .i64 i1),(15,.int .i64 y)]) (fun _=>Y) ?_ ?_ hm ⟨_,Yf,jg.Yp [0,1] Y Y,hz.cut (l:= [8,9,10,11,12,13,15,16]) Y⟩
 clear hm;rintro guess2 a mc hm ⟨gi,N,gj,jh⟩
 rw [hkont2]at hm
 replace hm:=hm
 refine a6x (e:= .exit 4) jh (a3l (a0d (a0a (a0b Y Y Y (a0b Y Y Y (a0b Y Y Y (a0b Y Y Y (a0b Y Y Y (a0b Y Y Y (a0x Y Y Y Y Y (a0x Y Y Y Y Y ?_)))))))))))
 obtain⟨l8,iv,hm⟩:=Yb hm
 refine e2z u28 (r:=(Rp.int .i64)) sz3 Y Y gj Y Y Y (p:=1) Y Y (((M.mono G).mono H).mono N) iv ?_
 intro md me mf ji
 refine a0b Y Y Y (a0b Y Y Y ?_)
 have ll:=((J.trans G).trans H).trans N
 obtain⟨v10,jj,hm⟩:=Yb hm
 refine e7o (r:=(Rp.int .i64)) ent208 Y Y Y Y gj (p:=1) Y Y (((M.mono G).mono H).mono N) ji (fun pre1 mid1 post1 hw1 hwf1 hwr1=>c7p _ _ _ _ _ jj gj.sat hw1 hwf1 (by rw [show l8=_ from(b6h iv).2.2.2];exact hwr1) (hsx4.mono ll)) ?_
 rintro _ mg _ _ mh xs2 gk hl hxx1 ⟨rfl,rfl,jk⟩
 obtain⟨ex6,lm,hm⟩:=Yb hm
 refine b0a (r:=(Rp.int .i64)) u28 sz3 Y Y hl Y Y (p:=0) Y Y ((((gg.mono G).mono H).mono N).mono gk) lm ?_
 intro b12 o6 il jl ho3 jm hp3
 have ln:il= [.int .i64 ex6]:=jm
 subst ln
 obtain⟨l9,lo,hm⟩:=Yb hm
 refine b3f (r:=(Rp.int .i64)) sz3 Y hl Y Y Y Y Y (p:=0) Y Y jl ho3 ((((gg.mono G).mono H).mono N).mono gk) Y Y lo ?_
 intro mi xs3 jn jo
 refine a0e (a4x (a0d (a0a (a0b Y Y Y (a0x Y Y Y Y Y (a0c Y Y Y (a0e (a0m (fun a ha=>ihx1 ((isub .i64 i1 1),l9,(lput l5 i1 v10.1 (iadd .i64 (iadd .i64 i1 (v6.length:Int)) 1))) a _ hm ?_)))))))))
 exact⟨_,u,o,g,xs3,x,t,z,xs2,((((J.trans G).trans H).trans N).trans gk),jn.Yp [0,1] Y Y,jo,((hxx1 _ jk)),ha.cut (l:= [8,9,10,11,12,13]) Y⟩
 clear hm hkont2;intro hk2 mx2 K ihx2
 rintro⟨guess1,rest1⟩ a mj hm ⟨gh,g3,hn,jp⟩
 simp only [big_div_L3_s]at hm
 refine a3a jp (a0f (a0f (b6c (by kernel_rfl) (by kernel_rfl) hn (a2x Y Y Y Y (fun _ _ _ _=>a0b Y Y Y Yn) (a2x Y Y Y Y (fun _ _ _ _=>a0x Y Y Y Y Y Yn) (a2x Y Y Y Y (fun _ _ _ _=>a0b Y Y Y Yn) ?_))))))
 obtain⟨v11,Q,hm⟩:=Yb hm
 refine e4r 23 (fun a=>Has 170 a [(8,.int .i64 shift2),(9,.slice x t z),(10,.slice T U L),(11,.int .i64 (v6.length:Int)),(12,.slice u o g),(13,.int .i64 i1),(15,.int .i64 guess1),(16,.int .i64 rest1),(137,.bool v11)]) ?_ ?_
 intro a i0
 refine c8a i0 (e1q ?_)
 rintro mk ⟨ml,gl,gm⟩
 refine a0d ?_
 rcases a0g hm with⟨ho,hm⟩|⟨ho,hm⟩
 refine a1j 137 Y ho (a1t Y (a2v (a0d (a3d (a0f (a0a (a0b Y Y Y (a0x Y Y Y Y Y (a0c Y Y Y (a0e (a0d (a0a (a0b Y Y Y (a0b Y Y Y (a0b Y Y Y (a0x Y Y Y Y Y ?_))))))))))))))))
 obtain⟨ex7,lp,hm⟩:=Yb hm
 refine a9w (r:=(Rp.int .i64)) u28 sz3 Y Y Y Y (((((hsx4.mono J).mono G).mono H).mono g3).mono gl) lp ?_
 intro b13 o7 h0 lq jq
 have lr:h0= [.int .i64 ex7]:=jq
 subst lr
 refine a6u (j:=0) ag3 Y Y gm lq Y Y (a0x Y Y Y Y Y (a0c Y Y Y (a0e (a4x (a0m (fun a ha=>ihx2 ((isub .i64 guess1 1),(iadd .i64 rest1 ex7)) a _ hm ?_))))))
 exact⟨_,(g3.trans gl),gm.Yp [0,1] Y Y,ha.cut (l:= [8,9,10,11,12,13,15,16]) Y⟩
 refine a1j 137 Y ho (a1f Y (b1f (a1b (a1b (fun a ha=>hk2 guess1 a _ hm ?_)))))
 exact⟨_,(g3.trans gl),gm.Yp [0,1] Y Y,ha.cut (l:= [8,9,10,11,12,13,15]) Y⟩
 clear hm
 rcases a0g Q with⟨hp,Q⟩|⟨hp,Q⟩
 refine d0v 114 Y hp (a4h Y Y Y (a4h Y Y Y (a4h Y Y Y (a4h Y Y Y (a4h Y Y Y (a4h Y Y Y (a4h Y Y Y (a4h Y Y Y (a4h Y Y Y (a4h Y Y Y (a4h Y Y Y (a4h Y Y Y (a4h Y Y Y (a4h Y Y Y (a4h Y Y Y (a4h Y Y Y (a4h Y Y Y (a4h Y Y Y (a4h Y Y Y (a4h Y Y Y (a4h Y Y Y (a4h Y Y Y (a2x Y Y Y Y (fun _ _ _ _=>a0n Y Y Y Y Yn) (d0n (fun a ha=> ?_)))))))))))))))))))))))))
 cases Q
 exact ha.cut (l:= [8,9,10,11,12,13,15,16,137]) Y
 refine d0v 114 Y hp (a2x Y Y Y Y (fun _ _ _ _=>a0b Y Y Y Yn) (a2x Y Y Y Y (fun _ _ _ _=>a0x Y Y Y Y Y Yn) (a2x Y Y Y Y (fun _ _ _ _=>a0b Y Y Y Yn) ?_)))
 obtain⟨v12,I,Q⟩:=Yb Q
 refine e4r 19 (fun a=>Has 170 a [(8,.int .i64 shift2),(9,.slice x t z),(10,.slice T U L),(11,.int .i64 (v6.length:Int)),(12,.slice u o g),(13,.int .i64 i1),(15,.int .i64 guess1),(16,.int .i64 rest1),(114,.bool false),(136,.bool v12)]) ?_ ?_
 intro a i2
 refine c8a i2 (a2x Y Y Y Y (fun _ _ _ _=>a0j Y Y Y Y Yn) (d0n (fun a ha=> ?_)))
 cases Q
 exact ha.cut (l:= [8,9,10,11,12,13,15,16,137]) Y
 clear Q
 rcases a0g I with⟨hr,I⟩|⟨hr,I⟩
 refine d0v 117 Y hr (a2x Y Y Y Y (fun _ _ _ _=>a0b Y Y Y Yn) (a2x Y Y Y Y (fun _ _ _ _=>a0b Y Y Y Yn) (a2x Y Y Y Y (fun _ _ _ _=>a0b Y Y Y Yn) (a2x Y Y Y Y (fun _ _ _ _=>a0x Y Y Y Y Y Yn) ?_))))
 obtain⟨ex8,ls,I⟩:=Yb I
 obtain⟨b14,o8,L,lt,jr,i3⟩:=b3h (P:=Tryz.prog) (r:=(Rp.int .i64)) u28 sz3 ((((hsx4.mono J).mono G).mono H).mono g3) ls
 have lu:L= [.int .i64 ex8]:=jr
 subst lu
 refine b6l Y Y Y Y i3 (a2x Y Y Y Y (fun _ _ hleq hq=>a6u (j:=0) ag3 Y Y hq (lt.mono hleq) Y Y Yn) (a2x Y Y Y Y (fun _ _ _ _=>a0x Y Y Y Y Y Yn) (a2x Y Y Y Y (fun _ _ _ _=>a0b Y Y Y Yn) ?_)))
 obtain⟨q4,hq4,I⟩:=Yb I
 refine a2x Y Y Y Y (fun _ _ _ _=>e6z Y Y Y Y hq4 Yn) (a2x Y Y Y Y (fun _ _ _ _=>a0b Y Y Y Yn) (a2x Y Y Y Y (fun _ _ _ _=>a0b Y Y Y Yn) (a2x Y Y Y Y (fun _ _ _ _=>a0b Y Y Y Yn) (a2x Y Y Y Y (fun _ _ _ _=>a0x Y Y Y Y Y Yn) (a2x Y Y Y Y (fun _ _ _ _=>a0x Y Y Y Y Y Yn) ?_)))))
 obtain⟨ex9,lv,I⟩:=Yb I
 obtain⟨b15,o9,g8,i4,ho4,js,hp4,i5⟩:=c2x (P:=Tryz.prog) (r:=(Rp.int .i64)) u28 sz3 hn (p:=1) Y Y (((M.mono G).mono H).mono g3) lv
 have jt:g8= [.int .i64 ex9]:=js
 subst jt
 refine b6l Y Y Y Y i5 (a2x Y Y Y Y (fun _ _ _ hq=>b3w (j:=0) ag3 Y Y hq Y (p:=1) Y Y i4 ho4 hp4 Y Yn) (a2x Y Y Y Y (fun _ _ _ _=>a0x Y Y Y Y Y Yn) (a2x Y Y Y Y (fun _ _ _ _=>a0x Y Y Y Y Y Yn) (a2x Y Y Y Y (fun _ _ _ _=>a0n Y Y Y Y Yn) (d0n (fun a ha=> ?_))))))
 cases I
 exact ha.cut (l:= [8,9,10,11,12,13,15,16,114,136]) Y
 refine d0v 117 Y hr (a4h Y Y Y (a4h Y Y Y (a4h Y Y Y (a4h Y Y Y (a4h Y Y Y (a4h Y Y Y (a4h Y Y Y (a4h Y Y Y (a4h Y Y Y (a4h Y Y Y (a4h Y Y Y (a4h Y Y Y (a4h Y Y Y (a4h Y Y Y (a4h Y Y Y (a4h Y Y Y (a4h Y Y Y (a4h Y Y Y (a2x Y Y Y Y (fun _ _ _ _=>a0j Y Y Y Y Yn) (d0n (fun a ha=> ?_)))))))))))))))))))))
 cases I
 exact ha.cut (l:= [8,9,10,11,12,13,15,16,114,136]) Y
 refine a1j 80 Y hj (a1f Y (b1f (a1b (a1b (fun a ha=>hk1 (l4,l5) a _ hm ?_)))))
 exact⟨_,u,o,g,xss10,x,t,z,xss11,J,gb.Yp [0,1] Y Y,gg,M,ha.cut (l:= [8,9,12]) Y⟩
 clear hm
 rcases a0g V with⟨gn,V⟩|⟨gn,V⟩
 refine a1j 65 Y gn (a1t Y (a0a (a0b Y Y Y (a0k (e:=3) (cs:= [.int .i64 0]) (q:=1) Y Y h4 Y (fun _=>by kernel_rfl) Y Y ?_))))
 intro b16 mm ju
 obtain⟨l10,jv,V⟩:=Yb V
 refine a7g (r:=(Rp.int .i64)) ap28 Y Y ju Y Y (i:=3) (j:=0) Y Y ((h1.mono h2).mono io) ((show RowN (Rp.int .i64) im 1 [.int .i64 0] [0]from⟨Y,⟨_,_,Y,Y,(Y:RowR (Rp.int .i64) _ [] [])⟩⟩)) jv ?_
 intro jw jx mn jy jz
 refine a0c Y Y Y (a0e (a0m (fun a ha=> ?_)))
 cases V
 exact⟨_,jw,((ik+1)+1),jx,((xss6++ [.int .i64 0])++ [.int .i64 0]),Yf,jy.Yp [1,2,3] Y Y,jz,ha.cut (l:= [8,9,10]) Y⟩
 refine a1j 65 Y gn (a1f Y (a2v (a0m (fun a ha=> ?_))))
 cases V
 exact⟨_,kp,(ik+1),h0,(xss6++ [.int .i64 0]),Yf,h4.Yp [0,1,2] Y Y,((h1.mono h2).mono io),ha.cut (l:= [8,9,10]) Y⟩
 clear hm hkont3;intro hk3 mx3 K ihx3
 rintro shift1 a mo hm ⟨rfl,i6⟩
 simp only [big_div_L1_s]at hm
 refine a3a i6 (a0f (a0f (a0a (a0b Y Y Y (a0b Y Y Y (a6y g6.len u28 Y Y Y (a0x Y Y Y Y Y ?_)))))))
 obtain⟨ex10,k0,hm⟩:=Yb hm
 refine a9w (r:=(Rp.int .i64)) u28 sz3 Y Y Y Y (g6.mono g7) k0 ?_
 intro b17 o10 g lw k1
 have k2:g= [.int .i64 ex10]:=k1
 subst k2
 refine a6u (j:=0) ag3 Y Y R lw Y Y (a0b Y Y Y (a0x Y Y Y Y Y (a0x Y Y Y Y Y (a0e (a0d ?_)))))
 rcases a0g hm with⟨go,hm⟩|⟨go,hm⟩
 refine a1j 48 Y go (a1t Y (a2v (a0d (a3d (a0a (a0b Y Y Y (a0x Y Y Y Y Y (a0c Y Y Y (a0e (a4x (a0m (fun a ha=>ihx3 (imul .i64 shift1 2) a _ hm ?_))))))))))))
 exact⟨Y,ha.cut (l:= [0,1,8]) Y⟩
 refine a1j 48 Y go (a1f Y (b1f (a1b (a1b (fun a ha=>hk3 shift1 a _ hm ?_)))))
 exact⟨Y,ha.cut (l:= [0,1,8]) Y⟩
theorem c8h(n:Nat)(ax1:(List Int))(b1:(List Int)):FnC Wt 162 [.sl 2 ax1,.sl 2 b1] (b5d n ax1 b1) (fun r=> .tup [.sl 2 r.1,.sl 2 r.2]):=⟨fun _ _=>by kernel_rfl,fun r hm w F hs hg us hu=>by
 obtain⟨_,_,rfl,⟨_,_,_,rfl,hs0⟩,⟨_,_,rfl,⟨_,_,_,rfl,hs1⟩,rfl⟩⟩:=hu
 exact(d0u n ax1 b1 r hm hs (hg) hs0 hs1).mono fun e w'⟨v,F',O',e1,e2,e3⟩=>by
  obtain⟨a0_0,n0_0,c0_0,a1_0,n1_0,c1_0,xs1_0,rfl,rfl,g0,g1⟩:=e3
  obtain⟨F2,hz,h2,g1'⟩:=frzO e2 g1
  exact⟨_,F2,e1,h2,⟨_,rfl,⟨_,_,rfl,⟨_,_,_,rfl,(g0.mono hz)⟩,⟨_,_,rfl,⟨_,_,_,rfl,g1'⟩,rfl⟩⟩⟩⟩⟩
theorem a5h(n:Nat)(right1:Bool)(c1:Big):FnC Wt 161 [.ob right1,.agg [.int .i64 c1.Sign,.sl 2 c1.Digits]] (a4s n right1 c1) (fun r=> .tup [.agg [.int .i64 r.1.Sign,.sl 2 r.1.Digits],.int .i64 r.2]):=by
 refine a0z (n:=10) Tryz.func161 rfl rfl rfl (fun _ _=>by kernel_rfl) fun F0 w0 r=> ?_
 unfold a4s
 refine gC rfl (fun _=> ?_) (fun _=> ?_)
 ·
  exact gR rfl rfl rfl
 ·
  exact gR rfl rfl rfl
theorem c8j(n:Nat)(vals1:(List Int)):FnC Wt 209 [.sl 2 vals1] (b2w n vals1) (fun r=> .int .i64 r):=by
 refine a0z (n:=18) Tryz.func209 rfl rfl rfl (fun _ _=>by kernel_rfl) fun F0 w0 r=> ?_
 unfold b2w
 refine a2r ((fun k0 m(s:Int)=>cmp_Or_int_L1 n vals1 k0 m s) _) (fun(s:Int)=> [.v 8 (.int .i64 s)]) (fun _=>rfl) _ rfl rfl (fun _=>rfl) rfl fun K1 m1 hK1 i1=> ?_
 refine gC rfl (fun _=> ?_) (fun _=> ?_)
 ·
  refine gV rfl fun ex1=> ?_
  refine gC rfl (fun _=> ?_) (fun _=> ?_)
  ·
   exact gR rfl rfl rfl
  ·
   exact gE hK1 _ rfl (by kernel_rfl)
 ·
  exact gR rfl rfl rfl
theorem e0g(n:Nat)(ax1:Big)(b1:Big):FnC Wt 166 [.agg [.int .i64 ax1.Sign,.sl 2 ax1.Digits],.agg [.int .i64 b1.Sign,.sl 2 b1.Digits]] (c4h n ax1 b1) (fun r=> .tup [.agg [.int .i64 r.1.Sign,.sl 2 r.1.Digits],.int .i64 r.2]):=by
 refine a0z (n:=69) Tryz.func166 rfl rfl rfl (fun _ _=>by kernel_rfl) fun F0 w0 r=> ?_
 unfold c4h
 refine gK (a3c _ _) rfl rfl rfl fun v1=> ?_
 refine gJ 4 (fun v2=> [.v 13 (.ob v2)]) rfl (fun _=>rfl) (fun J1 hJ1=> ?_) (fun v2=> ?_)
 ·
  refine gD rfl (fun _=> ?_) (fun _=> ?_)
  ·
   exact gX hJ1 rfl (by kernel_rfl)
  ·
   refine gA ?_
   refine gK (a3c _ _) rfl rfl rfl fun v15=> ?_
   exact gX hJ1 rfl (by kernel_rfl)
 refine gC rfl (fun _=> ?_) (fun _=> ?_)
 ·
  refine gK (a5h _ _ _) rfl rfl rfl fun v3=> ?_
  exact gR rfl rfl rfl
 ·
  refine gC rfl (fun _=> ?_) (fun _=> ?_)
  ·
   refine gHs [(4,(pL [0,2,4,6,12,14,16,18,9,11,21,23,25,26,29,31,33] .nil)),(6,(pL [0,2,4,6,8,10,13,15,17,18,21,23,25] .nil)),(7,(pL [0,2,4,6,8,10,13,15,17,18,21,23,25] .nil))] rfl (by kernel_rfl) rfl rfl fun Ky=> ?_
   refine gK (c8j _ _) rfl rfl rfl fun v4=> ?_
   refine gK (c9q _ _ _) rfl rfl rfl fun v5=> ?_
   refine gK (a4c _ _ _) rfl rfl rfl fun v6=> ?_
   refine gK (a5h _ _ _) rfl rfl rfl fun v7=> ?_
   refine gHe rfl ?_
   exact gR rfl rfl rfl
  ·
   refine gK (b4j _ _ _) rfl rfl rfl fun v8=> ?_
   refine gC rfl (fun _=> ?_) (fun _=> ?_)
   ·
    refine gHs [(4,(pL [0,2,4,6,12,14,16,18,9,11,21,23,25,26,29,31,33] .nil)),(6,(pL [0,2,4,6,8,10,13,15,17,18,21,23,25] .nil)),(7,(pL [0,2,4,6,8,10,13,15,17,18,21,23,25] .nil))] rfl (by kernel_rfl) rfl rfl fun Ky=> ?_
    refine gK (c2p _ _ _) rfl rfl rfl fun v9=> ?_
    refine gK (a4c _ _ _) rfl rfl rfl fun v10=> ?_
    refine gK (a5h _ _ _) rfl rfl rfl fun v11=> ?_
    refine gHe rfl ?_
    exact gR rfl rfl rfl
   ·
    refine gHs [(4,(pL [0,2,4,6,12,14,16,18,9,11,21,23,25,26,29,31,33] .nil)),(6,(pL [0,2,4,6,8,10,13,15,17,18,21,23,25] .nil)),(7,(pL [0,2,4,6,8,10,13,15,17,18,21,23,25] .nil))] rfl (by kernel_rfl) rfl rfl fun Ky=> ?_
    refine gK (c2p _ _ _) rfl rfl rfl fun v12=> ?_
    refine gK (a4c _ _ _) rfl rfl rfl fun v13=> ?_
    refine gK (a5h _ _ _) rfl rfl rfl fun v14=> ?_
    refine gHe rfl ?_
    exact gR rfl rfl rfl
theorem d9w(n:Nat)(ax1:Big)(b1:Big):FnC Wt 170 [.agg [.int .i64 ax1.Sign,.sl 2 ax1.Digits],.agg [.int .i64 b1.Sign,.sl 2 b1.Digits]] (c2s n ax1 b1) (fun r=> .tup [.agg [.int .i64 r.1.Sign,.sl 2 r.1.Digits],.int .i64 r.2]):=by
 refine a0z (n:=32) Tryz.func170 rfl rfl rfl (fun _ _=>by kernel_rfl) fun F0 w0 r=> ?_
 unfold c2s
 refine gK (a3c _ _) rfl rfl rfl fun v1=> ?_
 refine gJ 4 (fun v2=> [.v 13 (.ob v2)]) rfl (fun _=>rfl) (fun J1 hJ1=> ?_) (fun v2=> ?_)
 ·
  refine gD rfl (fun _=> ?_) (fun _=> ?_)
  ·
   exact gX hJ1 rfl (by kernel_rfl)
  ·
   refine gA ?_
   refine gK (a3c _ _) rfl rfl rfl fun v7=> ?_
   exact gX hJ1 rfl (by kernel_rfl)
 refine gC rfl (fun _=> ?_) (fun _=> ?_)
 ·
  refine gK (a5h _ _ _) rfl rfl rfl fun v3=> ?_
  exact gR rfl rfl rfl
 ·
  refine gHs [(3,(pL [0,2,4,6,8,10,12,14,16,19,21,23,24,27,29,31] .nil))] rfl (by kernel_rfl) rfl rfl fun Ky=> ?_
  refine gK (d6v _ _ _) rfl rfl rfl fun v4=> ?_
  refine gK (a4c _ _ _) rfl rfl rfl fun v5=> ?_
  refine gK (a5h _ _ _) rfl rfl rfl fun v6=> ?_
  refine gHe rfl ?_
  exact gR rfl rfl rfl
theorem b9k(n:Nat)(ax1:Big)(b1:Big):FnC Wt 193 [.agg [.int .i64 ax1.Sign,.sl 2 ax1.Digits],.agg [.int .i64 b1.Sign,.sl 2 b1.Digits]] (b2t n ax1 b1) (fun r=> .tup [.agg [.int .i64 r.1.Sign,.sl 2 r.1.Digits],.agg [.int .i64 r.2.1.Sign,.sl 2 r.2.1.Digits],.int .i64 r.2.2]):=by
 refine a0z (n:=67) Tryz.func193 rfl rfl rfl (fun _ _=>by kernel_rfl) fun F0 w0 r=> ?_
 unfold b2t
 refine gK (a3c _ _) rfl rfl rfl fun v1=> ?_
 refine gJ 4 (fun v2=> [.v 17 (.ob v2)]) rfl (fun _=>rfl) (fun J1 hJ1=> ?_) (fun v2=> ?_)
 ·
  refine gD rfl (fun _=> ?_) (fun _=> ?_)
  ·
   exact gX hJ1 rfl (by kernel_rfl)
  ·
   refine gA ?_
   refine gK (a3c _ _) rfl rfl rfl fun v11=> ?_
   exact gX hJ1 rfl (by kernel_rfl)
 refine gC rfl (fun _=> ?_) (fun _=> ?_)
 ·
  exact gR rfl rfl rfl
 ·
  refine gC rfl (fun _=> ?_) (fun _=> ?_)
  ·
   exact gR rfl rfl rfl
  ·
   refine gK (c8h _ _ _) rfl rfl rfl fun v3=> ?_
   refine gJ 4 (fun v4=> [.v 44 (.ob v4)]) rfl (fun _=>rfl) (fun J2 hJ2=> ?_) (fun v4=> ?_)
   ·
    refine gD rfl (fun _=> ?_) (fun _=> ?_)
    ·
     exact gX hJ2 rfl (by kernel_rfl)
    ·
     exact gX hJ2 rfl (by kernel_rfl)
   refine gC rfl (fun _=> ?_) (fun _=> ?_)
   ·
    refine gHs [(7,(pL [0,8,10,12,14,16,3,5,7,19,21,23,25,27] .nil)),(8,(pL [0,2,4,6,8,10,14,16,18,13,21,23,25,27] .nil))] rfl (by kernel_rfl) rfl rfl fun Ky=> ?_
    refine gK (c9q _ _ _) rfl rfl rfl fun v5=> ?_
    refine gK (a4c _ _ _) rfl rfl rfl fun v6=> ?_
    refine gK (c2p _ _ _) rfl rfl rfl fun v7=> ?_
    refine gK (a4c _ _ _) rfl rfl rfl fun v8=> ?_
    refine gHe rfl ?_
    exact gR rfl rfl rfl
   ·
    refine gHs [(7,(pL [0,8,10,12,14,16,3,5,7,19,21,23,25,27] .nil)),(8,(pL [0,2,4,6,8,10,14,16,18,13,21,23,25,27] .nil))] rfl (by kernel_rfl) rfl rfl fun Ky=> ?_
    refine gK (a4c _ _ _) rfl rfl rfl fun v9=> ?_
    refine gK (a4c _ _ _) rfl rfl rfl fun v10=> ?_
    refine gHe rfl ?_
    exact gR rfl rfl rfl
theorem c2u(n:Nat)(ax1:Big)(b1:Big):FnC Wt 92 [.agg [.int .i64 ax1.Sign,.sl 2 ax1.Digits],.agg [.int .i64 b1.Sign,.sl 2 b1.Digits]] (b5q n ax1 b1) (fun r=> .tup [.agg [.int .i64 r.1.Sign,.sl 2 r.1.Digits],.int .i64 r.2]):=by
 refine a0z (n:=44) Tryz.func92 rfl rfl rfl (fun _ _=>by kernel_rfl) fun F0 w0 r=> ?_
 unfold b5q
 refine gK (a3c _ _) rfl rfl rfl fun v1=> ?_
 refine gJ 4 (fun v2=> [.v 17 (.ob v2)]) rfl (fun _=>rfl) (fun J1 hJ1=> ?_) (fun v2=> ?_)
 ·
  refine gD rfl (fun _=> ?_) (fun _=> ?_)
  ·
   exact gX hJ1 rfl (by kernel_rfl)
  ·
   refine gA ?_
   refine gK (a3c _ _) rfl rfl rfl fun v9=> ?_
   exact gX hJ1 rfl (by kernel_rfl)
 refine gC rfl (fun _=> ?_) (fun _=> ?_)
 ·
  refine gK (a5h _ _ _) rfl rfl rfl fun v3=> ?_
  exact gR rfl rfl rfl
 ·
  refine gHs [(3,(pL [0,2,6,8,5,11,13] .nil))] rfl (by kernel_rfl) rfl rfl fun Ky=> ?_
  refine gO (a3i _ _) rfl rfl rfl fun v4=> ?_
  refine gHe rfl ?_
  refine gFr 6 rfl ?_
  refine a2r ((fun k0 m(s:(List Int)×(List Int))=>big_Gcd_L1 n k0 m s.1 s.2) _) (fun(s:(List Int)×(List Int))=> [.v 6 (.sl 2 s.1),.v 7 (.sl 2 s.2)]) (fun _=>rfl) (_,_) rfl rfl (fun _=>rfl) rfl fun K2 m2 hK2 z2=> ?_
  obtain⟨x1,y1⟩:=z2;dsimp only
  refine gC rfl (fun _=> ?_) (fun _=> ?_)
  ·
   refine gK (c8h _ _ _) rfl rfl rfl fun v8=> ?_
   exact gE hK2 (_,_) rfl (by kernel_rfl)
  ·
   refine gO (a3i _ _) rfl rfl rfl fun v5=> ?_
   refine gK (a4c _ _ _) rfl rfl rfl fun v6=> ?_
   refine gK (a5h _ _ _) rfl rfl rfl fun v7=> ?_
   exact gR rfl rfl rfl
theorem c1v(n:Nat)(nx1:Int):FnC Wt 72 [.int .i64 nx1] (b5i n nx1) (fun r=> .agg [.int .i64 r.Sign,.sl 2 r.Digits]):=by
 refine a0z (n:=25) Tryz.func72 rfl rfl rfl (fun _ _=>by kernel_rfl) fun F0 w0 r=> ?_
 unfold b5i
 refine gM (fun j1=> [.v 3 (.int .i64 j1.1),.v 4 (.int .u64 j1.2)]) rfl (fun _=>rfl) (fun J1 hJ1=> ?_) (fun j1=> ?_)
 ·
  refine gD rfl (fun _=> ?_) (fun _=> ?_)
  ·
   exact gX hJ1 rfl (by kernel_rfl)
  ·
   exact gX hJ1 rfl (by kernel_rfl)
 obtain⟨sign1,u1⟩:=j1;dsimp only
 refine a2r ((fun k0 m(s:Int×List Int)=>big_Of_L1 n k0 m s.1 s.2) _) (fun(s:Int×List Int)=> [.v 4 (.int .u64 s.1),.r 5 2 s.2]) (fun _=>rfl) (_,_) rfl rfl (fun _=>rfl) rfl fun K2 m2 hK2 z2=> ?_
 obtain⟨u2,l1⟩:=z2;dsimp only
 refine gC rfl (fun _=> ?_) (fun _=> ?_)
 ·
  refine gP rfl fun l3=> ?_
  refine gV rfl fun q1=> ?_
  exact gE hK2 (_,_) rfl (by kernel_rfl)
 ·
  refine gK (a4c _ _ _) rfl rfl rfl fun v1=> ?_
  exact gR rfl rfl rfl
theorem d9x(n:Nat)(ax1:Big):FnC Wt 163 [.agg [.int .i64 ax1.Sign,.sl 2 ax1.Digits]] (c3x n ax1) (fun r=> .tup [.int .i64 r.1,.ob r.2]):=by
 refine a0z (n:=59) Tryz.func163 rfl rfl rfl (fun _ _=>by kernel_rfl) fun F0 w0 r=> ?_
 unfold c3x
 refine gK (a3c _ _) rfl rfl rfl fun v1=> ?_
 refine gJ 5 (fun v2=> [.v 15 (.ob v2)]) rfl (fun _=>rfl) (fun J1 hJ1=> ?_) (fun v2=> ?_)
 ·
  refine gD rfl (fun _=> ?_) (fun _=> ?_)
  ·
   exact gX hJ1 rfl (by kernel_rfl)
  ·
   exact gX hJ1 rfl (by kernel_rfl)
 refine gC rfl (fun _=> ?_) (fun _=> ?_)
 ·
  exact gR rfl rfl rfl
 ·
  refine a2r ((fun k0 m(s:Int×Int)=>big_Int_L1 n ax1 k0 m s.1 s.2) _) (fun(s:Int×Int)=> [.v 4 (.int .u64 s.1),.v 19 (.int .i64 s.2)]) (fun _=>rfl) (_,_) rfl rfl (fun _=>rfl) rfl fun K2 m2 hK2 z2=> ?_
  obtain⟨u1,i1⟩:=z2;dsimp only
  refine gC rfl (fun _=> ?_) (fun _=> ?_)
  ·
   refine gV rfl fun ex1=> ?_
   refine gJ 3 (fun v5=> [.v 29 (.ob v5)]) rfl (fun _=>rfl) (fun J3 hJ3=> ?_) (fun v5=> ?_)
   ·
    refine gD rfl (fun _=> ?_) (fun _=> ?_)
    ·
     exact gX hJ3 rfl (by kernel_rfl)
    ·
     exact gX hJ3 rfl (by kernel_rfl)
   refine gC rfl (fun _=> ?_) (fun _=> ?_)
   ·
    exact gR rfl rfl rfl
   ·
    refine gV rfl fun q1=> ?_
    exact gE hK2 (_,_) rfl (by kernel_rfl)
  ·
   refine gJ 3 (fun v3=> [.v 45 (.ob v3)]) rfl (fun _=>rfl) (fun J4 hJ4=> ?_) (fun v3=> ?_)
   ·
    refine gD rfl (fun _=> ?_) (fun _=> ?_)
    ·
     exact gX hJ4 rfl (by kernel_rfl)
    ·
     exact gX hJ4 rfl (by kernel_rfl)
   refine gC rfl (fun _=> ?_) (fun _=> ?_)
   ·
    exact gR rfl rfl rfl
   ·
    refine gJ 3 (fun v4=> [.v 56 (.ob v4)]) rfl (fun _=>rfl) (fun J5 hJ5=> ?_) (fun v4=> ?_)
    ·
     refine gD rfl (fun _=> ?_) (fun _=> ?_)
     ·
      exact gX hJ5 rfl (by kernel_rfl)
     ·
      exact gX hJ5 rfl (by kernel_rfl)
    refine gC rfl (fun _=> ?_) (fun _=> ?_)
    ·
     exact gR rfl rfl rfl
    ·
     exact gR rfl rfl rfl
end Go.Proofs.YthaegflpecbfgaaGreatDoor.M
namespace Go.Proofs.YthaegflpecbfgaaGreatDoor.M
open Go Go.RowKit Rt
set_option maxRecDepth 1000000
set_option maxHeartbeats 40000000
theorem b6b(n:Nat)(ax1:Big)(b1:Big):FnC Wt 50 [.agg [.int .i64 ax1.Sign,.sl 2 ax1.Digits],.agg [.int .i64 b1.Sign,.sl 2 b1.Digits]] (a7l n ax1 b1) (fun r=> .ob r):=by
 refine a0z (n:=38) Tryz.func50 rfl rfl rfl (fun _ _=>by kernel_rfl) fun F0 w0 r=> ?_
 unfold a7l
 refine gJ 8 (fun v1=> [.v 19 (.ob v1)]) rfl (fun _=>rfl) (fun J1 hJ1=> ?_) (fun v1=> ?_)
 ·
  refine gD rfl (fun _=> ?_) (fun _=> ?_)
  ·
   exact gX hJ1 rfl (by kernel_rfl)
  ·
   exact gX hJ1 rfl (by kernel_rfl)
 refine gC rfl (fun _=> ?_) (fun _=> ?_)
 ·
  exact gR rfl rfl rfl
 ·
  refine a2r ((fun k0 m(s:Int)=>ref05_SameBig_L1 n ax1 b1 k0 m s) _) (fun(s:Int)=> [.v 5 (.int .i64 s)]) (fun _=>rfl) _ rfl rfl (fun _=>rfl) rfl fun K2 m2 hK2 i1=> ?_
  refine gC rfl (fun _=> ?_) (fun _=> ?_)
  ·
   refine gG rfl (by kernel_rfl) ?_
   refine gV rfl fun ex1=> ?_
   refine gV rfl fun ex2=> ?_
   refine gC rfl (fun _=> ?_) (fun _=> ?_)
   ·
    exact gR rfl rfl rfl
   ·
    exact gE hK2 _ rfl (by kernel_rfl)
  ·
   exact gR rfl rfl rfl
theorem b2l(n:Nat)(ax1:Frac)(b1:Frac):FnC Wt 16 [.agg [.int .i64 ax1.P.Sign,.sl 2 ax1.P.Digits,.int .i64 ax1.Q.Sign,.sl 2 ax1.Q.Digits],.agg [.int .i64 b1.P.Sign,.sl 2 b1.P.Digits,.int .i64 b1.Q.Sign,.sl 2 b1.Q.Digits]] (a6b n ax1 b1) (fun r=> .ob r):=by
 refine a0z (n:=17) Tryz.func16 rfl rfl rfl (fun _ _=>by kernel_rfl) fun F0 w0 r=> ?_
 unfold a6b
 refine gK (b6b _ _ _) rfl rfl rfl fun v1=> ?_
 refine gJ 6 (fun v2=> [.v 16 (.ob v2)]) rfl (fun _=>rfl) (fun J1 hJ1=> ?_) (fun v2=> ?_)
 ·
  refine gD rfl (fun _=> ?_) (fun _=> ?_)
  ·
   refine gA ?_
   refine gK (b6b _ _ _) rfl rfl rfl fun v3=> ?_
   exact gX hJ1 rfl (by kernel_rfl)
  ·
   exact gX hJ1 rfl (by kernel_rfl)
 exact gR rfl rfl rfl
theorem d1o(n:Nat)(f1:Frac)(nx1:Int):FnC Wt 20 [.agg [.int .i64 f1.P.Sign,.sl 2 f1.P.Digits,.int .i64 f1.Q.Sign,.sl 2 f1.Q.Digits],.int .i64 nx1] (b1k n f1 nx1) (fun r=> .ob r):=by
 refine a0z (n:=19) Tryz.func20 rfl rfl rfl (fun _ _=>by kernel_rfl) fun F0 w0 r=> ?_
 unfold b1k
 refine gJ 7 (fun v1=> [.v 18 (.ob v1)]) rfl (fun _=>rfl) (fun J1 hJ1=> ?_) (fun v1=> ?_)
 ·
  refine gD rfl (fun _=> ?_) (fun _=> ?_)
  ·
   exact gX hJ1 rfl (by kernel_rfl)
  ·
   exact gX hJ1 rfl (by kernel_rfl)
 exact gR rfl rfl rfl
theorem d5c(n:Nat)(ax1:Big):FnC Wt 93 [.agg [.int .i64 ax1.Sign,.sl 2 ax1.Digits]] (b9u n ax1) (fun r=> .ob r):=by
 refine a0z (n:=15) Tryz.func93 rfl rfl rfl (fun _ _=>by kernel_rfl) fun F0 w0 r=> ?_
 unfold b9u
 refine gK (d9x _ _) rfl rfl rfl fun v1=> ?_
 refine gJ 3 (fun v2=> [.v 14 (.ob v2)]) rfl (fun _=>rfl) (fun J1 hJ1=> ?_) (fun v2=> ?_)
 ·
  refine gD rfl (fun _=> ?_) (fun _=> ?_)
  ·
   exact gX hJ1 rfl (by kernel_rfl)
  ·
   exact gX hJ1 rfl (by kernel_rfl)
 exact gR rfl rfl rfl
theorem a2e(n:Nat)(f1:Frac):FnC Wt 44 [.agg [.int .i64 f1.P.Sign,.sl 2 f1.P.Digits,.int .i64 f1.Q.Sign,.sl 2 f1.Q.Digits]] (a2f n f1) (fun r=> .ob r):=by
 refine a0z (n:=35) Tryz.func44 rfl rfl rfl (fun _ _=>by kernel_rfl) fun F0 w0 r=> ?_
 unfold a2f
 refine gK (a3c _ _) rfl rfl rfl fun v1=> ?_
 refine gJ 5 (fun v2=> [.v 14 (.ob v2)]) rfl (fun _=>rfl) (fun J1 hJ1=> ?_) (fun v2=> ?_)
 ·
  refine gD rfl (fun _=> ?_) (fun _=> ?_)
  ·
   exact gX hJ1 rfl (by kernel_rfl)
  ·
   refine gA ?_
   refine gK (a3c _ _) rfl rfl rfl fun v7=> ?_
   exact gX hJ1 rfl (by kernel_rfl)
 refine gJ 5 (fun v3=> [.v 20 (.ob v3)]) rfl (fun _=>rfl) (fun J2 hJ2=> ?_) (fun v3=> ?_)
 ·
  refine gD rfl (fun _=> ?_) (fun _=> ?_)
  ·
   exact gX hJ2 rfl (by kernel_rfl)
  ·
   exact gX hJ2 rfl (by kernel_rfl)
 refine gC rfl (fun _=> ?_) (fun _=> ?_)
 ·
  exact gR rfl rfl rfl
 ·
  refine gK (c2u _ _ _) rfl rfl rfl fun v4=> ?_
  refine gJ 3 (fun v5=> [.v 34 (.ob v5)]) rfl (fun _=>rfl) (fun J3 hJ3=> ?_) (fun v5=> ?_)
  ·
   refine gD rfl (fun _=> ?_) (fun _=> ?_)
   ·
    refine gA ?_
    refine gK (d5c _ _) rfl rfl rfl fun v6=> ?_
    exact gX hJ3 rfl (by kernel_rfl)
   ·
    exact gX hJ3 rfl (by kernel_rfl)
  exact gR rfl rfl rfl
theorem b6j(n:Nat)(p1:Big)(q1:Big):FnC Wt 141 [.agg [.int .i64 p1.Sign,.sl 2 p1.Digits],.agg [.int .i64 q1.Sign,.sl 2 q1.Digits]] (b2c n p1 q1) (fun r=> .tup [.agg [.int .i64 r.1.P.Sign,.sl 2 r.1.P.Digits,.int .i64 r.1.Q.Sign,.sl 2 r.1.Q.Digits],.int .i64 r.2]):=by
 refine a0z (n:=60) Tryz.func141 rfl rfl rfl (fun _ _=>by kernel_rfl) fun F0 w0 r=> ?_
 unfold b2c
 refine gK (a3c _ _) rfl rfl rfl fun v1=> ?_
 refine gJ 4 (fun v2=> [.v 22 (.ob v2)]) rfl (fun _=>rfl) (fun J1 hJ1=> ?_) (fun v2=> ?_)
 ·
  refine gD rfl (fun _=> ?_) (fun _=> ?_)
  ·
   exact gX hJ1 rfl (by kernel_rfl)
  ·
   refine gA ?_
   refine gK (a3c _ _) rfl rfl rfl fun v11=> ?_
   exact gX hJ1 rfl (by kernel_rfl)
 refine gC rfl (fun _=> ?_) (fun _=> ?_)
 ·
  exact gR rfl rfl rfl
 ·
  refine gC rfl (fun _=> ?_) (fun _=> ?_)
  ·
   exact gR rfl rfl rfl
  ·
   refine gC rfl (fun _=> ?_) (fun _=> ?_)
   ·
    refine gHs [(6,(pL [] (.two 0 2 (pL [] (.two 1 2 (pL [5,7,9,11] .nil) (pL [3,7,9,11] .nil))) (pL [1,3,7,9,11] .nil))))] rfl (by kernel_rfl) rfl rfl fun Ky=> ?_
    refine gH2 rfl ?_ ?_
    all_goals
     try refine gH2 rfl ?_ ?_
     all_goals
      refine gK (b2z _ _) rfl rfl rfl fun v3=> ?_
      refine gK (b2z _ _) rfl rfl rfl fun v4=> ?_
      refine gHe rfl ?_
      refine gK (c2u _ _ _) rfl rfl rfl fun v5=> ?_
      refine gK (b9k _ _ _) rfl rfl rfl fun v6=> ?_
      refine gK (b9k _ _ _) rfl rfl rfl fun v7=> ?_
      exact gR rfl rfl rfl
   ·
    refine gK (c2u _ _ _) rfl rfl rfl fun v8=> ?_
    refine gK (b9k _ _ _) rfl rfl rfl fun v9=> ?_
    refine gK (b9k _ _ _) rfl rfl rfl fun v10=> ?_
    exact gR rfl rfl rfl
theorem d9h(n:Nat)(p1:Int)(q1:Int):FnC Wt 78 [.int .i64 p1,.int .i64 q1] (c2q n p1 q1) (fun r=> .tup [.agg [.int .i64 r.1.P.Sign,.sl 2 r.1.P.Digits,.int .i64 r.1.Q.Sign,.sl 2 r.1.Q.Digits],.int .i64 r.2]):=by
 refine a0z (n:=13) Tryz.func78 rfl rfl rfl (fun _ _=>by kernel_rfl) fun F0 w0 r=> ?_
 unfold c2q
 refine gK (c1v _ _) rfl rfl rfl fun v1=> ?_
 refine gK (c1v _ _) rfl rfl rfl fun v2=> ?_
 refine gK (b6j _ _ _) rfl rfl rfl fun v3=> ?_
 exact gR rfl rfl rfl
theorem a5y(n:Nat)(nx1:Int):FnC Wt 38 [.int .i64 nx1] (a3q n nx1) (fun r=> .agg [.int .i64 r.P.Sign,.sl 2 r.P.Digits,.int .i64 r.Q.Sign,.sl 2 r.Q.Digits]):=by
 refine a0z (n:=7) Tryz.func38 rfl rfl rfl (fun _ _=>by kernel_rfl) fun F0 w0 r=> ?_
 unfold a3q
 refine gK (c1v _ _) rfl rfl rfl fun v1=> ?_
 refine gK (c1v _ _) rfl rfl rfl fun v2=> ?_
 exact gR rfl rfl rfl
theorem a5n(n:Nat)(ax1:Big)(b1:Big):FnC Wt 104 [.agg [.int .i64 ax1.Sign,.sl 2 ax1.Digits],.agg [.int .i64 b1.Sign,.sl 2 b1.Digits]] (a3m n ax1 b1) (fun r=> .agg [.int .i64 r.Sign,.sl 2 r.Digits]):=by
 refine a0z (n:=14) Tryz.func104 rfl rfl rfl (fun _ _=>by kernel_rfl) fun F0 w0 r=> ?_
 unfold a3m
 refine gK (d9w _ _ _) rfl rfl rfl fun v1=> ?_
 exact gR rfl rfl rfl
theorem b6f(n:Nat)(ax1:Frac)(b1:Frac):FnC Wt 101 [.agg [.int .i64 ax1.P.Sign,.sl 2 ax1.P.Digits,.int .i64 ax1.Q.Sign,.sl 2 ax1.Q.Digits],.agg [.int .i64 b1.P.Sign,.sl 2 b1.P.Digits,.int .i64 b1.Q.Sign,.sl 2 b1.Q.Digits]] (b2i n ax1 b1) (fun r=> .tup [.agg [.int .i64 r.1.P.Sign,.sl 2 r.1.P.Digits,.int .i64 r.1.Q.Sign,.sl 2 r.1.Q.Digits],.int .i64 r.2]):=by
 refine a0z (n:=40) Tryz.func101 rfl rfl rfl (fun _ _=>by kernel_rfl) fun F0 w0 r=> ?_
 unfold b2i
 refine gK (a2e _ _) rfl rfl rfl fun v1=> ?_
 refine gJ 4 (fun v2=> [.v 15 (.ob v2)]) rfl (fun _=>rfl) (fun J1 hJ1=> ?_) (fun v2=> ?_)
 ·
  refine gD rfl (fun _=> ?_) (fun _=> ?_)
  ·
   exact gX hJ1 rfl (by kernel_rfl)
  ·
   refine gA ?_
   refine gK (a2e _ _) rfl rfl rfl fun v8=> ?_
   exact gX hJ1 rfl (by kernel_rfl)
 refine gC rfl (fun _=> ?_) (fun _=> ?_)
 ·
  exact gR rfl rfl rfl
 ·
  refine gA ?_
  refine gHs [(3,(pL [0,2,4,6,10,12,14,16] (.two 4 14 (pL [] (.two 9 14 (pL [] (.two 10 14 (pL [22,24,26,29,31,33] .nil) (pL [21,23,24,26,31,33] .nil))) (pL [19,21,23,24,26,31,33] .nil))) (pL [9,19,21,23,24,26,31,33] .nil)))),(4,(pL [0,2,4,6,8,11,13,14,17,19,21] .nil))] rfl (by kernel_rfl) rfl rfl fun Ky=> ?_
  refine gH2 rfl ?_ ?_
  all_goals
   refine gK (a5n _ _ _) rfl rfl rfl fun v5=> ?_
   refine gA ?_
   try refine gH2 rfl ?_ ?_
   all_goals
    refine gK (a5n _ _ _) rfl rfl rfl fun v6=> ?_
    refine gA ?_
    try refine gH2 rfl ?_ ?_
    all_goals
     refine gK (e0g _ _ _) rfl rfl rfl fun v7=> ?_
     refine gB ?_
     refine gHe rfl ?_
     refine gHs [(3,(pL [0,2,4,6,10,12,14,16] (.two 4 14 (pL [] (.two 9 14 (pL [] (.two 10 14 (pL [22,24,26,29,31,33] .nil) (pL [21,23,24,26,31,33] .nil))) (pL [19,21,23,24,26,31,33] .nil))) (pL [9,19,21,23,24,26,31,33] .nil)))),(4,(pL [0,2,4,6,8,11,13,14,17,19,21] .nil))] rfl (by kernel_rfl) rfl rfl fun Ky=> ?_
     refine gK (a5n _ _ _) rfl rfl rfl fun v3=> ?_
     refine gK (b6j _ _ _) rfl rfl rfl fun v4=> ?_
     refine gHe rfl ?_
     exact gR rfl rfl rfl
theorem d4w(n:Nat)(ax1:Frac)(b1:Frac):FnC Wt 172 [.agg [.int .i64 ax1.P.Sign,.sl 2 ax1.P.Digits,.int .i64 ax1.Q.Sign,.sl 2 ax1.Q.Digits],.agg [.int .i64 b1.P.Sign,.sl 2 b1.P.Digits,.int .i64 b1.Q.Sign,.sl 2 b1.Q.Digits]] (b9i n ax1 b1) (fun r=> .tup [.agg [.int .i64 r.1.P.Sign,.sl 2 r.1.P.Digits,.int .i64 r.1.Q.Sign,.sl 2 r.1.Q.Digits],.int .i64 r.2]):=by
 refine a0z (n:=25) Tryz.func172 rfl rfl rfl (fun _ _=>by kernel_rfl) fun F0 w0 r=> ?_
 unfold b9i
 refine gK (a2e _ _) rfl rfl rfl fun v1=> ?_
 refine gJ 4 (fun v2=> [.v 13 (.ob v2)]) rfl (fun _=>rfl) (fun J1 hJ1=> ?_) (fun v2=> ?_)
 ·
  refine gD rfl (fun _=> ?_) (fun _=> ?_)
  ·
   exact gX hJ1 rfl (by kernel_rfl)
  ·
   refine gA ?_
   refine gK (a2e _ _) rfl rfl rfl fun v5=> ?_
   exact gX hJ1 rfl (by kernel_rfl)
 refine gC rfl (fun _=> ?_) (fun _=> ?_)
 ·
  exact gR rfl rfl rfl
 ·
  refine gHs [(3,(pL [0,2,4,8,10,7,13,15,16,19,21,23] .nil))] rfl (by kernel_rfl) rfl rfl fun Ky=> ?_
  refine gK (b2z _ _) rfl rfl rfl fun v3=> ?_
  refine gK (b6f _ _ _) rfl rfl rfl fun v4=> ?_
  refine gHe rfl ?_
  exact gR rfl rfl rfl
theorem c0s(n:Nat)(ax1:Frac)(b1:Frac):FnC Wt 100 [.agg [.int .i64 ax1.P.Sign,.sl 2 ax1.P.Digits,.int .i64 ax1.Q.Sign,.sl 2 ax1.Q.Digits],.agg [.int .i64 b1.P.Sign,.sl 2 b1.P.Digits,.int .i64 b1.Q.Sign,.sl 2 b1.Q.Digits]] (b3l n ax1 b1) (fun r=> .tup [.agg [.int .i64 r.1.P.Sign,.sl 2 r.1.P.Digits,.int .i64 r.1.Q.Sign,.sl 2 r.1.Q.Digits],.int .i64 r.2]):=by
 refine a0z (n:=28) Tryz.func100 rfl rfl rfl (fun _ _=>by kernel_rfl) fun F0 w0 r=> ?_
 unfold b3l
 refine gK (a2e _ _) rfl rfl rfl fun v1=> ?_
 refine gJ 4 (fun v2=> [.v 13 (.ob v2)]) rfl (fun _=>rfl) (fun J1 hJ1=> ?_) (fun v2=> ?_)
 ·
  refine gD rfl (fun _=> ?_) (fun _=> ?_)
  ·
   exact gX hJ1 rfl (by kernel_rfl)
  ·
   refine gA ?_
   refine gK (a2e _ _) rfl rfl rfl fun v6=> ?_
   exact gX hJ1 rfl (by kernel_rfl)
 refine gC rfl (fun _=> ?_) (fun _=> ?_)
 ·
  exact gR rfl rfl rfl
 ·
  refine gHs [(3,(pL [0,2,4,6,10,12,14,16,9,19,21,22,25,27,29] .nil))] rfl (by kernel_rfl) rfl rfl fun Ky=> ?_
  refine gK (a5n _ _ _) rfl rfl rfl fun v3=> ?_
  refine gK (a5n _ _ _) rfl rfl rfl fun v4=> ?_
  refine gK (b6j _ _ _) rfl rfl rfl fun v5=> ?_
  refine gHe rfl ?_
  exact gR rfl rfl rfl
theorem d4y(n:Nat)(ax1:Frac)(b1:Frac):FnC Wt 173 [.agg [.int .i64 ax1.P.Sign,.sl 2 ax1.P.Digits,.int .i64 ax1.Q.Sign,.sl 2 ax1.Q.Digits],.agg [.int .i64 b1.P.Sign,.sl 2 b1.P.Digits,.int .i64 b1.Q.Sign,.sl 2 b1.Q.Digits]] (b9b n ax1 b1) (fun r=> .tup [.agg [.int .i64 r.1.P.Sign,.sl 2 r.1.P.Digits,.int .i64 r.1.Q.Sign,.sl 2 r.1.Q.Digits],.int .i64 r.2]):=by
 refine a0z (n:=35) Tryz.func173 rfl rfl rfl (fun _ _=>by kernel_rfl) fun F0 w0 r=> ?_
 unfold b9b
 refine gK (a2e _ _) rfl rfl rfl fun v1=> ?_
 refine gJ 4 (fun v2=> [.v 14 (.ob v2)]) rfl (fun _=>rfl) (fun J1 hJ1=> ?_) (fun v2=> ?_)
 ·
  refine gD rfl (fun _=> ?_) (fun _=> ?_)
  ·
   exact gX hJ1 rfl (by kernel_rfl)
  ·
   refine gA ?_
   refine gK (a2e _ _) rfl rfl rfl fun v6=> ?_
   exact gX hJ1 rfl (by kernel_rfl)
 refine gC rfl (fun _=> ?_) (fun _=> ?_)
 ·
  exact gR rfl rfl rfl
 ·
  refine gC rfl (fun _=> ?_) (fun _=> ?_)
  ·
   exact gR rfl rfl rfl
  ·
   refine gHs [(5,(pL [0,2,4,6,10,12,14,16,9,19,21,22,25,27,29] .nil))] rfl (by kernel_rfl) rfl rfl fun Ky=> ?_
   refine gK (a5n _ _ _) rfl rfl rfl fun v3=> ?_
   refine gK (a5n _ _ _) rfl rfl rfl fun v4=> ?_
   refine gK (b6j _ _ _) rfl rfl rfl fun v5=> ?_
   refine gHe rfl ?_
   exact gR rfl rfl rfl
theorem b8f(n:Nat)(ax1:Big):FnC Wt 167 [.agg [.int .i64 ax1.Sign,.sl 2 ax1.Digits]] (b1e n ax1) (fun r=> .agg [.int .i64 r.Sign,.sl 2 r.Digits]):=by
 refine a0z (n:=6) Tryz.func167 rfl rfl rfl (fun _ _=>by kernel_rfl) fun F0 w0 r=> ?_
 unfold b1e
 refine gK (b2z _ _) rfl rfl rfl fun v1=> ?_
 refine gK (b2z _ _) rfl rfl rfl fun v2=> ?_
 exact gR rfl rfl rfl
theorem d4s(n:Nat)(f1:Frac):FnC Wt 144 [.agg [.int .i64 f1.P.Sign,.sl 2 f1.P.Digits,.int .i64 f1.Q.Sign,.sl 2 f1.Q.Digits]] (b9o n f1) (fun r=> .agg [.int .i64 r.P.Sign,.sl 2 r.P.Digits,.int .i64 r.Q.Sign,.sl 2 r.Q.Digits]):=by
 refine a0z (n:=14) Tryz.func144 rfl rfl rfl (fun _ _=>by kernel_rfl) fun F0 w0 r=> ?_
 unfold b9o
 refine gK (a2e _ _) rfl rfl rfl fun v1=> ?_
 refine gC rfl (fun _=> ?_) (fun _=> ?_)
 ·
  exact gR rfl rfl rfl
 ·
  refine gHs [(3,(pL [0,2,6,8,5,11,13,15] .nil))] rfl (by kernel_rfl) rfl rfl fun Ky=> ?_
  refine gK (b2z _ _) rfl rfl rfl fun v2=> ?_
  refine gK (b8f _ _) rfl rfl rfl fun v3=> ?_
  refine gHe rfl ?_
  exact gR rfl rfl rfl
theorem b7t(n:Nat)(f1:Frac):FnC Wt 108 [.agg [.int .i64 f1.P.Sign,.sl 2 f1.P.Digits,.int .i64 f1.Q.Sign,.sl 2 f1.Q.Digits]] (b2a n f1) (fun r=> .int .i64 r):=by
 refine a0z (n:=9) Tryz.func108 rfl rfl rfl (fun _ _=>by kernel_rfl) fun F0 w0 r=> ?_
 unfold b2a
 refine gK (a2e _ _) rfl rfl rfl fun v1=> ?_
 refine gC rfl (fun _=> ?_) (fun _=> ?_)
 ·
  exact gR rfl rfl rfl
 ·
  exact gR rfl rfl rfl
theorem b2s(n:Nat)(ax1:Frac)(b1:Frac):FnC Wt 49 [.agg [.int .i64 ax1.P.Sign,.sl 2 ax1.P.Digits,.int .i64 ax1.Q.Sign,.sl 2 ax1.Q.Digits],.agg [.int .i64 b1.P.Sign,.sl 2 b1.P.Digits,.int .i64 b1.Q.Sign,.sl 2 b1.Q.Digits]] (a7h n ax1 b1) (fun r=> .int .i64 r):=by
 refine a0z (n:=24) Tryz.func49 rfl rfl rfl (fun _ _=>by kernel_rfl) fun F0 w0 r=> ?_
 unfold a7h
 refine gK (a2e _ _) rfl rfl rfl fun v1=> ?_
 refine gJ 4 (fun v2=> [.v 12 (.ob v2)]) rfl (fun _=>rfl) (fun J1 hJ1=> ?_) (fun v2=> ?_)
 ·
  refine gD rfl (fun _=> ?_) (fun _=> ?_)
  ·
   exact gX hJ1 rfl (by kernel_rfl)
  ·
   refine gA ?_
   refine gK (a2e _ _) rfl rfl rfl fun v6=> ?_
   exact gX hJ1 rfl (by kernel_rfl)
 refine gC rfl (fun _=> ?_) (fun _=> ?_)
 ·
  exact gR rfl rfl rfl
 ·
  refine gHs [(3,(pL [0,2,4,6,10,12,14,16,9,19,21,23] .nil))] rfl (by kernel_rfl) rfl rfl fun Ky=> ?_
  refine gK (a5n _ _ _) rfl rfl rfl fun v3=> ?_
  refine gK (a5n _ _ _) rfl rfl rfl fun v4=> ?_
  refine gK (c7q _ _ _) rfl rfl rfl fun v5=> ?_
  refine gHe rfl ?_
  exact gR rfl rfl rfl
theorem b8s(n:Nat)(ax1:Frac)(b1:Frac)(sign1:Int):FnC Wt 102 [.agg [.int .i64 ax1.P.Sign,.sl 2 ax1.P.Digits,.int .i64 ax1.Q.Sign,.sl 2 ax1.Q.Digits],.agg [.int .i64 b1.P.Sign,.sl 2 b1.P.Digits,.int .i64 b1.Q.Sign,.sl 2 b1.Q.Digits],.int .i64 sign1] (a9r n ax1 b1 sign1) (fun r=> .tup [.agg [.int .i64 r.1.P.Sign,.sl 2 r.1.P.Digits,.int .i64 r.1.Q.Sign,.sl 2 r.1.Q.Digits],.int .i64 r.2]):=by
 refine a0z (n:=31) Tryz.func102 rfl rfl rfl (fun _ _=>by kernel_rfl) fun F0 w0 r=> ?_
 unfold a9r
 refine gK (a2e _ _) rfl rfl rfl fun v1=> ?_
 refine gJ 4 (fun v2=> [.v 15 (.ob v2)]) rfl (fun _=>rfl) (fun J1 hJ1=> ?_) (fun v2=> ?_)
 ·
  refine gD rfl (fun _=> ?_) (fun _=> ?_)
  ·
   exact gX hJ1 rfl (by kernel_rfl)
  ·
   refine gA ?_
   refine gK (a2e _ _) rfl rfl rfl fun v6=> ?_
   exact gX hJ1 rfl (by kernel_rfl)
 refine gC rfl (fun _=> ?_) (fun _=> ?_)
 ·
  exact gR rfl rfl rfl
 ·
  refine gK (b2s _ _ _) rfl rfl rfl fun v3=> ?_
  refine gM (fun j2=> [.b 3 [.int .i64 j2.1,.sl 2 j2.2.1,.int .i64 j2.2.2.1,.sl 2 j2.2.2.2]]) rfl (fun _=>rfl) (fun J2 hJ2=> ?_) (fun j2=> ?_)
  ·
   refine gD rfl (fun _=> ?_) (fun _=> ?_)
   ·
    exact gX hJ2 rfl (by kernel_rfl)
   ·
    exact gX hJ2 rfl (by kernel_rfl)
  obtain⟨f1,f2,f3,f4⟩:=j2;dsimp only
  refine gHs [(5,(pL [0,2,6,8,5,11,13,15,17] .nil))] rfl (by kernel_rfl) rfl rfl fun Ky=> ?_
  refine gK (b8f _ _) rfl rfl rfl fun v4=> ?_
  refine gK (b8f _ _) rfl rfl rfl fun v5=> ?_
  refine gHe rfl ?_
  exact gR rfl rfl rfl
theorem d5k(n:Nat)(ax1:Frac)(b1:Frac):FnC Wt 174 [.agg [.int .i64 ax1.P.Sign,.sl 2 ax1.P.Digits,.int .i64 ax1.Q.Sign,.sl 2 ax1.Q.Digits],.agg [.int .i64 b1.P.Sign,.sl 2 b1.P.Digits,.int .i64 b1.Q.Sign,.sl 2 b1.Q.Digits]] (b9v n ax1 b1) (fun r=> .tup [.agg [.int .i64 r.1.P.Sign,.sl 2 r.1.P.Digits,.int .i64 r.1.Q.Sign,.sl 2 r.1.Q.Digits],.int .i64 r.2]):=by
 refine a0z (n:=11) Tryz.func174 rfl rfl rfl (fun _ _=>by kernel_rfl) fun F0 w0 r=> ?_
 unfold b9v
 refine gK (b8s _ _ _ _) rfl rfl rfl fun v1=> ?_
 exact gR rfl rfl rfl
theorem c5z(n:Nat)(ax1:Frac)(b1:Frac):FnC Wt 48 [.agg [.int .i64 ax1.P.Sign,.sl 2 ax1.P.Digits,.int .i64 ax1.Q.Sign,.sl 2 ax1.Q.Digits],.agg [.int .i64 b1.P.Sign,.sl 2 b1.P.Digits,.int .i64 b1.Q.Sign,.sl 2 b1.Q.Digits]] (b6n n ax1 b1) (fun r=> .tup [.agg [.int .i64 r.1.P.Sign,.sl 2 r.1.P.Digits,.int .i64 r.1.Q.Sign,.sl 2 r.1.Q.Digits],.int .i64 r.2]):=by
 refine a0z (n:=11) Tryz.func48 rfl rfl rfl (fun _ _=>by kernel_rfl) fun F0 w0 r=> ?_
 unfold b6n
 refine gK (b8s _ _ _ _) rfl rfl rfl fun v1=> ?_
 exact gR rfl rfl rfl
theorem c8s(n:Nat):∀(x1:Expr)(nx1:Int)(levels1:Int),FnC Wt 67 [.agg [.int .i64 x1.Op,.int .i64 x1.N,.str x1.Name,.sl 0 x1.Args],.int .i64 nx1,.int .i64 levels1] (ref35_size n x1 nx1 levels1) (fun r=> .int .i64 r):=by
 induction n with
 |zero=>exact fun _ _ _=>b4a (fun _ _=>by kernel_rfl)
 |succ n ih=>
  intro x1 nx1 levels1
  refine a0z (n:=33) Tryz.func67 rfl rfl rfl (fun _ _=>by kernel_rfl) fun F0 w0 r=> ?_
  rw [ref35_size_s]
  refine gC rfl (fun _=> ?_) (fun _=> ?_)
  ·
   exact gR rfl rfl rfl
  ·
   refine a2r ((fun k0 m(s:Int×Int)=>ref35_size_L1 n (ref35_size n) x1 levels1 k0 m s.1 s.2) _) (fun(s:Int×Int)=> [.v 1 (.int .i64 s.1),.v 7 (.int .i64 s.2)]) (fun _=>rfl) (_,_) rfl rfl (fun _=>rfl) rfl fun K1 m1 hK1 z1=> ?_
   obtain⟨nx2,i1⟩:=z1;dsimp only
   refine gJ 3 (fun v1=> [.v 20 (.ob v1)]) rfl (fun _=>rfl) (fun J2 hJ2=> ?_) (fun v1=> ?_)
   ·
    refine gD rfl (fun _=> ?_) (fun _=> ?_)
    ·
     exact gX hJ2 rfl (by kernel_rfl)
    ·
     exact gX hJ2 rfl (by kernel_rfl)
   refine gC rfl (fun _=> ?_) (fun _=> ?_)
   ·
    refine gV rfl fun ex1=> ?_
    refine gK (ih _ _ _) rfl rfl rfl fun v2=> ?_
    exact gE hK1 (_,_) rfl (by kernel_rfl)
   ·
    exact gR rfl rfl rfl
theorem b7v(n:Nat)(x1:Expr)(nodes1:Int)(levels1:Int):FnC Wt 28 [.agg [.int .i64 x1.Op,.int .i64 x1.N,.str x1.Name,.sl 0 x1.Args],.int .i64 nodes1,.int .i64 levels1] (a7c n x1 nodes1 levels1) (fun r=> .ob r):=by
 refine a0z (n:=12) Tryz.func28 rfl rfl rfl (fun _ _=>by kernel_rfl) fun F0 w0 r=> ?_
 unfold a7c
 refine gK (c8s _ _ _ _) rfl rfl rfl fun v1=> ?_
 exact gR rfl rfl rfl
theorem b7j(n:Nat):∀(x1:Expr)(levels1:Int)(left1:Int),FnL Wt 129 3 [.int .i64 left1] [.agg [.int .i64 x1.Op,.int .i64 x1.N,.str x1.Name,.sl 0 x1.Args],.int .i64 levels1,.bx 0 0] (tariff_sized n x1 levels1 left1) (fun r=> [.int .i64 r.1]) (fun r=> .ob r.2):=by
 induction n with
 |zero=>exact fun _ _ _=>d2z (fun _ _=>by kernel_rfl)
 |succ n ih=>
  intro x1 levels1 left1
  refine b0p (n:=36) Tryz.func129 rfl rfl rfl (fun _ _=>by kernel_rfl) fun F0 w0 b r=> ?_
  rw [tariff_sized_s]
  refine gJ 5 (fun v1=> [.v 21 (.ob v1)]) rfl (fun _=>rfl) (fun J1 hJ1=> ?_) (fun v1=> ?_)
  ·
   refine gD rfl (fun _=> ?_) (fun _=> ?_)
   ·
    exact gX hJ1 rfl (by kernel_rfl)
   ·
    exact gX hJ1 rfl (by kernel_rfl)
  refine gC rfl (fun _=> ?_) (fun _=> ?_)
  ·
   exact gRL rfl rfl rfl rfl rfl
  ·
   refine a2r ((fun k0 m(s:Int×Int)=>tariff_sized_L1 n (tariff_sized n) x1 levels1 k0 m s.1 s.2) _) (fun(s:Int×Int)=> [.b 2 [.int .i64 s.2],.v 25 (.int .i64 s.1)]) (fun _=>rfl) (_,_) rfl rfl (fun _=>rfl) rfl fun K2 m2 hK2 z2=> ?_
   obtain⟨i1,f1⟩:=z2;dsimp only
   refine gC rfl (fun _=> ?_) (fun _=> ?_)
   ·
    refine gV rfl fun ex1=> ?_
    refine gN (ih _ _ _) rfl rfl rfl rfl rfl fun v2=> ?_
    refine gC rfl (fun _=> ?_) (fun _=> ?_)
    ·
     exact gRL rfl rfl rfl rfl rfl
    ·
     exact gE hK2 (_,_) rfl (by kernel_rfl)
   ·
    exact gRL rfl rfl rfl rfl rfl
theorem a4n(n:Nat)(s1:(List Bs))(v1:Bs):FnC Wt 76 [.sl 1 s1,.str v1] (a0o n s1 v1) (fun r=> .int .i64 r):=by
 refine a0z (n:=19) Tryz.func76 rfl rfl rfl (fun _ _=>by kernel_rfl) fun F0 w0 r=> ?_
 unfold a0o
 refine a2r ((fun k0 m(s:Int)=>slices_Index_string_string_L1 n s1 v1 k0 m s) _) (fun(s:Int)=> [.v 8 (.int .i64 s)]) (fun _=>rfl) _ rfl rfl (fun _=>rfl) rfl fun K1 m1 hK1 i1=> ?_
 refine gC rfl (fun _=> ?_) (fun _=> ?_)
 ·
  refine gV rfl fun ex1=> ?_
  refine gC rfl (fun _=> ?_) (fun _=> ?_)
  ·
   exact gR rfl rfl rfl
  ·
   exact gE hK1 _ rfl (by kernel_rfl)
 ·
  exact gR rfl rfl rfl
theorem a3y(n:Nat)(s1:(List Bs))(v1:Bs):FnC Wt 114 [.sl 1 s1,.str v1] (a0u n s1 v1) (fun r=> .ob r):=by
 refine a0z (n:=9) Tryz.func114 rfl rfl rfl (fun _ _=>by kernel_rfl) fun F0 w0 r=> ?_
 unfold a0u
 refine gK (a4n _ _ _) rfl rfl rfl fun v2=> ?_
 exact gR rfl rfl rfl
theorem b7l(n:Nat)(l1:(List Bs)):FnC Wt 54 [.sl 1 l1] (b0g n l1) (fun r=> .ob r):=by
 refine a0z (n:=26) Tryz.func54 rfl rfl rfl (fun _ _=>by kernel_rfl) fun F0 w0 r=> ?_
 unfold b0g
 refine a2r ((fun k0 m(s:Int)=>tariff_named_L1 n l1 k0 m s) _) (fun(s:Int)=> [.v 7 (.int .i64 s)]) (fun _=>rfl) _ rfl rfl (fun _=>rfl) rfl fun K1 m1 hK1 i1=> ?_
 refine gC rfl (fun _=> ?_) (fun _=> ?_)
 ·
  refine gV rfl fun ex1=> ?_
  refine gK (b2j _ _) rfl rfl rfl fun v1=> ?_
  refine gJ 6 (fun v2=> [.v 21 (.ob v2)]) rfl (fun _=>rfl) (fun J2 hJ2=> ?_) (fun v2=> ?_)
  ·
   refine gD rfl (fun _=> ?_) (fun _=> ?_)
   ·
    exact gX hJ2 rfl (by kernel_rfl)
   ·
    refine gA ?_
    refine gV rfl fun l2=> ?_
    refine gA ?_
    refine gK (a3y _ _ _) rfl rfl rfl fun v3=> ?_
    exact gX hJ2 rfl (by kernel_rfl)
  refine gC rfl (fun _=> ?_) (fun _=> ?_)
  ·
   exact gR rfl rfl rfl
  ·
   exact gE hK1 _ rfl (by kernel_rfl)
 ·
  exact gR rfl rfl rfl
theorem b0u(n:Nat)(ax1:Int)(b1:Int):FnC Wt 116 [.int .i64 ax1,.int .i64 b1] (a1e n ax1 b1) (fun r=> .tup [.int .i64 r.1,.int .i64 r.2]):=by
 refine a0z (n:=20) Tryz.func116 rfl rfl rfl (fun _ _=>by kernel_rfl) fun F0 w0 r=> ?_
 unfold a1e
 refine gJ 3 (fun v1=> [.v 12 (.ob v1)]) rfl (fun _=>rfl) (fun J1 hJ1=> ?_) (fun v1=> ?_)
 ·
  refine gD rfl (fun _=> ?_) (fun _=> ?_)
  ·
   exact gX hJ1 rfl (by kernel_rfl)
  ·
   exact gX hJ1 rfl (by kernel_rfl)
 refine gC rfl (fun _=> ?_) (fun _=> ?_)
 ·
  exact gR rfl rfl rfl
 ·
  refine gJ 3 (fun v2=> [.v 19 (.ob v2)]) rfl (fun _=>rfl) (fun J2 hJ2=> ?_) (fun v2=> ?_)
  ·
   refine gD rfl (fun _=> ?_) (fun _=> ?_)
   ·
    exact gX hJ2 rfl (by kernel_rfl)
   ·
    exact gX hJ2 rfl (by kernel_rfl)
  refine gC rfl (fun _=> ?_) (fun _=> ?_)
  ·
   exact gR rfl rfl rfl
  ·
   exact gR rfl rfl rfl
theorem c7a(n:Nat)(op1:Int):FnC Wt 183 [.int .i64 op1] (a9s n op1) (fun r=> .int .i64 r):=by
 refine a0z (n:=12) Tryz.func183 rfl rfl rfl (fun _ _=>by kernel_rfl) fun F0 w0 r=> ?_
 unfold a9s
 refine gC rfl (fun _=> ?_) (fun _=> ?_)
 ·
  exact gR rfl rfl rfl
 ·
  refine gC rfl (fun _=> ?_) (fun _=> ?_)
  ·
   exact gR rfl rfl rfl
  ·
   refine gC rfl (fun _=> ?_) (fun _=> ?_)
   ·
    exact gR rfl rfl rfl
   ·
    exact gR rfl rfl rfl
theorem c4r(n:Nat)(nx1:Int)(cap1:Int):FnC Wt 178 [.int .i64 nx1,.fb [.int .i64 cap1] 0] (b2o n nx1 cap1) (fun r=> .ob r):=by
 refine a0z (n:=7) Tryz.func178 rfl rfl rfl (fun _ _=>by kernel_rfl) fun F0 w0 r=> ?_
 unfold b2o
 exact gR rfl rfl rfl
theorem b2b(n:Nat)(s1:(List Int))(f1:(Int->Option Bool)):FnH Wt 171 [.sl 2 s1] ⟨Int,Bool,fun q=> [.int .i64 q],fun q=>f1 q,fun r=> .ob r⟩ (a4e n s1 f1) (fun r=> .int .i64 r):=by
 refine b2v (n:=19) Tryz.func171 rfl rfl rfl (fun _ _=>by kernel_rfl) fun F0 w0 r u=> ?_
 unfold a4e
 refine a2r ((fun k0 m(s:Int)=>slices_IndexFunc_int_int_L1 n s1 f1 k0 m s) _) (fun(s:Int)=> [.v 8 (.int .i64 s)]) (fun _=>rfl) _ rfl rfl (fun _=>rfl) rfl fun K1 m1 hK1 i1=> ?_
 refine gC rfl (fun _=> ?_) (fun _=> ?_)
 ·
  refine gV rfl fun ex1=> ?_
  refine gKv (T:=Wt) (Φ:=⟨Int,Bool,fun q=> [.int .i64 q],fun q=>f1 q,fun r=> .ob r⟩) (u:=u) ex1 rfl rfl rfl fun v1=> ?_
  refine gC rfl (fun _=> ?_) (fun _=> ?_)
  ·
   exact gR rfl rfl rfl
  ·
   exact gE hK1 _ rfl (by kernel_rfl)
 ·
  exact gR rfl rfl rfl
theorem a6m(n:Nat)(s1:(List Int))(f1:(Int->Option Bool)):FnH Wt 109 [.sl 2 s1] ⟨Int,Bool,fun q=> [.int .i64 q],fun q=>f1 q,fun r=> .ob r⟩ (a1w n s1 f1) (fun r=> .ob r):=by
 refine b2v (n:=9) Tryz.func109 rfl rfl rfl (fun _ _=>by kernel_rfl) fun F0 w0 r u=> ?_
 unfold a1w
 refine gKh (FnH.up (b2b n _ f1)) rfl rfl rfl b6k fun v1=> ?_
 exact gR rfl rfl rfl
theorem b0e(n:Nat)(k1:Int)(l1:(List Int))(want1:Int):FnC Wt 115 [.int .i64 k1,.sl 2 l1,.int .i64 want1] (a3j n k1 l1 want1) (fun r=> .tup [.int .i64 r.1,.int .i64 r.2]):=by
 refine a0z (n:=12) Tryz.func115 rfl rfl rfl (fun _ _=>by kernel_rfl) fun F0 w0 r=> ?_
 unfold a3j
 refine gFc rfl rfl ?_
 refine gKh (a6m n _ (fun(q0:Int)=>b2o n q0 want1)) rfl rfl rfl (fvA rfl rfl (fun q=>c4r n q want1) default) fun v1=> ?_
 refine gC rfl (fun _=> ?_) (fun _=> ?_)
 ·
  exact gR rfl rfl rfl
 ·
  exact gR rfl rfl rfl
theorem b7h(n:Nat):∀(x1:Expr)(names1:(List Bs)),FnC Wt 56 [.agg [.int .i64 x1.Op,.int .i64 x1.N,.str x1.Name,.sl 0 x1.Args],.sl 1 names1] (tariff_typed n x1 names1) (fun r=> .tup [.int .i64 r.1,.int .i64 r.2]):=by
 induction n with
 |zero=>exact fun _ _=>b4a (fun _ _=>by kernel_rfl)
 |succ n ih=>
  intro x1 names1
  refine a0z (n:=113) Tryz.func56 rfl rfl rfl (fun _ _=>by kernel_rfl) fun F0 w0 r=> ?_
  rw [tariff_typed_s]
  refine a2r ((fun k0 m(s:Int×List Int)=>tariff_typed_L1 n (tariff_typed n) x1 names1 k0 m s.1 s.2) _) (fun(s:Int×List Int)=> [.r 6 2 s.2,.v 15 (.int .i64 s.1)]) (fun _=>rfl) (_,_) rfl rfl (fun _=>rfl) rfl fun K1 m1 hK1 z1=> ?_
  obtain⟨i1,l1⟩:=z1;dsimp only
  refine gC rfl (fun _=> ?_) (fun _=> ?_)
  ·
   refine gV rfl fun ex13=> ?_
   refine gK (ih _ _) rfl rfl rfl fun v13=> ?_
   refine gC rfl (fun _=> ?_) (fun _=> ?_)
   ·
    exact gR rfl rfl rfl
   ·
    refine gP rfl fun l3=> ?_
    exact gE hK1 (_,_) rfl (by kernel_rfl)
  ·
   refine gD rfl (fun _=> ?_) (fun _=> ?_)
   ·
    refine gB ?_
    refine gT ?_
    refine gK (a3y _ _ _) rfl rfl rfl fun v2=> ?_
    refine gC rfl (fun _=> ?_) (fun _=> ?_)
    ·
     exact gR rfl rfl rfl
    ·
     refine gC rfl (fun _=> ?_) (fun _=> ?_)
     ·
      exact gR rfl rfl rfl
     ·
      exact gR rfl rfl rfl
   ·
    refine gB ?_
    refine gC rfl (fun _=> ?_) (fun _=> ?_)
    ·
     refine gK (a3y _ _ _) rfl rfl rfl fun v2=> ?_
     refine gC rfl (fun _=> ?_) (fun _=> ?_)
     ·
      exact gR rfl rfl rfl
     ·
      refine gC rfl (fun _=> ?_) (fun _=> ?_)
      ·
       exact gR rfl rfl rfl
      ·
       exact gR rfl rfl rfl
    ·
     refine gD rfl (fun _=> ?_) (fun _=> ?_)
     ·
      refine gB ?_
      refine gT ?_
      exact gR rfl rfl rfl
     ·
      refine gD rfl (fun _=> ?_) (fun _=> ?_)
      ·
       refine gB ?_
       refine gT ?_
       exact gR rfl rfl rfl
      ·
       refine gB ?_
       refine gC rfl (fun _=> ?_) (fun _=> ?_)
       ·
        exact gR rfl rfl rfl
       ·
        refine gD rfl (fun _=> ?_) (fun _=> ?_)
        ·
         refine gB ?_
         refine gT ?_
         refine gK (b0e _ _ _ _) rfl rfl rfl fun v5=> ?_
         exact gR rfl rfl rfl
        ·
         refine gB ?_
         refine gC rfl (fun _=> ?_) (fun _=> ?_)
         ·
          refine gK (b0e _ _ _ _) rfl rfl rfl fun v5=> ?_
          exact gR rfl rfl rfl
         ·
          refine gD rfl (fun _=> ?_) (fun _=> ?_)
          ·
           refine gB ?_
           refine gT ?_
           refine gK (b0e _ _ _ _) rfl rfl rfl fun v7=> ?_
           exact gR rfl rfl rfl
          ·
           refine gD rfl (fun _=> ?_) (fun _=> ?_)
           ·
            refine gB ?_
            refine gT ?_
            refine gK (b0e _ _ _ _) rfl rfl rfl fun v7=> ?_
            exact gR rfl rfl rfl
           ·
            refine gB ?_
            refine gC rfl (fun _=> ?_) (fun _=> ?_)
            ·
             refine gK (b0e _ _ _ _) rfl rfl rfl fun v7=> ?_
             exact gR rfl rfl rfl
            ·
             refine gC rfl (fun _=> ?_) (fun _=> ?_)
             ·
              refine gV rfl fun ex1=> ?_
              refine gC rfl (fun _=> ?_) (fun _=> ?_)
              ·
               exact gR rfl rfl rfl
              ·
               refine gG rfl (by kernel_rfl) ?_
               refine gV rfl fun ex2=> ?_
               refine gV rfl fun ex3=> ?_
               refine gQ (b0u _ _ _) rfl rfl rfl (fun _=>rfl) fun v8=> ?_
               exact gR rfl rfl rfl
             ·
              refine gC rfl (fun _=> ?_) (fun _=> ?_)
              ·
               refine gV rfl fun ex4=> ?_
               refine gJ 5 (fun v9=> [.v 91 (.ob v9)]) rfl (fun _=>rfl) (fun J2 hJ2=> ?_) (fun v9=> ?_)
               ·
                refine gD rfl (fun _=> ?_) (fun _=> ?_)
                ·
                 refine gA ?_
                 refine gV rfl fun ex7=> ?_
                 exact gX hJ2 rfl (by kernel_rfl)
                ·
                 exact gX hJ2 rfl (by kernel_rfl)
               refine gC rfl (fun _=> ?_) (fun _=> ?_)
               ·
                exact gR rfl rfl rfl
               ·
                refine gG rfl (by kernel_rfl) ?_
                refine gV rfl fun ex5=> ?_
                refine gV rfl fun ex6=> ?_
                refine gQ (b0u _ _ _) rfl rfl rfl (fun _=>rfl) fun v10=> ?_
                exact gR rfl rfl rfl
              ·
               refine gC rfl (fun _=> ?_) (fun _=> ?_)
               ·
                refine gV rfl fun ex8=> ?_
                refine gC rfl (fun _=> ?_) (fun _=> ?_)
                ·
                 exact gR rfl rfl rfl
                ·
                 refine gC rfl (fun _=> ?_) (fun _=> ?_)
                 ·
                  exact gR rfl rfl rfl
                 ·
                  refine gG rfl (by kernel_rfl) ?_
                  refine gV rfl fun ex9=> ?_
                  refine gV rfl fun ex10=> ?_
                  refine gQ (b0u _ _ _) rfl rfl rfl (fun _=>rfl) fun v11=> ?_
                  exact gR rfl rfl rfl
               ·
                refine gG rfl (by kernel_rfl) ?_
                refine gV rfl fun ex11=> ?_
                refine gV rfl fun ex12=> ?_
                refine gQ (b0u _ _ _) rfl rfl rfl (fun _=>rfl) fun v12=> ?_
                exact gR rfl rfl rfl
theorem a8e(n:Nat)(s1:(List Expr))(f1:(Expr->Option Bool)):FnH Wt 215 [.sl 0 s1] ⟨Expr,Bool,fun q=> [.agg [.int .i64 q.Op,.int .i64 q.N,.str q.Name,.sl 0 q.Args]],fun q=>f1 q,fun r=> .ob r⟩ (a1i n s1 f1) (fun r=> .int .i64 r):=by
 refine b2v (n:=19) Tryz.func215 rfl rfl rfl (fun _ _=>by kernel_rfl) fun F0 w0 r u=> ?_
 unfold a1i
 refine a2r ((fun k0 m(s:Int)=>slices_IndexFunc_api_Expr_api_Expr_L1 n s1 f1 k0 m s) _) (fun(s:Int)=> [.v 8 (.int .i64 s)]) (fun _=>rfl) _ rfl rfl (fun _=>rfl) rfl fun K1 m1 hK1 i1=> ?_
 refine gC rfl (fun _=> ?_) (fun _=> ?_)
 ·
  refine gV rfl fun ex1=> ?_
  refine gKv (T:=Wt) (Φ:=⟨Expr,Bool,fun q=> [.agg [.int .i64 q.Op,.int .i64 q.N,.str q.Name,.sl 0 q.Args]],fun q=>f1 q,fun r=> .ob r⟩) (u:=u) ex1 rfl rfl rfl fun v1=> ?_
  refine gC rfl (fun _=> ?_) (fun _=> ?_)
  ·
   exact gR rfl rfl rfl
  ·
   exact gE hK1 _ rfl (by kernel_rfl)
 ·
  exact gR rfl rfl rfl
theorem a7b(n:Nat)(s1:(List Expr))(f1:(Expr->Option Bool)):FnH Wt 184 [.sl 0 s1] ⟨Expr,Bool,fun q=> [.agg [.int .i64 q.Op,.int .i64 q.N,.str q.Name,.sl 0 q.Args]],fun q=>f1 q,fun r=> .ob r⟩ (a0l n s1 f1) (fun r=> .ob r):=by
 refine b2v (n:=9) Tryz.func184 rfl rfl rfl (fun _ _=>by kernel_rfl) fun F0 w0 r u=> ?_
 unfold a0l
 refine gKh (FnH.up (a8e n _ f1)) rfl rfl rfl b6k fun v1=> ?_
 exact gR rfl rfl rfl
theorem c1o(n:Nat):(∀(x1:Expr),FnC Wt 130 [.agg [.int .i64 x1.Op,.int .i64 x1.N,.str x1.Name,.sl 0 x1.Args]] (tariff_shaped n x1) (fun r=> .ob r))/\(∀(ax1:Expr),FnC Wt 185 [.agg [.int .i64 ax1.Op,.int .i64 ax1.N,.str ax1.Name,.sl 0 ax1.Args]] (tariff_shaped_1 n ax1) (fun r=> .ob r)):=by
 induction n with
 |zero=>exact⟨fun _=>b4a (fun _ _=>by kernel_rfl),fun _=>b4a (fun _ _=>by kernel_rfl)⟩
 |succ n ih=>
  refine⟨?_,?_⟩
  ·intro x1
   refine a0z (n:=62) Tryz.func130 rfl rfl rfl (fun _ _=>by kernel_rfl) fun F0 w0 r=> ?_
   rw [tariff_shaped_s]
   refine gG rfl (by kernel_rfl) ?_
   refine gD rfl (fun _=> ?_) (fun _=> ?_)
   ·
    refine gB ?_
    refine gTb ?_
    refine gB ?_
    refine gT ?_
    exact gR rfl rfl rfl
   ·
    refine gB ?_
    refine gD rfl (fun _=> ?_) (fun _=> ?_)
    ·
     refine gB ?_
     refine gT ?_
     exact gR rfl rfl rfl
    ·
     refine gA ?_
     refine gQ (c7a _ _) rfl rfl rfl (fun _=>rfl) fun v11=> ?_
     refine gB ?_
     refine gC rfl (fun _=> ?_) (fun _=> ?_)
     ·
      exact gR rfl rfl rfl
     ·
      refine gC rfl (fun _=> ?_) (fun _=> ?_)
      ·
       refine gJ 4 (fun v3=> [.v 31 (.ob v3)]) rfl (fun _=>rfl) (fun J1 hJ1=> ?_) (fun v3=> ?_)
       ·
        refine gD rfl (fun _=> ?_) (fun _=> ?_)
        ·
         exact gX hJ1 rfl (by kernel_rfl)
        ·
         exact gX hJ1 rfl (by kernel_rfl)
       refine gJ 4 (fun v4=> [.v 36 (.ob v4)]) rfl (fun _=>rfl) (fun J2 hJ2=> ?_) (fun v4=> ?_)
       ·
        refine gD rfl (fun _=> ?_) (fun _=> ?_)
        ·
         exact gX hJ2 rfl (by kernel_rfl)
        ·
         exact gX hJ2 rfl (by kernel_rfl)
       exact gR rfl rfl rfl
      ·
       refine gD rfl (fun _=> ?_) (fun _=> ?_)
       ·
        refine gB ?_
        refine gT ?_
        refine gJ 4 (fun v6=> [.v 47 (.ob v6)]) rfl (fun _=>rfl) (fun J3 hJ3=> ?_) (fun v6=> ?_)
        ·
         refine gD rfl (fun _=> ?_) (fun _=> ?_)
         ·
          refine gA ?_
          refine gK (b2j _ _) rfl rfl rfl fun v7=> ?_
          exact gX hJ3 rfl (by kernel_rfl)
         ·
          exact gX hJ3 rfl (by kernel_rfl)
        exact gR rfl rfl rfl
       ·
        refine gB ?_
        refine gC rfl (fun _=> ?_) (fun _=> ?_)
        ·
         refine gJ 4 (fun v6=> [.v 47 (.ob v6)]) rfl (fun _=>rfl) (fun J4 hJ4=> ?_) (fun v6=> ?_)
         ·
          refine gD rfl (fun _=> ?_) (fun _=> ?_)
          ·
           refine gA ?_
           refine gK (b2j _ _) rfl rfl rfl fun v7=> ?_
           exact gX hJ4 rfl (by kernel_rfl)
          ·
           exact gX hJ4 rfl (by kernel_rfl)
         exact gR rfl rfl rfl
        ·
         refine gJ 4 (fun v8=> [.v 55 (.ob v8)]) rfl (fun _=>rfl) (fun J5 hJ5=> ?_) (fun v8=> ?_)
         ·
          refine gD rfl (fun _=> ?_) (fun _=> ?_)
          ·
           exact gX hJ5 rfl (by kernel_rfl)
          ·
           exact gX hJ5 rfl (by kernel_rfl)
         refine gJ 5 (fun v9=> [.v 61 (.ob v9)]) rfl (fun _=>rfl) (fun J6 hJ6=> ?_) (fun v9=> ?_)
         ·
          refine gD rfl (fun _=> ?_) (fun _=> ?_)
          ·
           refine gA ?_
           refine gKh (a7b n _ (tariff_shaped_1 n)) rfl rfl rfl (fvA rfl rfl (fun q=>ih.2 q) default) fun v10=> ?_
           exact gX hJ6 rfl (by kernel_rfl)
          ·
           exact gX hJ6 rfl (by kernel_rfl)
         exact gR rfl rfl rfl
  ·intro ax1
   refine a0z (n:=6) Tryz.func185 rfl rfl rfl (fun _ _=>by kernel_rfl) fun F0 w0 r=> ?_
   rw [a7j]
   refine gK (ih.1 _) rfl rfl rfl fun v1=> ?_
   exact gR rfl rfl rfl
theorem c2t(n:Nat)(x1:Expr):FnC Wt 130 [.agg [.int .i64 x1.Op,.int .i64 x1.N,.str x1.Name,.sl 0 x1.Args]] (tariff_shaped n x1) (fun r=> .ob r):=(c1o n).1 x1
theorem b9t(n:Nat)(x1:Expr):FnC Wt 69 [.agg [.int .i64 x1.Op,.int .i64 x1.N,.str x1.Name,.sl 0 x1.Args]] (a7a n x1) (fun r=> .ob r):=by
 refine a0z (n:=10) Tryz.func69 rfl rfl rfl (fun _ _=>by kernel_rfl) fun F0 w0 r=> ?_
 unfold a7a
 refine gN (b7j _ _ _ _) rfl rfl rfl rfl rfl fun v1=> ?_
 refine gJ 3 (fun v2=> [.v 9 (.ob v2)]) rfl (fun _=>rfl) (fun J1 hJ1=> ?_) (fun v2=> ?_)
 ·
  refine gD rfl (fun _=> ?_) (fun _=> ?_)
  ·
   refine gA ?_
   refine gK (c2t _ _) rfl rfl rfl fun v3=> ?_
   exact gX hJ1 rfl (by kernel_rfl)
  ·
   exact gX hJ1 rfl (by kernel_rfl)
 exact gR rfl rfl rfl
theorem c0a(n:Nat)(t1:Tariff):FnC Wt 55 [.agg [.str t1.Name,.int .i64 t1.Fee.Op,.int .i64 t1.Fee.N,.str t1.Fee.Name,.sl 0 t1.Fee.Args,.int .i64 t1.Cap]] (a4v n t1) (fun r=> .ob r):=by
 refine a0z (n:=21) Tryz.func55 rfl rfl rfl (fun _ _=>by kernel_rfl) fun F0 w0 r=> ?_
 unfold a4v
 refine gK (b2j _ _) rfl rfl rfl fun v1=> ?_
 refine gJ 4 (fun v2=> [.v 10 (.ob v2)]) rfl (fun _=>rfl) (fun J1 hJ1=> ?_) (fun v2=> ?_)
 ·
  refine gD rfl (fun _=> ?_) (fun _=> ?_)
  ·
   refine gA ?_
   refine gK (b9t _ _) rfl rfl rfl fun v5=> ?_
   exact gX hJ1 rfl (by kernel_rfl)
  ·
   exact gX hJ1 rfl (by kernel_rfl)
 refine gJ 4 (fun v3=> [.v 15 (.ob v3)]) rfl (fun _=>rfl) (fun J2 hJ2=> ?_) (fun v3=> ?_)
 ·
  refine gD rfl (fun _=> ?_) (fun _=> ?_)
  ·
   exact gX hJ2 rfl (by kernel_rfl)
  ·
   exact gX hJ2 rfl (by kernel_rfl)
 refine gJ 4 (fun v4=> [.v 20 (.ob v4)]) rfl (fun _=>rfl) (fun J3 hJ3=> ?_) (fun v4=> ?_)
 ·
  refine gD rfl (fun _=> ?_) (fun _=> ?_)
  ·
   exact gX hJ3 rfl (by kernel_rfl)
  ·
   exact gX hJ3 rfl (by kernel_rfl)
 exact gR rfl rfl rfl
theorem b6x(n:Nat)(t1:Tariff)(names1:(List Bs)):FnC Wt 18 [.agg [.str t1.Name,.int .i64 t1.Fee.Op,.int .i64 t1.Fee.N,.str t1.Fee.Name,.sl 0 t1.Fee.Args,.int .i64 t1.Cap],.sl 1 names1] (a3v n t1 names1) (fun r=> .int .i64 r):=by
 refine a0z (n:=29) Tryz.func18 rfl rfl rfl (fun _ _=>by kernel_rfl) fun F0 w0 r=> ?_
 unfold a3v
 refine gK (b7l _ _) rfl rfl rfl fun v1=> ?_
 refine gC rfl (fun _=> ?_) (fun _=> ?_)
 ·
  exact gR rfl rfl rfl
 ·
  refine gK (c0a _ _) rfl rfl rfl fun v2=> ?_
  refine gC rfl (fun _=> ?_) (fun _=> ?_)
  ·
   exact gR rfl rfl rfl
  ·
   refine gK (b7h _ _ _) rfl rfl rfl fun v3=> ?_
   refine gJ 3 (fun v4=> [.v 27 (.ob v4)]) rfl (fun _=>rfl) (fun J1 hJ1=> ?_) (fun v4=> ?_)
   ·
    refine gD rfl (fun _=> ?_) (fun _=> ?_)
    ·
     exact gX hJ1 rfl (by kernel_rfl)
    ·
     exact gX hJ1 rfl (by kernel_rfl)
   refine gC rfl (fun _=> ?_) (fun _=> ?_)
   ·
    exact gR rfl rfl rfl
   ·
    exact gR rfl rfl rfl
theorem c6k(n:Nat)(x1:Expr)(names1:(List Bs)):FnC Wt 32 [.agg [.int .i64 x1.Op,.int .i64 x1.N,.str x1.Name,.sl 0 x1.Args],.sl 1 names1] (b1i n x1 names1) (fun r=> .tup [.int .i64 r.1,.int .i64 r.2]):=by
 refine a0z (n:=19) Tryz.func32 rfl rfl rfl (fun _ _=>by kernel_rfl) fun F0 w0 r=> ?_
 unfold b1i
 refine gK (b7l _ _) rfl rfl rfl fun v1=> ?_
 refine gC rfl (fun _=> ?_) (fun _=> ?_)
 ·
  exact gR rfl rfl rfl
 ·
  refine gK (b9t _ _) rfl rfl rfl fun v2=> ?_
  refine gC rfl (fun _=> ?_) (fun _=> ?_)
  ·
   exact gR rfl rfl rfl
  ·
   refine gK (b7h _ _ _) rfl rfl rfl fun v3=> ?_
   exact gR rfl rfl rfl
end Go.Proofs.YthaegflpecbfgaaGreatDoor.M
namespace Go.Proofs.YthaegflpecbfgaaGreatDoor.M
open Go Go.RowKit Rt
set_option maxRecDepth 1000000
set_option maxHeartbeats 40000000
theorem c8t(n:Nat)(ax1:Big)(b1:Big):FnC Wt 122 [.agg [.int .i64 ax1.Sign,.sl 2 ax1.Digits],.agg [.int .i64 b1.Sign,.sl 2 b1.Digits]] (b0z n ax1 b1) (fun r=> .ob r):=by
 refine a0z (n:=38) Tryz.func122 rfl rfl rfl (fun _ _=>by kernel_rfl) fun F0 w0 r=> ?_
 unfold b0z
 refine gJ 8 (fun v1=> [.v 19 (.ob v1)]) rfl (fun _=>rfl) (fun J1 hJ1=> ?_) (fun v1=> ?_)
 ·
  refine gD rfl (fun _=> ?_) (fun _=> ?_)
  ·
   exact gX hJ1 rfl (by kernel_rfl)
  ·
   exact gX hJ1 rfl (by kernel_rfl)
 refine gC rfl (fun _=> ?_) (fun _=> ?_)
 ·
  exact gR rfl rfl rfl
 ·
  refine a2r ((fun k0 m(s:Int)=>ref04_Same_L1 n ax1 b1 k0 m s) _) (fun(s:Int)=> [.v 5 (.int .i64 s)]) (fun _=>rfl) _ rfl rfl (fun _=>rfl) rfl fun K2 m2 hK2 i1=> ?_
  refine gC rfl (fun _=> ?_) (fun _=> ?_)
  ·
   refine gG rfl (by kernel_rfl) ?_
   refine gV rfl fun ex1=> ?_
   refine gV rfl fun ex2=> ?_
   refine gC rfl (fun _=> ?_) (fun _=> ?_)
   ·
    exact gR rfl rfl rfl
   ·
    exact gE hK2 _ rfl (by kernel_rfl)
  ·
   exact gR rfl rfl rfl
theorem a1u(n:Nat)(ax1:Big):FnC Wt 117 [.agg [.int .i64 ax1.Sign,.sl 2 ax1.Digits]] (a1n n ax1) (fun r=> .ob r):=by
 refine a0z (n:=56) Tryz.func117 rfl rfl rfl (fun _ _=>by kernel_rfl) fun F0 w0 r=> ?_
 unfold a1n
 refine a2r ((fun k0 m(s:Int)=>a6r n ax1 k0 m s) _) (fun(s:Int)=> [.v 3 (.int .i64 s)]) (fun _=>rfl) _ rfl rfl (fun _=>rfl) rfl fun K1 m1 hK1 i1=> ?_
 refine gC rfl (fun _=> ?_) (fun _=> ?_)
 ·
  refine gV rfl fun ex2=> ?_
  refine gJ 7 (fun v4=> [.v 25 (.ob v4)]) rfl (fun _=>rfl) (fun J2 hJ2=> ?_) (fun v4=> ?_)
  ·
   refine gD rfl (fun _=> ?_) (fun _=> ?_)
   ·
    exact gX hJ2 rfl (by kernel_rfl)
   ·
    refine gA ?_
    refine gV rfl fun ex3=> ?_
    exact gX hJ2 rfl (by kernel_rfl)
  refine gC rfl (fun _=> ?_) (fun _=> ?_)
  ·
   exact gR rfl rfl rfl
  ·
   exact gE hK1 _ rfl (by kernel_rfl)
 ·
  refine gJ 4 (fun v1=> [.v 36 (.ob v1)]) rfl (fun _=>rfl) (fun J3 hJ3=> ?_) (fun v1=> ?_)
  ·
   refine gD rfl (fun _=> ?_) (fun _=> ?_)
   ·
    exact gX hJ3 rfl (by kernel_rfl)
   ·
    exact gX hJ3 rfl (by kernel_rfl)
  refine gJ 7 (fun v2=> [.v 44 (.ob v2)]) rfl (fun _=>rfl) (fun J4 hJ4=> ?_) (fun v2=> ?_)
  ·
   refine gD rfl (fun _=> ?_) (fun _=> ?_)
   ·
    exact gX hJ4 rfl (by kernel_rfl)
   ·
    exact gX hJ4 rfl (by kernel_rfl)
  refine gC rfl (fun _=> ?_) (fun _=> ?_)
  ·
   exact gR rfl rfl rfl
  ·
   refine gJ 8 (fun v3=> [.v 55 (.ob v3)]) rfl (fun _=>rfl) (fun J5 hJ5=> ?_) (fun v3=> ?_)
   ·
    refine gD rfl (fun _=> ?_) (fun _=> ?_)
    ·
     exact gX hJ5 rfl (by kernel_rfl)
    ·
     refine gA ?_
     refine gV rfl fun ex1=> ?_
     exact gX hJ5 rfl (by kernel_rfl)
   exact gR rfl rfl rfl
theorem a7d(n:Nat)(l1:(List Int)):FnO Wt 180 [.sl 2 l1] (a1v n l1) 3 1 2 (fun r=>r):=by
 refine b7a (n:=23) Tryz.func180 rfl rfl rfl (fun _ _=>by kernel_rfl) fun F0 w0 r=> ?_
 unfold a1v
 refine a2r ((fun k0 m(s:Int)=>a7q n l1 k0 m s) _) (fun(s:Int)=> [.v 3 (.int .i64 s)]) (fun _=>rfl) _ rfl rfl (fun _=>rfl) rfl fun K1 m1 hK1 nx1=> ?_
 refine gJ 7 (fun v1=> [.v 15 (.ob v1)]) rfl (fun _=>rfl) (fun J2 hJ2=> ?_) (fun v1=> ?_)
 ·
  refine gD rfl (fun _=> ?_) (fun _=> ?_)
  ·
   refine gA ?_
   refine gV rfl fun ex1=> ?_
   exact gX hJ2 rfl (by kernel_rfl)
  ·
   exact gX hJ2 rfl (by kernel_rfl)
 refine gC rfl (fun _=> ?_) (fun _=> ?_)
 ·
  exact gE hK1 _ rfl (by kernel_rfl)
 ·
  refine gV rfl fun l2=> ?_
  refine gP rfl fun l3=> ?_
  exact gRO rfl
theorem a3u(n:Nat)(sign1:Int)(l1:(List Int)):FnC Wt 120 [.int .i64 sign1,.sl 2 l1] (a1q n sign1 l1) (fun r=> .agg [.int .i64 r.Sign,.sl 2 r.Digits]):=by
 refine a0z (n:=15) Tryz.func120 rfl rfl rfl (fun _ _=>by kernel_rfl) fun F0 w0 r=> ?_
 unfold a1q
 refine gO (a7d _ _) rfl rfl rfl fun v1=> ?_
 refine gC rfl (fun _=> ?_) (fun _=> ?_)
 ·
  exact gR rfl rfl rfl
 ·
  exact gR rfl rfl rfl
theorem c0n(n:Nat)(nx1:Int):FnC Wt 119 [.int .i64 nx1] (b2h n nx1) (fun r=> .agg [.int .i64 r.Sign,.sl 2 r.Digits]):=by
 refine a0z (n:=28) Tryz.func119 rfl rfl rfl (fun _ _=>by kernel_rfl) fun F0 w0 r=> ?_
 unfold b2h
 refine gC rfl (fun _=> ?_) (fun _=> ?_)
 ·
  exact gR rfl rfl rfl
 ·
  refine gD rfl (fun _=> ?_) (fun _=> ?_)
  ·
   refine gB ?_
   refine a2r ((fun k0 m(s:Int×List Int)=>a9p n k0 m s.1 s.2) _) (fun(s:Int×List Int)=> [.v 0 (.int .i64 s.1),.r 4 2 s.2]) (fun _=>rfl) (_,_) rfl rfl (fun _=>rfl) rfl fun K1 m1 hK1 z1=> ?_
   obtain⟨nx2,l1⟩:=z1;dsimp only
   refine gC rfl (fun _=> ?_) (fun _=> ?_)
   ·
    refine gV rfl fun q1=> ?_
    refine gD rfl (fun _=> ?_) (fun _=> ?_)
    ·
     refine gB ?_
     refine gP rfl fun l3=> ?_
     refine gV rfl fun q2=> ?_
     exact gE hK1 (_,_) rfl (by kernel_rfl)
    ·
     refine gB ?_
     refine gP rfl fun l3=> ?_
     refine gV rfl fun q2=> ?_
     exact gE hK1 (_,_) rfl (by kernel_rfl)
   ·
    refine gK (a3u _ _ _) rfl rfl rfl fun v1=> ?_
    exact gR rfl rfl rfl
  ·
   refine gB ?_
   refine a2r ((fun k0 m(s:Int×List Int)=>a9p n k0 m s.1 s.2) _) (fun(s:Int×List Int)=> [.v 0 (.int .i64 s.1),.r 4 2 s.2]) (fun _=>rfl) (_,_) rfl rfl (fun _=>rfl) rfl fun K2 m2 hK2 z2=> ?_
   obtain⟨nx2,l1⟩:=z2;dsimp only
   refine gC rfl (fun _=> ?_) (fun _=> ?_)
   ·
    refine gV rfl fun q1=> ?_
    refine gD rfl (fun _=> ?_) (fun _=> ?_)
    ·
     refine gB ?_
     refine gP rfl fun l3=> ?_
     refine gV rfl fun q2=> ?_
     exact gE hK2 (_,_) rfl (by kernel_rfl)
    ·
     refine gB ?_
     refine gP rfl fun l3=> ?_
     refine gV rfl fun q2=> ?_
     exact gE hK2 (_,_) rfl (by kernel_rfl)
   ·
    refine gK (a3u _ _ _) rfl rfl rfl fun v1=> ?_
    exact gR rfl rfl rfl
theorem a5j(n:Nat)(l1:(List Int))(i1:Int):FnC Wt 181 [.sl 2 l1,.int .i64 i1] (a4i n l1 i1) (fun r=> .int .i64 r):=by
 refine a0z (n:=13) Tryz.func181 rfl rfl rfl (fun _ _=>by kernel_rfl) fun F0 w0 r=> ?_
 unfold a4i
 refine gC rfl (fun _=> ?_) (fun _=> ?_)
 ·
  refine gV rfl fun ex1=> ?_
  exact gR rfl rfl rfl
 ·
  exact gR rfl rfl rfl
theorem b4y(n:Nat)(ax1:(List Int))(b1:(List Int)):FnC Wt 123 [.sl 2 ax1,.sl 2 b1] (a6c n ax1 b1) (fun r=> .ob r):=by
 refine a0z (n:=30) Tryz.func123 rfl rfl rfl (fun _ _=>by kernel_rfl) fun F0 w0 r=> ?_
 unfold a6c
 refine a2r ((fun k0 m(s:Int)=>a7m n ax1 b1 k0 m s) _) (fun(s:Int)=> [.v 5 (.int .i64 s)]) (fun _=>rfl) _ rfl rfl (fun _=>rfl) rfl fun K1 m1 hK1 i1=> ?_
 refine gC rfl (fun _=> ?_) (fun _=> ?_)
 ·
  refine gK (a5j _ _ _) rfl rfl rfl fun v1=> ?_
  refine gK (a5j _ _ _) rfl rfl rfl fun v2=> ?_
  refine gC rfl (fun _=> ?_) (fun _=> ?_)
  ·
   refine gK (a5j _ _ _) rfl rfl rfl fun v3=> ?_
   refine gK (a5j _ _ _) rfl rfl rfl fun v4=> ?_
   exact gR rfl rfl rfl
  ·
   exact gE hK1 _ rfl (by kernel_rfl)
 ·
  exact gR rfl rfl rfl
theorem c0y(n:Nat)(ax1:(List Int))(b1:(List Int)):FnO Wt 127 [.sl 2 ax1,.sl 2 b1] (a7s n ax1 b1) 3 1 2 (fun r=>r):=by
 refine b7a (n:=43) Tryz.func127 rfl rfl rfl (fun _ _=>by kernel_rfl) fun F0 w0 r=> ?_
 unfold a7s
 refine a2r ((fun k0 m(s:Int×Int×List Int)=>a8z n ax1 b1 k0 m s.1 s.2.1 s.2.2) _) (fun(s:Int×Int×List Int)=> [.r 5 2 s.2.2,.v 6 (.int .i64 s.1),.v 7 (.int .i64 s.2.1)]) (fun _=>rfl) (_,_,_) rfl rfl (fun _=>rfl) rfl fun K1 m1 hK1 z1=> ?_
 obtain⟨carry1,i1,l1⟩:=z1;dsimp only
 refine gJ 5 (fun v2=> [.v 18 (.ob v2)]) rfl (fun _=>rfl) (fun J2 hJ2=> ?_) (fun v2=> ?_)
 ·
  refine gD rfl (fun _=> ?_) (fun _=> ?_)
  ·
   exact gX hJ2 rfl (by kernel_rfl)
  ·
   exact gX hJ2 rfl (by kernel_rfl)
 refine gJ 3 (fun v3=> [.v 22 (.ob v3)]) rfl (fun _=>rfl) (fun J3 hJ3=> ?_) (fun v3=> ?_)
 ·
  refine gD rfl (fun _=> ?_) (fun _=> ?_)
  ·
   exact gX hJ3 rfl (by kernel_rfl)
  ·
   exact gX hJ3 rfl (by kernel_rfl)
 refine gC rfl (fun _=> ?_) (fun _=> ?_)
 ·
  refine gK (a5j _ _ _) rfl rfl rfl fun v4=> ?_
  refine gK (a5j _ _ _) rfl rfl rfl fun v5=> ?_
  refine gV rfl fun q1=> ?_
  refine gP rfl fun l3=> ?_
  refine gV rfl fun q2=> ?_
  exact gE hK1 (_,_,_) rfl (by kernel_rfl)
 ·
  refine gO (a7d _ _) rfl rfl rfl fun v1=> ?_
  exact gRO rfl
theorem b0s(n:Nat)(ax1:(List Int))(b1:(List Int)):FnO Wt 128 [.sl 2 ax1,.sl 2 b1] (a3e n ax1 b1) 3 1 2 (fun r=>r):=by
 refine b7a (n:=35) Tryz.func128 rfl rfl rfl (fun _ _=>by kernel_rfl) fun F0 w0 r=> ?_
 unfold a3e
 refine a2r ((fun k0 m(s:Int×Int×List Int)=>a5o n ax1 b1 k0 m s.1 s.2.1 s.2.2) _) (fun(s:Int×Int×List Int)=> [.r 5 2 s.2.2,.v 6 (.int .i64 s.1),.v 7 (.int .i64 s.2.1)]) (fun _=>rfl) (_,_,_) rfl rfl (fun _=>rfl) rfl fun K1 m1 hK1 z1=> ?_
 obtain⟨borrow1,i1,l1⟩:=z1;dsimp only
 refine gC rfl (fun _=> ?_) (fun _=> ?_)
 ·
  refine gG rfl (by kernel_rfl) ?_
  refine gV rfl fun ex1=> ?_
  refine gQ (a5j _ _ _) rfl rfl rfl (fun _=>rfl) fun v2=> ?_
  refine gM (fun j2=> [.v 6 (.int .i64 j2.1),.v 8 (.int .i64 j2.2)]) rfl (fun _=>rfl) (fun J2 hJ2=> ?_) (fun j2=> ?_)
  ·
   refine gD rfl (fun _=> ?_) (fun _=> ?_)
   ·
    exact gX hJ2 rfl (by kernel_rfl)
   ·
    exact gX hJ2 rfl (by kernel_rfl)
  obtain⟨borrow2,nx1⟩:=j2;dsimp only
  refine gP rfl fun l3=> ?_
  exact gE hK1 (_,_,_) rfl (by kernel_rfl)
 ·
  refine gO (a7d _ _) rfl rfl rfl fun v1=> ?_
  exact gRO rfl
theorem b3s(n:Nat)(ax1:(List Int))(b1:(List Int)):FnO Wt 121 [.sl 2 ax1,.sl 2 b1] (a4j n ax1 b1) 3 1 2 (fun r=>r):=by
 refine b7a (n:=60) Tryz.func121 rfl rfl rfl (fun _ _=>by kernel_rfl) fun F0 w0 r=> ?_
 unfold a4j
 refine gMk wzOk rfl fun l1=> ?_
 refine a2r ((fun k0 m(s:Int×List Int)=>a4p n ax1 b1 k0 m s.1 s.2) _) (fun(s:Int×List Int)=> [.r 5 2 s.2,.v 6 (.int .i64 s.1)]) (fun _=>rfl) (_,_) rfl rfl (fun _=>rfl) rfl fun K1 m1 hK1 z1=> ?_
 obtain⟨i1,l2⟩:=z1;dsimp only
 refine gC rfl (fun _=> ?_) (fun _=> ?_)
 ·
  refine a2r ((fun k0 m(s:Int×Int×List Int)=>a8c n ax1 b1 i1 k0 m s.1 s.2.1 s.2.2) _) (fun(s:Int×Int×List Int)=> [.r 5 2 s.2.2,.v 7 (.int .i64 s.1),.v 8 (.int .i64 s.2.1)]) (fun _=>rfl) (_,_,_) rfl rfl (fun _=>rfl) rfl fun K2 m2 hK2 z2=> ?_
  obtain⟨carry1,k1,l4⟩:=z2;dsimp only
  refine gJ 3 (fun v2=> [.v 29 (.ob v2)]) rfl (fun _=>rfl) (fun J3 hJ3=> ?_) (fun v2=> ?_)
  ·
   refine gD rfl (fun _=> ?_) (fun _=> ?_)
   ·
    exact gX hJ3 rfl (by kernel_rfl)
   ·
    exact gX hJ3 rfl (by kernel_rfl)
  refine gC rfl (fun _=> ?_) (fun _=> ?_)
  ·
   refine gG rfl (by kernel_rfl) ?_
   refine gV rfl fun ex1=> ?_
   refine gV rfl fun ex2=> ?_
   refine gQ (a5j _ _ _) rfl rfl rfl (fun _=>rfl) fun v3=> ?_
   refine gV rfl fun q1=> ?_
   refine gV rfl fun _=> ?_
   refine gW rfl rfl fun l6=> ?_
   refine gV rfl fun q2=> ?_
   exact gE hK2 (_,_,_) rfl (by kernel_rfl)
  ·
   exact gE hK1 (_,_) rfl (by kernel_rfl)
 ·
  refine gO (a7d _ _) rfl rfl rfl fun v1=> ?_
  exact gRO rfl
theorem c1g(n:Nat)(ax1:(List Int))(b1:(List Int)):FnC Wt 179 [.sl 2 ax1,.sl 2 b1] (a8m n ax1 b1) (fun r=> .tup [.sl 2 r.1,.sl 2 r.2]):=by
 refine a0z (n:=60) Tryz.func179 rfl rfl rfl (fun _ _=>by kernel_rfl) fun F0 w0 r=> ?_
 unfold a8m
 refine gMk wzOk rfl fun l1=> ?_
 refine a2r ((fun k0 m(s:(List Int)×Int×List Int)=>a6h n ax1 b1 k0 m s.1 s.2.1 s.2.2) _) (fun(s:(List Int)×Int×List Int)=> [.r 6 2 s.2.2,.v 7 (.sl 2 s.1),.v 8 (.int .i64 s.2.1)]) (fun _=>rfl) (_,_,_) rfl rfl (fun _=>rfl) rfl fun K1 m1 hK1 z1=> ?_
 obtain⟨rx1,i1,l2⟩:=z1;dsimp only
 refine gC rfl (fun _=> ?_) (fun _=> ?_)
 ·
  refine gV rfl fun ex1=> ?_
  refine gP rfl fun l4=> ?_
  refine gO (a7d _ _) rfl rfl rfl fun v2=> ?_
  refine gFr 7 rfl ?_
  refine a2r ((fun k0 m(s:Int×Int)=>a7p n b1 v2 k0 m s.1 s.2) _) (fun(s:Int×Int)=> [.v 9 (.int .i64 s.1),.v 10 (.int .i64 s.2)]) (fun _=>rfl) (_,_) rfl rfl (fun _=>rfl) rfl fun K2 m2 hK2 z2=> ?_
  obtain⟨lo1,hi1⟩:=z2;dsimp only
  refine gC rfl (fun _=> ?_) (fun _=> ?_)
  ·
   refine gV rfl fun q1=> ?_
   refine gO (b3s _ _ _) rfl rfl rfl fun v6=> ?_
   refine gK (b4y _ _ _) rfl rfl rfl fun v7=> ?_
   refine gC rfl (fun _=> ?_) (fun _=> ?_)
   ·
    exact gE hK2 (_,_) rfl (by kernel_rfl)
   ·
    exact gE hK2 (_,_) rfl (by kernel_rfl)
  ·
   refine gV rfl fun _=> ?_
   refine gW rfl rfl fun l5=> ?_
   refine gO (a7d _ _) rfl rfl rfl fun v3=> ?_
   refine gO (b3s _ _ _) rfl rfl rfl fun v4=> ?_
   refine gO (b0s _ _ _) rfl rfl rfl fun v5=> ?_
   refine gFr 7 rfl ?_
   exact gE hK1 (_,_,_) rfl (by kernel_rfl)
 ·
  refine gO (a7d _ _) rfl rfl rfl fun v1=> ?_
  exact gR rfl rfl rfl
theorem c3s(n:Nat)(ax1:Big)(b1:Big):FnC Wt 63 [.agg [.int .i64 ax1.Sign,.sl 2 ax1.Digits],.agg [.int .i64 b1.Sign,.sl 2 b1.Digits]] (a8w n ax1 b1) (fun r=> .int .i64 r):=by
 refine a0z (n:=37) Tryz.func63 rfl rfl rfl (fun _ _=>by kernel_rfl) fun F0 w0 r=> ?_
 unfold a8w
 refine gK (a1u _ _) rfl rfl rfl fun v1=> ?_
 refine gJ 4 (fun v2=> [.v 12 (.ob v2)]) rfl (fun _=>rfl) (fun J1 hJ1=> ?_) (fun v2=> ?_)
 ·
  refine gD rfl (fun _=> ?_) (fun _=> ?_)
  ·
   exact gX hJ1 rfl (by kernel_rfl)
  ·
   refine gA ?_
   refine gK (a1u _ _) rfl rfl rfl fun v6=> ?_
   exact gX hJ1 rfl (by kernel_rfl)
 refine gJ 4 (fun v3=> [.v 17 (.ob v3)]) rfl (fun _=>rfl) (fun J2 hJ2=> ?_) (fun v3=> ?_)
 ·
  refine gD rfl (fun _=> ?_) (fun _=> ?_)
  ·
   exact gX hJ2 rfl (by kernel_rfl)
  ·
   refine gA ?_
   refine gK (c8t _ _ _) rfl rfl rfl fun v5=> ?_
   exact gX hJ2 rfl (by kernel_rfl)
 refine gC rfl (fun _=> ?_) (fun _=> ?_)
 ·
  exact gR rfl rfl rfl
 ·
  refine gC rfl (fun _=> ?_) (fun _=> ?_)
  ·
   refine gC rfl (fun _=> ?_) (fun _=> ?_)
   ·
    exact gR rfl rfl rfl
   ·
    exact gR rfl rfl rfl
  ·
   refine gG rfl (by kernel_rfl) ?_
   refine gQ (b4y _ _ _) rfl rfl rfl (fun _=>rfl) fun v4=> ?_
   refine gC rfl (fun _=> ?_) (fun _=> ?_)
   ·
    exact gR rfl rfl rfl
   ·
    exact gR rfl rfl rfl
theorem b7q(n:Nat)(ax1:Big):FnC Wt 125 [.agg [.int .i64 ax1.Sign,.sl 2 ax1.Digits]] (b1b n ax1) (fun r=> .agg [.int .i64 r.Sign,.sl 2 r.Digits]):=by
 refine a0z (n:=13) Tryz.func125 rfl rfl rfl (fun _ _=>by kernel_rfl) fun F0 w0 r=> ?_
 unfold b1b
 refine gK (a1u _ _) rfl rfl rfl fun v1=> ?_
 refine gC rfl (fun _=> ?_) (fun _=> ?_)
 ·
  exact gR rfl rfl rfl
 ·
  refine gK (a3u _ _ _) rfl rfl rfl fun v2=> ?_
  exact gR rfl rfl rfl
theorem d2d(n:Nat)(ax1:Big)(b1:Big):FnC Wt 68 [.agg [.int .i64 ax1.Sign,.sl 2 ax1.Digits],.agg [.int .i64 b1.Sign,.sl 2 b1.Digits]] (b2y n ax1 b1) (fun r=> .tup [.agg [.int .i64 r.1.Sign,.sl 2 r.1.Digits],.int .i64 r.2]):=by
 refine a0z (n:=62) Tryz.func68 rfl rfl rfl (fun _ _=>by kernel_rfl) fun F0 w0 r=> ?_
 unfold b2y
 refine gK (a1u _ _) rfl rfl rfl fun v1=> ?_
 refine gJ 4 (fun v2=> [.v 13 (.ob v2)]) rfl (fun _=>rfl) (fun J1 hJ1=> ?_) (fun v2=> ?_)
 ·
  refine gD rfl (fun _=> ?_) (fun _=> ?_)
  ·
   exact gX hJ1 rfl (by kernel_rfl)
  ·
   refine gA ?_
   refine gK (a1u _ _) rfl rfl rfl fun v12=> ?_
   exact gX hJ1 rfl (by kernel_rfl)
 refine gC rfl (fun _=> ?_) (fun _=> ?_)
 ·
  exact gR rfl rfl rfl
 ·
  refine gJ 4 (fun v3=> [.v 22 (.ob v3)]) rfl (fun _=>rfl) (fun J2 hJ2=> ?_) (fun v3=> ?_)
  ·
   refine gD rfl (fun _=> ?_) (fun _=> ?_)
   ·
    exact gX hJ2 rfl (by kernel_rfl)
   ·
    exact gX hJ2 rfl (by kernel_rfl)
  refine gJ 6 (fun v4=> [.v 29 (.ob v4)]) rfl (fun _=>rfl) (fun J3 hJ3=> ?_) (fun v4=> ?_)
  ·
   refine gD rfl (fun _=> ?_) (fun _=> ?_)
   ·
    exact gX hJ3 rfl (by kernel_rfl)
   ·
    exact gX hJ3 rfl (by kernel_rfl)
  refine gC rfl (fun _=> ?_) (fun _=> ?_)
  ·
   refine gHs [(4,(pL [0,2,4,6,8,10,12,14,16,19,21,23,25] .nil)),(6,(pL [0,2,4,6,8,10,13,15,17,19] .nil)),(7,(pL [0,2,4,6,8,10,13,15,17,19] .nil))] rfl (by kernel_rfl) rfl rfl fun Ky=> ?_
   refine gO (c0y _ _ _) rfl rfl rfl fun v5=> ?_
   refine gK (a3u _ _ _) rfl rfl rfl fun v6=> ?_
   refine gHe rfl ?_
   exact gR rfl rfl rfl
  ·
   refine gK (b4y _ _ _) rfl rfl rfl fun v7=> ?_
   refine gC rfl (fun _=> ?_) (fun _=> ?_)
   ·
    refine gHs [(4,(pL [0,2,4,6,8,10,12,14,16,19,21,23,25] .nil)),(6,(pL [0,2,4,6,8,10,13,15,17,19] .nil)),(7,(pL [0,2,4,6,8,10,13,15,17,19] .nil))] rfl (by kernel_rfl) rfl rfl fun Ky=> ?_
    refine gO (b0s _ _ _) rfl rfl rfl fun v8=> ?_
    refine gK (a3u _ _ _) rfl rfl rfl fun v9=> ?_
    refine gHe rfl ?_
    exact gR rfl rfl rfl
   ·
    refine gHs [(4,(pL [0,2,4,6,8,10,12,14,16,19,21,23,25] .nil)),(6,(pL [0,2,4,6,8,10,13,15,17,19] .nil)),(7,(pL [0,2,4,6,8,10,13,15,17,19] .nil))] rfl (by kernel_rfl) rfl rfl fun Ky=> ?_
    refine gO (b0s _ _ _) rfl rfl rfl fun v10=> ?_
    refine gK (a3u _ _ _) rfl rfl rfl fun v11=> ?_
    refine gHe rfl ?_
    exact gR rfl rfl rfl
theorem d0t(n:Nat)(ax1:Big)(b1:Big):FnC Wt 65 [.agg [.int .i64 ax1.Sign,.sl 2 ax1.Digits],.agg [.int .i64 b1.Sign,.sl 2 b1.Digits]] (b5s n ax1 b1) (fun r=> .tup [.agg [.int .i64 r.1.Sign,.sl 2 r.1.Digits],.int .i64 r.2]):=by
 refine a0z (n:=21) Tryz.func65 rfl rfl rfl (fun _ _=>by kernel_rfl) fun F0 w0 r=> ?_
 unfold b5s
 refine gK (a1u _ _) rfl rfl rfl fun v1=> ?_
 refine gC rfl (fun _=> ?_) (fun _=> ?_)
 ·
  exact gR rfl rfl rfl
 ·
  refine gA ?_
  refine gHs [(3,(pL [0,2] (.two 2 7 (pL [] (.two 3 7 (pL [8,10,12,15,17,19] .nil) (pL [7,9,10,12,17,19] .nil))) (pL [5,7,9,10,12,17,19] .nil))))] rfl (by kernel_rfl) rfl rfl fun Ky=> ?_
  refine gH2 rfl ?_ ?_
  all_goals
   refine gK (b7q _ _) rfl rfl rfl fun v2=> ?_
   refine gA ?_
   try refine gH2 rfl ?_ ?_
   all_goals
    refine gK (d2d _ _ _) rfl rfl rfl fun v3=> ?_
    refine gB ?_
    refine gHe rfl ?_
    exact gR rfl rfl rfl
theorem b8d(n:Nat)(ax1:Big)(b1:Big):FnC Wt 62 [.agg [.int .i64 ax1.Sign,.sl 2 ax1.Digits],.agg [.int .i64 b1.Sign,.sl 2 b1.Digits]] (a6o n ax1 b1) (fun r=> .tup [.agg [.int .i64 r.1.Sign,.sl 2 r.1.Digits],.int .i64 r.2]):=by
 refine a0z (n:=26) Tryz.func62 rfl rfl rfl (fun _ _=>by kernel_rfl) fun F0 w0 r=> ?_
 unfold a6o
 refine gK (a1u _ _) rfl rfl rfl fun v1=> ?_
 refine gJ 4 (fun v2=> [.v 13 (.ob v2)]) rfl (fun _=>rfl) (fun J1 hJ1=> ?_) (fun v2=> ?_)
 ·
  refine gD rfl (fun _=> ?_) (fun _=> ?_)
  ·
   exact gX hJ1 rfl (by kernel_rfl)
  ·
   refine gA ?_
   refine gK (a1u _ _) rfl rfl rfl fun v5=> ?_
   exact gX hJ1 rfl (by kernel_rfl)
 refine gC rfl (fun _=> ?_) (fun _=> ?_)
 ·
  exact gR rfl rfl rfl
 ·
  refine gHs [(3,(pL [0,2,4,6,8,10,12,14,16,19,21,23,25] .nil))] rfl (by kernel_rfl) rfl rfl fun Ky=> ?_
  refine gO (b3s _ _ _) rfl rfl rfl fun v3=> ?_
  refine gK (a3u _ _ _) rfl rfl rfl fun v4=> ?_
  refine gHe rfl ?_
  exact gR rfl rfl rfl
theorem c3z(n:Nat)(ax1:Big)(b1:Big):FnC Wt 126 [.agg [.int .i64 ax1.Sign,.sl 2 ax1.Digits],.agg [.int .i64 b1.Sign,.sl 2 b1.Digits]] (b0d n ax1 b1) (fun r=> .tup [.agg [.int .i64 r.1.Sign,.sl 2 r.1.Digits],.agg [.int .i64 r.2.1.Sign,.sl 2 r.2.1.Digits],.int .i64 r.2.2]):=by
 refine a0z (n:=65) Tryz.func126 rfl rfl rfl (fun _ _=>by kernel_rfl) fun F0 w0 r=> ?_
 unfold b0d
 refine gK (a1u _ _) rfl rfl rfl fun v1=> ?_
 refine gJ 4 (fun v2=> [.v 16 (.ob v2)]) rfl (fun _=>rfl) (fun J1 hJ1=> ?_) (fun v2=> ?_)
 ·
  refine gD rfl (fun _=> ?_) (fun _=> ?_)
  ·
   exact gX hJ1 rfl (by kernel_rfl)
  ·
   refine gA ?_
   refine gK (a1u _ _) rfl rfl rfl fun v11=> ?_
   exact gX hJ1 rfl (by kernel_rfl)
 refine gC rfl (fun _=> ?_) (fun _=> ?_)
 ·
  exact gR rfl rfl rfl
 ·
  refine gC rfl (fun _=> ?_) (fun _=> ?_)
  ·
   exact gR rfl rfl rfl
  ·
   refine gK (c1g _ _ _) rfl rfl rfl fun v3=> ?_
   refine gJ 4 (fun v4=> [.v 42 (.ob v4)]) rfl (fun _=>rfl) (fun J2 hJ2=> ?_) (fun v4=> ?_)
   ·
    refine gD rfl (fun _=> ?_) (fun _=> ?_)
    ·
     exact gX hJ2 rfl (by kernel_rfl)
    ·
     exact gX hJ2 rfl (by kernel_rfl)
   refine gC rfl (fun _=> ?_) (fun _=> ?_)
   ·
    refine gHs [(7,(pL [0,2,4,6,8,10,14,16,18,13,21,23,25,27] .nil)),(8,(pL [0,8,10,12,14,16,3,5,7,19,21,23,25,27] .nil))] rfl (by kernel_rfl) rfl rfl fun Ky=> ?_
    refine gK (a3u _ _ _) rfl rfl rfl fun v5=> ?_
    refine gK (a3u _ _ _) rfl rfl rfl fun v6=> ?_
    refine gHe rfl ?_
    exact gR rfl rfl rfl
   ·
    refine gHs [(7,(pL [0,2,4,6,8,10,14,16,18,13,21,23,25,27] .nil)),(8,(pL [0,8,10,12,14,16,3,5,7,19,21,23,25,27] .nil))] rfl (by kernel_rfl) rfl rfl fun Ky=> ?_
    refine gO (c0y _ _ _) rfl rfl rfl fun v7=> ?_
    refine gK (a3u _ _ _) rfl rfl rfl fun v8=> ?_
    refine gO (b0s _ _ _) rfl rfl rfl fun v9=> ?_
    refine gK (a3u _ _ _) rfl rfl rfl fun v10=> ?_
    refine gHe rfl ?_
    exact gR rfl rfl rfl
theorem c4p(n:Nat)(ax1:Big)(b1:Big):FnC Wt 118 [.agg [.int .i64 ax1.Sign,.sl 2 ax1.Digits],.agg [.int .i64 b1.Sign,.sl 2 b1.Digits]] (b1v n ax1 b1) (fun r=> .tup [.agg [.int .i64 r.1.Sign,.sl 2 r.1.Digits],.int .i64 r.2]):=by
 refine a0z (n:=36) Tryz.func118 rfl rfl rfl (fun _ _=>by kernel_rfl) fun F0 w0 r=> ?_
 unfold b1v
 refine gK (a1u _ _) rfl rfl rfl fun v1=> ?_
 refine gJ 4 (fun v2=> [.v 17 (.ob v2)]) rfl (fun _=>rfl) (fun J1 hJ1=> ?_) (fun v2=> ?_)
 ·
  refine gD rfl (fun _=> ?_) (fun _=> ?_)
  ·
   exact gX hJ1 rfl (by kernel_rfl)
  ·
   refine gA ?_
   refine gK (a1u _ _) rfl rfl rfl fun v5=> ?_
   exact gX hJ1 rfl (by kernel_rfl)
 refine gC rfl (fun _=> ?_) (fun _=> ?_)
 ·
  exact gR rfl rfl rfl
 ·
  refine a2r ((fun k0 m(s:(List Int)×(List Int))=>a8t n k0 m s.1 s.2) _) (fun(s:(List Int)×(List Int))=> [.v 6 (.sl 2 s.1),.v 7 (.sl 2 s.2)]) (fun _=>rfl) (_,_) rfl rfl (fun _=>rfl) rfl fun K2 m2 hK2 z2=> ?_
  obtain⟨x1,y1⟩:=z2;dsimp only
  refine gC rfl (fun _=> ?_) (fun _=> ?_)
  ·
   refine gK (c1g _ _ _) rfl rfl rfl fun v4=> ?_
   exact gE hK2 (_,_) rfl (by kernel_rfl)
  ·
   refine gK (a3u _ _ _) rfl rfl rfl fun v3=> ?_
   exact gR rfl rfl rfl
end Go.Proofs.YthaegflpecbfgaaGreatDoor.M
namespace Go.Proofs.YthaegflpecbfgaaGreatDoor.M
open Go Go.RowKit Rt
set_option maxRecDepth 1000000
set_option maxHeartbeats 40000000
theorem b8p(n:Nat)(f1:Frac):FnC Wt 57 [.agg [.int .i64 f1.P.Sign,.sl 2 f1.P.Digits,.int .i64 f1.Q.Sign,.sl 2 f1.Q.Digits]] (a6g n f1) (fun r=> .ob r):=by
 refine a0z (n:=33) Tryz.func57 rfl rfl rfl (fun _ _=>by kernel_rfl) fun F0 w0 r=> ?_
 unfold a6g
 refine gK (a1u _ _) rfl rfl rfl fun v1=> ?_
 refine gJ 5 (fun v2=> [.v 14 (.ob v2)]) rfl (fun _=>rfl) (fun J1 hJ1=> ?_) (fun v2=> ?_)
 ·
  refine gD rfl (fun _=> ?_) (fun _=> ?_)
  ·
   exact gX hJ1 rfl (by kernel_rfl)
  ·
   refine gA ?_
   refine gK (a1u _ _) rfl rfl rfl fun v7=> ?_
   exact gX hJ1 rfl (by kernel_rfl)
 refine gJ 5 (fun v3=> [.v 20 (.ob v3)]) rfl (fun _=>rfl) (fun J2 hJ2=> ?_) (fun v3=> ?_)
 ·
  refine gD rfl (fun _=> ?_) (fun _=> ?_)
  ·
   exact gX hJ2 rfl (by kernel_rfl)
  ·
   exact gX hJ2 rfl (by kernel_rfl)
 refine gC rfl (fun _=> ?_) (fun _=> ?_)
 ·
  exact gR rfl rfl rfl
 ·
  refine gK (c4p _ _ _) rfl rfl rfl fun v4=> ?_
  refine gHs [(4,(pL [0,3,5,7,9] .nil))] rfl (by kernel_rfl) rfl rfl fun Ky=> ?_
  refine gK (c0n _ _) rfl rfl rfl fun v5=> ?_
  refine gK (c3s _ _ _) rfl rfl rfl fun v6=> ?_
  refine gHe rfl ?_
  exact gR rfl rfl rfl
theorem c3v(n:Nat)(p1:Big)(q1:Big):FnC Wt 66 [.agg [.int .i64 p1.Sign,.sl 2 p1.Digits],.agg [.int .i64 q1.Sign,.sl 2 q1.Digits]] (b1s n p1 q1) (fun r=> .tup [.agg [.int .i64 r.1.P.Sign,.sl 2 r.1.P.Digits,.int .i64 r.1.Q.Sign,.sl 2 r.1.Q.Digits],.int .i64 r.2]):=by
 refine a0z (n:=57) Tryz.func66 rfl rfl rfl (fun _ _=>by kernel_rfl) fun F0 w0 r=> ?_
 unfold b1s
 refine gK (a1u _ _) rfl rfl rfl fun v1=> ?_
 refine gJ 4 (fun v2=> [.v 21 (.ob v2)]) rfl (fun _=>rfl) (fun J1 hJ1=> ?_) (fun v2=> ?_)
 ·
  refine gD rfl (fun _=> ?_) (fun _=> ?_)
  ·
   exact gX hJ1 rfl (by kernel_rfl)
  ·
   refine gA ?_
   refine gK (a1u _ _) rfl rfl rfl fun v8=> ?_
   exact gX hJ1 rfl (by kernel_rfl)
 refine gC rfl (fun _=> ?_) (fun _=> ?_)
 ·
  exact gR rfl rfl rfl
 ·
  refine gC rfl (fun _=> ?_) (fun _=> ?_)
  ·
   exact gR rfl rfl rfl
  ·
   refine gM (fun j2=> [.b 2 [.int .i64 j2.2.2.1,.sl 2 j2.2.2.2],.b 3 [.int .i64 j2.1,.sl 2 j2.2.1]]) rfl (fun _=>rfl) (fun J2 hJ2=> ?_) (fun j2=> ?_)
   ·
    refine gD rfl (fun _=> ?_) (fun _=> ?_)
    ·
     refine gA ?_
     refine gK (b7q _ _) rfl rfl rfl fun v6=> ?_
     refine gA ?_
     refine gK (b7q _ _) rfl rfl rfl fun v7=> ?_
     exact gX hJ2 rfl (by kernel_rfl)
    ·
     exact gX hJ2 rfl (by kernel_rfl)
   obtain⟨f1,f2,f3,f4⟩:=j2;dsimp only
   refine gK (c4p _ _ _) rfl rfl rfl fun v3=> ?_
   refine gK (c3z _ _ _) rfl rfl rfl fun v4=> ?_
   refine gK (c3z _ _ _) rfl rfl rfl fun v5=> ?_
   exact gR rfl rfl rfl
theorem d5f(n:Nat)(p1:Int)(q1:Int):FnC Wt 59 [.int .i64 p1,.int .i64 q1] (b9r n p1 q1) (fun r=> .tup [.agg [.int .i64 r.1.P.Sign,.sl 2 r.1.P.Digits,.int .i64 r.1.Q.Sign,.sl 2 r.1.Q.Digits],.int .i64 r.2]):=by
 refine a0z (n:=13) Tryz.func59 rfl rfl rfl (fun _ _=>by kernel_rfl) fun F0 w0 r=> ?_
 unfold b9r
 refine gK (c0n _ _) rfl rfl rfl fun v1=> ?_
 refine gK (c0n _ _) rfl rfl rfl fun v2=> ?_
 refine gK (c3v _ _ _) rfl rfl rfl fun v3=> ?_
 exact gR rfl rfl rfl
theorem d1g(n:Nat)(ax1:Frac)(b1:Frac):FnC Wt 27 [.agg [.int .i64 ax1.P.Sign,.sl 2 ax1.P.Digits,.int .i64 ax1.Q.Sign,.sl 2 ax1.Q.Digits],.agg [.int .i64 b1.P.Sign,.sl 2 b1.P.Digits,.int .i64 b1.Q.Sign,.sl 2 b1.Q.Digits]] (b3d n ax1 b1) (fun r=> .tup [.agg [.int .i64 r.1.P.Sign,.sl 2 r.1.P.Digits,.int .i64 r.1.Q.Sign,.sl 2 r.1.Q.Digits],.int .i64 r.2]):=by
 refine a0z (n:=58) Tryz.func27 rfl rfl rfl (fun _ _=>by kernel_rfl) fun F0 w0 r=> ?_
 unfold b3d
 refine gK (b8p _ _) rfl rfl rfl fun v1=> ?_
 refine gJ 4 (fun v2=> [.v 21 (.ob v2)]) rfl (fun _=>rfl) (fun J1 hJ1=> ?_) (fun v2=> ?_)
 ·
  refine gD rfl (fun _=> ?_) (fun _=> ?_)
  ·
   exact gX hJ1 rfl (by kernel_rfl)
  ·
   refine gA ?_
   refine gK (b8p _ _) rfl rfl rfl fun v8=> ?_
   exact gX hJ1 rfl (by kernel_rfl)
 refine gC rfl (fun _=> ?_) (fun _=> ?_)
 ·
  exact gR rfl rfl rfl
 ·
  refine gK (b8d _ _ _) rfl rfl rfl fun v3=> ?_
  refine gK (b8d _ _ _) rfl rfl rfl fun v4=> ?_
  refine gK (b8d _ _ _) rfl rfl rfl fun v5=> ?_
  refine gK (d0t _ _ _) rfl rfl rfl fun v6=> ?_
  refine gK (c3v _ _ _) rfl rfl rfl fun v7=> ?_
  exact gR rfl rfl rfl
theorem b3q(n:Nat)(nx1:Int):FnC Wt 26 [.int .i64 nx1] (a6a n nx1) (fun r=> .agg [.int .i64 r.P.Sign,.sl 2 r.P.Digits,.int .i64 r.Q.Sign,.sl 2 r.Q.Digits]):=by
 refine a0z (n:=11) Tryz.func26 rfl rfl rfl (fun _ _=>by kernel_rfl) fun F0 w0 r=> ?_
 unfold a6a
 refine gK (d5f _ _ _) rfl rfl rfl fun v1=> ?_
 exact gR rfl rfl rfl
end Go.Proofs.YthaegflpecbfgaaGreatDoor.M
namespace Go.Proofs.YthaegflpecbfgaaGreatDoor.M
open Go Go.RowKit Rt
set_option maxRecDepth 1000000
set_option maxHeartbeats 40000000
theorem c6c(n:Nat)(nx1:Int)(high1:Int):FnC Wt 106 [.int .i64 nx1,.int .i64 high1] (c1c n nx1 high1) (fun r=> .ob r):=by
 refine a0z (n:=12) Tryz.func106 rfl rfl rfl (fun _ _=>by kernel_rfl) fun F0 w0 r=> ?_
 unfold c1c
 refine gJ 4 (fun v1=> [.v 11 (.ob v1)]) rfl (fun _=>rfl) (fun J1 hJ1=> ?_) (fun v1=> ?_)
 ·
  refine gD rfl (fun _=> ?_) (fun _=> ?_)
  ·
   exact gX hJ1 rfl (by kernel_rfl)
  ·
   exact gX hJ1 rfl (by kernel_rfl)
 exact gR rfl rfl rfl
theorem c7b(n:Nat)(k1:Int):FnC Wt 105 [.int .i64 k1] (a8j n k1) (fun r=> .ob r):=by
 refine a0z (n:=6) Tryz.func105 rfl rfl rfl (fun _ _=>by kernel_rfl) fun F0 w0 r=> ?_
 unfold a8j
 refine gK (c6c _ _ _) rfl rfl rfl fun v1=> ?_
 exact gR rfl rfl rfl
theorem c7f(n:Nat)(wx1:Frac):FnC Wt 107 [.agg [.int .i64 wx1.P.Sign,.sl 2 wx1.P.Digits,.int .i64 wx1.Q.Sign,.sl 2 wx1.Q.Digits]] (a8k n wx1) (fun r=> .ob r):=by
 refine a0z (n:=11) Tryz.func107 rfl rfl rfl (fun _ _=>by kernel_rfl) fun F0 w0 r=> ?_
 unfold a8k
 refine gK (a2e _ _) rfl rfl rfl fun v1=> ?_
 refine gJ 4 (fun v2=> [.v 10 (.ob v2)]) rfl (fun _=>rfl) (fun J1 hJ1=> ?_) (fun v2=> ?_)
 ·
  refine gD rfl (fun _=> ?_) (fun _=> ?_)
  ·
   exact gX hJ1 rfl (by kernel_rfl)
  ·
   refine gA ?_
   refine gK (b7t _ _) rfl rfl rfl fun v3=> ?_
   exact gX hJ1 rfl (by kernel_rfl)
 exact gR rfl rfl rfl
theorem a7z(n:Nat)(s1:(List Frac))(f1:(Frac->Option Bool)):FnH Wt 94 [.sl 3 s1] ⟨Frac,Bool,fun q=> [.agg [.int .i64 q.P.Sign,.sl 2 q.P.Digits,.int .i64 q.Q.Sign,.sl 2 q.Q.Digits]],fun q=>f1 q,fun r=> .ob r⟩ (a2j n s1 f1) (fun r=> .int .i64 r):=by
 refine b2v (n:=19) Tryz.func94 rfl rfl rfl (fun _ _=>by kernel_rfl) fun F0 w0 r u=> ?_
 unfold a2j
 refine a2r ((fun k0 m(s:Int)=>slices_IndexFunc_api_Frac_api_Frac_L1 n s1 f1 k0 m s) _) (fun(s:Int)=> [.v 8 (.int .i64 s)]) (fun _=>rfl) _ rfl rfl (fun _=>rfl) rfl fun K1 m1 hK1 i1=> ?_
 refine gC rfl (fun _=> ?_) (fun _=> ?_)
 ·
  refine gV rfl fun ex1=> ?_
  refine gKv (T:=Wt) (Φ:=⟨Frac,Bool,fun q=> [.agg [.int .i64 q.P.Sign,.sl 2 q.P.Digits,.int .i64 q.Q.Sign,.sl 2 q.Q.Digits]],fun q=>f1 q,fun r=> .ob r⟩) (u:=u) ex1 rfl rfl rfl fun v1=> ?_
  refine gC rfl (fun _=> ?_) (fun _=> ?_)
  ·
   exact gR rfl rfl rfl
  ·
   exact gE hK1 _ rfl (by kernel_rfl)
 ·
  exact gR rfl rfl rfl
theorem a2t(n:Nat)(s1:(List Frac))(f1:(Frac->Option Bool)):FnH Wt 45 [.sl 3 s1] ⟨Frac,Bool,fun q=> [.agg [.int .i64 q.P.Sign,.sl 2 q.P.Digits,.int .i64 q.Q.Sign,.sl 2 q.Q.Digits]],fun q=>f1 q,fun r=> .ob r⟩ (a0s n s1 f1) (fun r=> .ob r):=by
 refine b2v (n:=9) Tryz.func45 rfl rfl rfl (fun _ _=>by kernel_rfl) fun F0 w0 r u=> ?_
 unfold a0s
 refine gKh (FnH.up (a7z n _ f1)) rfl rfl rfl b6k fun v1=> ?_
 exact gR rfl rfl rfl
theorem d0p(n:Nat)(f1:Facts)(weights1:(List Frac))(nx1:Int):FnC Wt 51 [.agg [.sl 2 f1.Lifts,.int .i64 f1.Persons,.int .i64 f1.Flats],.sl 3 weights1,.int .i64 nx1] (b5c n f1 weights1 nx1) (fun r=> .ob r):=by
 refine a0z (n:=43) Tryz.func51 rfl rfl rfl (fun _ _=>by kernel_rfl) fun F0 w0 r=> ?_
 unfold b5c
 refine gJ 5 (fun v1=> [.v 19 (.ob v1)]) rfl (fun _=>rfl) (fun J1 hJ1=> ?_) (fun v1=> ?_)
 ·
  refine gD rfl (fun _=> ?_) (fun _=> ?_)
  ·
   exact gX hJ1 rfl (by kernel_rfl)
  ·
   exact gX hJ1 rfl (by kernel_rfl)
 refine gJ 4 (fun v2=> [.v 24 (.ob v2)]) rfl (fun _=>rfl) (fun J2 hJ2=> ?_) (fun v2=> ?_)
 ·
  refine gD rfl (fun _=> ?_) (fun _=> ?_)
  ·
   refine gA ?_
   refine gK (c6c _ _ _) rfl rfl rfl fun v9=> ?_
   exact gX hJ2 rfl (by kernel_rfl)
  ·
   exact gX hJ2 rfl (by kernel_rfl)
 refine gJ 4 (fun v3=> [.v 29 (.ob v3)]) rfl (fun _=>rfl) (fun J3 hJ3=> ?_) (fun v3=> ?_)
 ·
  refine gD rfl (fun _=> ?_) (fun _=> ?_)
  ·
   refine gA ?_
   refine gK (c6c _ _ _) rfl rfl rfl fun v8=> ?_
   exact gX hJ3 rfl (by kernel_rfl)
  ·
   exact gX hJ3 rfl (by kernel_rfl)
 refine gJ 6 (fun v4=> [.v 36 (.ob v4)]) rfl (fun _=>rfl) (fun J4 hJ4=> ?_) (fun v4=> ?_)
 ·
  refine gD rfl (fun _=> ?_) (fun _=> ?_)
  ·
   refine gA ?_
   refine gKh (a6m n _ (a8j n)) rfl rfl rfl (fvA rfl rfl (fun q=>c7b n q) default) fun v7=> ?_
   exact gX hJ4 rfl (by kernel_rfl)
  ·
   exact gX hJ4 rfl (by kernel_rfl)
 refine gJ 5 (fun v5=> [.v 42 (.ob v5)]) rfl (fun _=>rfl) (fun J5 hJ5=> ?_) (fun v5=> ?_)
 ·
  refine gD rfl (fun _=> ?_) (fun _=> ?_)
  ·
   refine gA ?_
   refine gKh (a2t n _ (a8k n)) rfl rfl rfl (fvA rfl rfl (fun q=>c7f n q) default) fun v6=> ?_
   exact gX hJ5 rfl (by kernel_rfl)
  ·
   exact gX hJ5 rfl (by kernel_rfl)
 exact gR rfl rfl rfl
theorem d1a(n:Nat)(f1:Frac):FnC Wt 52 [.agg [.int .i64 f1.P.Sign,.sl 2 f1.P.Digits,.int .i64 f1.Q.Sign,.sl 2 f1.Q.Digits]] (b5k n f1) (fun r=> .agg [.int .i64 r.P.Sign,.sl 2 r.P.Digits,.int .i64 r.Q.Sign,.sl 2 r.Q.Digits]):=by
 refine a0z (n:=16) Tryz.func52 rfl rfl rfl (fun _ _=>by kernel_rfl) fun F0 w0 r=> ?_
 unfold b5k
 refine gA ?_
 refine gHs [(1,(pL [0,2,8,10] (.two 2 6 (pL [] (.two 3 6 (pL [13,16,18,15,21,23,25,27] .nil) (pL [7,16,18,15,21,23,25,27] .nil))) (pL [5,7,16,18,15,21,23,25,27] .nil))))] rfl (by kernel_rfl) rfl rfl fun Ky=> ?_
 refine gH2 rfl ?_ ?_
 all_goals
  try refine gH2 rfl ?_ ?_
  all_goals
   refine gO (a3i _ _) rfl rfl rfl fun v1=> ?_
   refine gA ?_
   refine gO (a3i _ _) rfl rfl rfl fun v2=> ?_
   refine gB ?_
   refine gHe rfl ?_
   exact gR rfl rfl rfl
theorem c3b(n:Nat)(op1:Int)(ax1:Frac)(b1:Frac):FnC Wt 112 [.int .i64 op1,.agg [.int .i64 ax1.P.Sign,.sl 2 ax1.P.Digits,.int .i64 ax1.Q.Sign,.sl 2 ax1.Q.Digits],.agg [.int .i64 b1.P.Sign,.sl 2 b1.P.Digits,.int .i64 b1.Q.Sign,.sl 2 b1.Q.Digits]] (a9j n op1 ax1 b1) (fun r=> .agg [.int .i64 r.P.Sign,.sl 2 r.P.Digits,.int .i64 r.Q.Sign,.sl 2 r.Q.Digits]):=by
 refine a0z (n:=58) Tryz.func112 rfl rfl rfl (fun _ _=>by kernel_rfl) fun F0 w0 r=> ?_
 unfold a9j
 refine gC rfl (fun _=> ?_) (fun _=> ?_)
 ·
  refine gK (b6f _ _ _) rfl rfl rfl fun v1=> ?_
  exact gR rfl rfl rfl
 ·
  refine gC rfl (fun _=> ?_) (fun _=> ?_)
  ·
   refine gK (d4w _ _ _) rfl rfl rfl fun v2=> ?_
   exact gR rfl rfl rfl
  ·
   refine gC rfl (fun _=> ?_) (fun _=> ?_)
   ·
    refine gK (c0s _ _ _) rfl rfl rfl fun v3=> ?_
    exact gR rfl rfl rfl
   ·
    refine gC rfl (fun _=> ?_) (fun _=> ?_)
    ·
     refine gK (d4y _ _ _) rfl rfl rfl fun v4=> ?_
     exact gR rfl rfl rfl
    ·
     refine gC rfl (fun _=> ?_) (fun _=> ?_)
     ·
      refine gK (d5k _ _ _) rfl rfl rfl fun v5=> ?_
      exact gR rfl rfl rfl
     ·
      refine gC rfl (fun _=> ?_) (fun _=> ?_)
      ·
       refine gK (c5z _ _ _) rfl rfl rfl fun v6=> ?_
       exact gR rfl rfl rfl
      ·
       exact gR rfl rfl rfl
theorem b8g(n:Nat):(∀(k1:known)(x1:Expr),FnC Wt 53 [.agg [.sl 1 k1.names,.sl 2 k1.facts.Lifts,.int .i64 k1.facts.Persons,.int .i64 k1.facts.Flats,.sl 3 k1.weights],.agg [.int .i64 x1.Op,.int .i64 x1.N,.str x1.Name,.sl 0 x1.Args]] (fee_known_number n k1 x1) (fun r=> .agg [.int .i64 r.P.Sign,.sl 2 r.P.Digits,.int .i64 r.Q.Sign,.sl 2 r.Q.Digits]))/\(∀(k1:known)(x1:Expr),FnC Wt 111 [.agg [.sl 1 k1.names,.sl 2 k1.facts.Lifts,.int .i64 k1.facts.Persons,.int .i64 k1.facts.Flats,.sl 3 k1.weights],.agg [.int .i64 x1.Op,.int .i64 x1.N,.str x1.Name,.sl 0 x1.Args]] (fee_known_truth n k1 x1) (fun r=> .ob r)):=by
 induction n with
 |zero=>exact⟨fun _ _=>b4a (fun _ _=>by kernel_rfl),fun _ _=>b4a (fun _ _=>by kernel_rfl)⟩
 |succ n ih=>
  refine⟨?_,?_⟩
  ·intro k1 x1
   refine a0z (n:=81) Tryz.func53 rfl rfl rfl (fun _ _=>by kernel_rfl) fun F0 w0 r=> ?_
   rw [fee_known_number_s]
   refine gK (a4n _ _ _) rfl rfl rfl fun v1=> ?_
   refine gC rfl (fun _=> ?_) (fun _=> ?_)
   ·
    refine gK (a5y _ _) rfl rfl rfl fun v2=> ?_
    exact gR rfl rfl rfl
   ·
    refine gC rfl (fun _=> ?_) (fun _=> ?_)
    ·
     refine gV rfl fun ex1=> ?_
     refine gK (a5y _ _) rfl rfl rfl fun v3=> ?_
     exact gR rfl rfl rfl
    ·
     refine gC rfl (fun _=> ?_) (fun _=> ?_)
     ·
      refine gK (a5y _ _) rfl rfl rfl fun v4=> ?_
      exact gR rfl rfl rfl
     ·
      refine gC rfl (fun _=> ?_) (fun _=> ?_)
      ·
       refine gK (a5y _ _) rfl rfl rfl fun v5=> ?_
       exact gR rfl rfl rfl
      ·
       refine gC rfl (fun _=> ?_) (fun _=> ?_)
       ·
        refine gV rfl fun ex2=> ?_
        exact gR rfl rfl rfl
       ·
        refine gC rfl (fun _=> ?_) (fun _=> ?_)
        ·
         refine gHs [(0,(pL [0,2,5] .nil)),(1,(pL [0,4,2,6,9,11] .nil)),(6,(pL [0,2,6,4,8,10,13,15] .nil)),(12,(pL [0,4,2,6,8,11] .nil)),(14,(pL [2,0,4,6,8,11] .nil)),(15,(pL [0,2,4,6,8,11,13] .nil)),(16,(pL [0,2,4,6,8,11,13] .nil)),(17,(pL [0,2,4,6,8,10,12,16,18,20,22,24,15,27,29,31] .nil))] rfl (by kernel_rfl) rfl rfl fun Ky=> ?_
         refine gV rfl fun ex3=> ?_
         refine gK (ih.2 _ _) rfl rfl rfl fun v6=> ?_
         refine gHe rfl ?_
         refine gC rfl (fun _=> ?_) (fun _=> ?_)
         ·
          refine gHs [(0,(pL [0,2,5] .nil)),(1,(pL [0,4,2,6,9,11] .nil)),(6,(pL [0,2,6,4,8,10,13,15] .nil)),(12,(pL [0,4,2,6,8,11] .nil)),(14,(pL [2,0,4,6,8,11] .nil)),(15,(pL [0,2,4,6,8,11,13] .nil)),(16,(pL [0,2,4,6,8,11,13] .nil)),(17,(pL [0,2,4,6,8,10,12,16,18,20,22,24,15,27,29,31] .nil))] rfl (by kernel_rfl) rfl rfl fun Ky=> ?_
          refine gV rfl fun ex4=> ?_
          refine gK (ih.1 _ _) rfl rfl rfl fun v7=> ?_
          refine gHe rfl ?_
          exact gR rfl rfl rfl
         ·
          refine gHs [(0,(pL [0,2,5] .nil)),(1,(pL [0,4,2,6,9,11] .nil)),(6,(pL [0,2,6,4,8,10,13,15] .nil)),(12,(pL [0,4,2,6,8,11] .nil)),(14,(pL [2,0,4,6,8,11] .nil)),(15,(pL [0,2,4,6,8,11,13] .nil)),(16,(pL [0,2,4,6,8,11,13] .nil)),(17,(pL [0,2,4,6,8,10,12,16,18,20,22,24,15,27,29,31] .nil))] rfl (by kernel_rfl) rfl rfl fun Ky=> ?_
          refine gV rfl fun ex5=> ?_
          refine gK (ih.1 _ _) rfl rfl rfl fun v8=> ?_
          refine gHe rfl ?_
          exact gR rfl rfl rfl
        ·
         refine gHs [(0,(pL [0,2,5] .nil)),(1,(pL [0,4,2,6,9,11] .nil)),(6,(pL [0,2,6,4,8,10,13,15] .nil)),(12,(pL [0,4,2,6,8,11] .nil)),(14,(pL [2,0,4,6,8,11] .nil)),(15,(pL [0,2,4,6,8,11,13] .nil)),(16,(pL [0,2,4,6,8,11,13] .nil)),(17,(pL [0,2,4,6,8,10,12,16,18,20,22,24,15,27,29,31] .nil))] rfl (by kernel_rfl) rfl rfl fun Ky=> ?_
         refine gV rfl fun ex6=> ?_
         refine gV rfl fun ex7=> ?_
         refine gK (ih.1 _ _) rfl rfl rfl fun v9=> ?_
         refine gK (ih.1 _ _) rfl rfl rfl fun v10=> ?_
         refine gK (c3b _ _ _ _) rfl rfl rfl fun v11=> ?_
         refine gHe rfl ?_
         exact gR rfl rfl rfl
  ·intro k1 x1
   refine a0z (n:=69) Tryz.func111 rfl rfl rfl (fun _ _=>by kernel_rfl) fun F0 w0 r=> ?_
   rw [fee_known_truth_s]
   refine gC rfl (fun _=> ?_) (fun _=> ?_)
   ·
    refine gHs [(0,(pL [0,2,5] .nil)),(3,(pL [2,0,4,6,8,11,13,15] .nil)),(5,(pL [2,0,4,6,8,11,13,16,14,19,21,23,25,27,29] .nil)),(7,(pL [2,0,4,6,8,11,13,16,14,19,21,23,25,27,29] .nil)),(8,(pL [0,2,4,6,8,12,14,16,18,20,11,23,25,27] .nil))] rfl (by kernel_rfl) rfl rfl fun Ky=> ?_
    refine gV rfl fun ex1=> ?_
    refine gK (ih.2 _ _) rfl rfl rfl fun v1=> ?_
    refine gHe rfl ?_
    exact gR rfl rfl rfl
   ·
    refine gC rfl (fun _=> ?_) (fun _=> ?_)
    ·
     refine gHs [(0,(pL [0,2,5] .nil)),(3,(pL [2,0,4,6,8,11,13,15] .nil)),(5,(pL [2,0,4,6,8,11,13,16,14,19,21,23,25,27,29] .nil)),(7,(pL [2,0,4,6,8,11,13,16,14,19,21,23,25,27,29] .nil)),(8,(pL [0,2,4,6,8,12,14,16,18,20,11,23,25,27] .nil))] rfl (by kernel_rfl) rfl rfl fun Ky=> ?_
     refine gV rfl fun ex2=> ?_
     refine gK (ih.2 _ _) rfl rfl rfl fun v2=> ?_
     refine gD rfl (fun _=> ?_) (fun _=> ?_)
     ·
      refine gA ?_
      refine gV rfl fun ex3=> ?_
      refine gA ?_
      refine gK (ih.2 _ _) rfl rfl rfl fun v4=> ?_
      refine gB ?_
      refine gHe rfl ?_
      exact gR rfl rfl rfl
     ·
      refine gB ?_
      refine gHe rfl ?_
      exact gR rfl rfl rfl
    ·
     refine gC rfl (fun _=> ?_) (fun _=> ?_)
     ·
      refine gHs [(0,(pL [0,2,5] .nil)),(3,(pL [2,0,4,6,8,11,13,15] .nil)),(5,(pL [2,0,4,6,8,11,13,16,14,19,21,23,25,27,29] .nil)),(7,(pL [2,0,4,6,8,11,13,16,14,19,21,23,25,27,29] .nil)),(8,(pL [0,2,4,6,8,12,14,16,18,20,11,23,25,27] .nil))] rfl (by kernel_rfl) rfl rfl fun Ky=> ?_
      refine gV rfl fun ex4=> ?_
      refine gK (ih.2 _ _) rfl rfl rfl fun v5=> ?_
      refine gD rfl (fun _=> ?_) (fun _=> ?_)
      ·
       refine gB ?_
       refine gHe rfl ?_
       exact gR rfl rfl rfl
      ·
       refine gA ?_
       refine gV rfl fun ex5=> ?_
       refine gA ?_
       refine gK (ih.2 _ _) rfl rfl rfl fun v7=> ?_
       refine gB ?_
       refine gHe rfl ?_
       exact gR rfl rfl rfl
     ·
      refine gHs [(0,(pL [0,2,5] .nil)),(3,(pL [2,0,4,6,8,11,13,15] .nil)),(5,(pL [2,0,4,6,8,11,13,16,14,19,21,23,25,27,29] .nil)),(7,(pL [2,0,4,6,8,11,13,16,14,19,21,23,25,27,29] .nil)),(8,(pL [0,2,4,6,8,12,14,16,18,20,11,23,25,27] .nil))] rfl (by kernel_rfl) rfl rfl fun Ky=> ?_
      refine gV rfl fun ex6=> ?_
      refine gV rfl fun ex7=> ?_
      refine gK (ih.1 _ _) rfl rfl rfl fun v8=> ?_
      refine gK (ih.1 _ _) rfl rfl rfl fun v9=> ?_
      refine gK (b2s _ _ _) rfl rfl rfl fun v10=> ?_
      refine gHe rfl ?_
      refine gC rfl (fun _=> ?_) (fun _=> ?_)
      ·
       exact gR rfl rfl rfl
      ·
       exact gR rfl rfl rfl
theorem b9j(n:Nat)(k1:known)(x1:Expr):FnC Wt 53 [.agg [.sl 1 k1.names,.sl 2 k1.facts.Lifts,.int .i64 k1.facts.Persons,.int .i64 k1.facts.Flats,.sl 3 k1.weights],.agg [.int .i64 x1.Op,.int .i64 x1.N,.str x1.Name,.sl 0 x1.Args]] (fee_known_number n k1 x1) (fun r=> .agg [.int .i64 r.P.Sign,.sl 2 r.P.Digits,.int .i64 r.Q.Sign,.sl 2 r.Q.Digits]):=(b8g n).1 k1 x1
theorem b3k(n:Nat)(t1:Tariff)(names1:(List Bs))(f1:Facts)(weights1:(List Frac)):FnC Wt 17 [.agg [.str t1.Name,.int .i64 t1.Fee.Op,.int .i64 t1.Fee.N,.str t1.Fee.Name,.sl 0 t1.Fee.Args,.int .i64 t1.Cap],.sl 1 names1,.agg [.sl 2 f1.Lifts,.int .i64 f1.Persons,.int .i64 f1.Flats],.sl 3 weights1] (a4l n t1 names1 f1 weights1) (fun r=> .tup [.agg [.int .i64 r.1.P.Sign,.sl 2 r.1.P.Digits,.int .i64 r.1.Q.Sign,.sl 2 r.1.Q.Digits],.int .i64 r.2]):=by
 refine a0z (n:=33) Tryz.func17 rfl rfl rfl (fun _ _=>by kernel_rfl) fun F0 w0 r=> ?_
 unfold a4l
 refine gK (b6x _ _ _) rfl rfl rfl fun v1=> ?_
 refine gC rfl (fun _=> ?_) (fun _=> ?_)
 ·
  exact gR rfl rfl rfl
 ·
  refine gK (d0p _ _ _ _) rfl rfl rfl fun v2=> ?_
  refine gC rfl (fun _=> ?_) (fun _=> ?_)
  ·
   exact gR rfl rfl rfl
  ·
   refine gK (b9j _ _ _) rfl rfl rfl fun v3=> ?_
   refine gK (d1a _ _) rfl rfl rfl fun v4=> ?_
   exact gR rfl rfl rfl
theorem d0q(n:Nat)(t1:Tariff)(names1:(List Bs))(f1:Facts)(weights1:(List Frac)):FnC Wt 35 [.agg [.str t1.Name,.int .i64 t1.Fee.Op,.int .i64 t1.Fee.N,.str t1.Fee.Name,.sl 0 t1.Fee.Args,.int .i64 t1.Cap],.sl 1 names1,.agg [.sl 2 f1.Lifts,.int .i64 f1.Persons,.int .i64 f1.Flats],.sl 3 weights1] (b5a n t1 names1 f1 weights1) (fun r=> .ob r):=by
 refine a0z (n:=68) Tryz.func35 rfl rfl rfl (fun _ _=>by kernel_rfl) fun F0 w0 r=> ?_
 unfold b5a
 refine a2r ((fun k0 m(s:Int)=>ref36_Few_L1 n names1 k0 m s) _) (fun(s:Int)=> [.v 9 (.int .i64 s)]) (fun _=>rfl) _ rfl rfl (fun _=>rfl) rfl fun K1 m1 hK1 i1=> ?_
 refine gJ 3 (fun v8=> [.v 18 (.ob v8)]) rfl (fun _=>rfl) (fun J2 hJ2=> ?_) (fun v8=> ?_)
 ·
  refine gD rfl (fun _=> ?_) (fun _=> ?_)
  ·
   exact gX hJ2 rfl (by kernel_rfl)
  ·
   exact gX hJ2 rfl (by kernel_rfl)
 refine gC rfl (fun _=> ?_) (fun _=> ?_)
 ·
  refine gV rfl fun ex2=> ?_
  refine gC rfl (fun _=> ?_) (fun _=> ?_)
  ·
   exact gR rfl rfl rfl
  ·
   exact gE hK1 _ rfl (by kernel_rfl)
 ·
  refine a2r ((fun k0 m(s:Int)=>ref36_Few_L2 n weights1 k0 m s) _) (fun(s:Int)=> [.v 10 (.int .i64 s)]) (fun _=>rfl) _ rfl rfl (fun _=>rfl) rfl fun K3 m3 hK3 i2=> ?_
  refine gJ 3 (fun v6=> [.v 34 (.ob v6)]) rfl (fun _=>rfl) (fun J4 hJ4=> ?_) (fun v6=> ?_)
  ·
   refine gD rfl (fun _=> ?_) (fun _=> ?_)
   ·
    exact gX hJ4 rfl (by kernel_rfl)
   ·
    exact gX hJ4 rfl (by kernel_rfl)
  refine gC rfl (fun _=> ?_) (fun _=> ?_)
  ·
   refine gV rfl fun ex1=> ?_
   refine gK (d1o _ _ _) rfl rfl rfl fun v7=> ?_
   refine gC rfl (fun _=> ?_) (fun _=> ?_)
   ·
    exact gR rfl rfl rfl
   ·
    exact gE hK3 _ rfl (by kernel_rfl)
  ·
   refine gK (b7v _ _ _ _) rfl rfl rfl fun v1=> ?_
   refine gJ 5 (fun v2=> [.v 51 (.ob v2)]) rfl (fun _=>rfl) (fun J5 hJ5=> ?_) (fun v2=> ?_)
   ·
    refine gD rfl (fun _=> ?_) (fun _=> ?_)
    ·
     exact gX hJ5 rfl (by kernel_rfl)
    ·
     exact gX hJ5 rfl (by kernel_rfl)
   refine gJ 4 (fun v3=> [.v 56 (.ob v3)]) rfl (fun _=>rfl) (fun J6 hJ6=> ?_) (fun v3=> ?_)
   ·
    refine gD rfl (fun _=> ?_) (fun _=> ?_)
    ·
     exact gX hJ6 rfl (by kernel_rfl)
    ·
     exact gX hJ6 rfl (by kernel_rfl)
   refine gJ 5 (fun v4=> [.v 62 (.ob v4)]) rfl (fun _=>rfl) (fun J7 hJ7=> ?_) (fun v4=> ?_)
   ·
    refine gD rfl (fun _=> ?_) (fun _=> ?_)
    ·
     exact gX hJ7 rfl (by kernel_rfl)
    ·
     exact gX hJ7 rfl (by kernel_rfl)
   refine gJ 4 (fun v5=> [.v 67 (.ob v5)]) rfl (fun _=>rfl) (fun J8 hJ8=> ?_) (fun v5=> ?_)
   ·
    refine gD rfl (fun _=> ?_) (fun _=> ?_)
    ·
     exact gX hJ8 rfl (by kernel_rfl)
    ·
     exact gX hJ8 rfl (by kernel_rfl)
   exact gR rfl rfl rfl
end Go.Proofs.YthaegflpecbfgaaGreatDoor.M
namespace Go.Proofs.YthaegflpecbfgaaGreatDoor.Rt
open Go Go.RowKit
set_option linter.unusedVariables false
set_option linter.unusedSimpArgs false
mutual
def AV.ren{ty:Nat->Type}(g:Nat->Nat):AV ty->AV ty
 | .agg l=> .agg (AV.renL g l)
 | .tup l=> .tup (AV.renL g l)
 | .clo f l=> .clo f (AV.renL g l)
 | .fb l o=> .fb (AV.renL g l) o
 | .bx j o=> .bx (g j) o
 | .sb j c k=> .sb (g j) c k
 | .row j=> .row (g j)
 | .rel j c x p o=> .rel (g j) c x p o
 | .rw j lo hi=> .rw (g j) lo hi
 | .int k x=> .int k x
 | .bool b=> .bool b
 | .ob b=> .ob b
 | .lb c b=> .lb c b
 | .str l=> .str l
 | .val v=> .val v
 | .sl c xs=> .sl c xs
 | .el c x o=> .el c x o
 | .any=> .any
def AV.renL{ty:Nat->Type}(g:Nat->Nat):List (AV ty)->List (AV ty)
 | []=> []
 |x::l=>AV.ren g x::AV.renL g l
 end
def AO.ren{ty:Nat->Type}(g:Nat->Nat):AO ty->AO ty
 | .box T cs=> .box T (AV.renL g cs)
 | .row e q c xs=> .row e q c xs
 |_=> .gone
def renH{ty:Nat->Type}(g:Nat->Nat):List (AO ty)->List (AO ty)
 | []=> []
 |o::l=>o.ren g::renH g l
section
variable{ty:Nat->Type}{rp:∀c,Rp (ty c)}{S S2:List OE}{F:Frz}{g:Nat->Nat}
mutual
theorem Conc.ren(h:∀(j:Nat)(e:OE),S[j]?=some e->S2[g j]?=some e):∀{x:AV ty}{v:Value},Conc rp S F x v->Conc rp S2 F (AV.ren g x) v
 | .int k x,v,h1=>h1
 | .bool b,v,h1=>h1
 | .ob b,v,h1=>h1
 | .lb c b,v,h1=>h1
 | .str l,v,h1=>h1
 | .val u,v,h1=>h1
 | .agg l,v,⟨cs,h1,h2⟩=>⟨cs,h1,ConcL.ren h h2⟩
 | .tup l,v,⟨cs,h1,h2⟩=>⟨cs,h1,ConcL.ren h h2⟩
 | .clo f l,v,⟨cs,h1,h2⟩=>⟨cs,h1,ConcL.ren h h2⟩
 | .fb l o,v,⟨b,cs,h1,h2,h3⟩=>⟨b,cs,h1,h2,ConcL.ren h h3⟩
 | .sl c xs,v,h1=>h1
 | .bx j o,v,⟨b,T,cs,h1,h2⟩=>⟨b,T,cs,h _ _ h1,h2⟩
 | .sb j c k,v,⟨b,T,cs,h1,h2⟩=>⟨b,T,cs,h _ _ h1,h2⟩
 | .el c x o,v,h1=>h1
 | .row j,v,⟨e,q,a,m,n,xs,h1,h2⟩=>⟨e,q,a,m,n,xs,h _ _ h1,h2⟩
 | .rel j c x p o,v,⟨e,b,m,n,us,cs,h1,h2⟩=>⟨e,b,m,n,us,cs,h _ _ h1,h2⟩
 | .rw j lo hi,v,⟨e,q,b,m,n,xs,h1,h2⟩=>⟨e,q,b,m,n,xs,h _ _ h1,h2⟩
 | .any,v,_=>trivial
theorem ConcL.ren(h:∀(j:Nat)(e:OE),S[j]?=some e->S2[g j]?=some e):∀{l:List (AV ty)}{cs:List Value},ConcL rp S F l cs->ConcL rp S2 F (AV.renL g l) cs
 | [],_,h1=>h1
 |_::_,_,⟨v,k,h1,h2,h3⟩=>⟨v,k,h1,Conc.ren h h2,ConcL.ren h h3⟩
 end
theorem RelO.ren{K K2:Snap}(h:∀(j:Nat)(e:OE),S[j]?=some e->S2[g j]?=some e){o:AO ty}{e:OE}(h1:RelO rp K S F o e):RelO rp K2 S2 F (o.ren g) e:=by
 cases o with
 |box T cs=>obtain⟨b,us,e1,e2⟩:=h1;exact⟨b,us,e1,e2.ren h⟩
 |row el q c xs=>exact h1
 |_=>trivial
theorem d4b(g:Nat->Nat):∀H:List (AO ty),renH g H=H.map (AO.ren g)
 | []=>rfl
 |o::l=>by rw [renH,d4b g l];rfl
theorem RelH.append{K:Snap}{R:List OE}{H H2:List (AO ty)}{A B:List OE}(h:RelH rp K R F H A)(h2:RelH rp K R F H2 B):RelH rp K R F (H++H2) (A++B):=by
 refine⟨by rw [List.length_append,List.length_append,h.1,h2.1],fun i o ho=> ?_⟩
 rcases Nat.lt_or_ge i H.length with hi|hi
 ·rw [List.getElem?_append_left hi]at ho
  obtain⟨e,h3,h4⟩:=h.2 i o ho
  exact⟨e,by rw [List.getElem?_append_left (by rw [<-h.1];exact hi)];exact h3,h4⟩
 ·rw [List.getElem?_append_right hi]at ho
  obtain⟨e,h3,h4⟩:=h2.2 _ o ho
  exact⟨e,by rw [List.getElem?_append_right (by rw [<-h.1];exact hi),<-h.1];exact h3,h4⟩
theorem RelH.renAt{K K2:Snap}{H:List (AO ty)}{B:List OE}(h:∀(j:Nat)(e:OE),S[j]?=some e->S2[g j]?=some e)(h1:RelH rp K S F H B):RelH rp K2 S2 F (renH g H) B:=by
 rw [d4b]
 refine⟨by rw [List.length_map];exact h1.1,fun i o ho=> ?_⟩
 rw [List.getElem?_map]at ho
 obtain⟨o',e1,rfl⟩:=Option.map_eq_some_iff.1 ho
 obtain⟨e,h3,h4⟩:=h1.2 i o' e1
 exact⟨e,h3,h4.ren h⟩
end
def addN(k j:Nat):Nat:=k+j
def e1m(i k j:Nat):Nat:=match Nat.beq j 0 with
 |true=>i
 |false=>k+(j-1)
section
variable{P:Program}(T:Tbl P)
def FnLG(f:FuncId){ρ:Type}(t:TypeId)(cs az:List (AV T.ty))(m:Option ρ)(cs':ρ->List (AV T.ty))(Hs:ρ->List (AO T.ty))(res:ρ->AV T.ty):Prop:=
 Ent P f/\∀r,m=some r->∀w F,Sat F w->T.gl F->∀b ws us,w.heap[b]?=some (.cells ws.toArray t (0,0))->F b=none->ConcL T.rp [] F cs ws->ConcL T.rp [.box b t ws] F az us->
  Calls P f us.toArray w fun e w'=>∃v F' ws' S,e= .returned v/\HS F w [b] F' (.box b t ws'::S) w'/\RelH T.rp Snap.nil (.box b t ws'::S) F' (.box t (cs' r)::Hs r) (.box b t ws'::S)/\Conc T.rp (.box b t ws'::S) F' (res r) v
def evGc(n:Nat)(s:St T.ty):Option (FuncId×List (AV T.ty)×(List (AO T.ty)->AV T.ty->St T.ty)):=match s with
 |⟨.ops all (o::l),k,e,H⟩=>match a9b all e o.guard,o.dst,o.op with
  |true,some d,.call ⟨.value c,args,_⟩=>match Nat.blt d n,opA e c,opL e args.toList with
   |true,some (.val (.func (.func f) fi ca)),some az=>match fi.toList,ca.toList,frzW T (H.length+1) az e H with
    | [],[],some (as',e',H')=>some (f,as',fun Hs v=>⟨.ops all l,k,(d,v.ren (addN H'.length))::e',H'++renH (addN H'.length) Hs⟩)
    |_,_,_=>none
   |_,_,_=>none
  |_,_,_=>none
 |_=>none
structure LVG(ty:Nat->Type)where
 f:FuncId
 t:TypeId
 cs:List (AV ty)
 az:List (AV ty)
 nx:List (AV ty)->List (AO ty)->AV ty->St ty
def e5u(n:Nat)(s:St T.ty):Option (LVG T.ty):=match s with
 |⟨.ops all (o::l),k,e,H⟩=>match a9b all e o.guard,o.dst,o.op with
  |true,some d,.call ⟨.value c,args,_⟩=>match Nat.blt d n,opA e c,opL e args.toList with
   |true,some (.val (.func (.func f) fi ca)),some az=>match fi.toList,ca.toList,lentOf T az with
    | [],[],some i=>match H[i]? with
      |some (.box _ cs0)=>match frzW T (H.length+1) (.agg cs0::az) e H with
       |some (_::as',e',H')=>match H'[i]? with
        |some (.box t cs)=>some ⟨f,t,cs,b4n T i as',fun cs' Hs v=>⟨.ops all l,k,(d,v.ren (e1m i H'.length))::e',H'.set i (.box t (AV.renL (e1m i H'.length) cs'))++renH (e1m i H'.length) Hs⟩⟩
        |_=>none
       |_=>none
      |_=>none
    |_,_,_=>none
   |_,_,_=>none
  |_,_,_=>none
 |_=>none
def evRX(fn:Func)(s:St T.ty):Option (List (AO T.ty)×AV T.ty):=match s with
 |⟨.out .ret,[],e,H⟩=>match resA T e H fn.results.toList with
  |some [x]=>some (H,x)
  |_=>none
 |_=>none
def evBs(n:Nat)(s:St T.ty):Option (St T.ty):=match s with
 |⟨.ops all (o::l),k,e,H⟩=>match a9b all e o.guard,o.dst,o.op with
  |true,some d,.buildSlice t kk ps=>match Nat.blt d n,T.und t with
   |true,some (.slice el)=>match T.size el,T.zero el with
    |some q,some _=>match Nat.ble (kk*q) 16777216,bldA T (fun i=>some (i*q,q)) e ps.toList (anys (kk*q))with
     |true,some cs=>some ⟨.ops all l,k,(d,.sb H.length (T.cod t) kk)::e,snoc (.box el cs) H⟩
     |_,_=>none
    |_,_=>none
   |_,_=>none
  |_,_,_=>none
 |_=>none
def evFi(i:Nat)(s:St T.ty):Option (St T.ty):=match s with
 |⟨c,k,e,H⟩=>match calm c,H[i]? with
  |true,some (.row _ _ _ _)=>match frzW T (H.length+1) [.row i] e H with
   |some (_,e',H')=>some ⟨c,k,e',H'⟩
   |none=>none
  |_,_=>none
def sbS{ty:Nat->Type}(c k:Nat)(xs:List (ty c))(c' k':Nat):AV ty:=match Nat.beq c' c,Nat.beq k' k with
 |true,true=> .sl c xs
 |_,_=> .any
def evFs(i c q k:Nat)(s:St T.ty):Option (St T.ty):=match s with
 |⟨ct,ks,e,H⟩=>match calm ct,H[i]? with
  |true,some (.box _ cs)=>match a8v cs,Nat.ble k maxLen,decL T c q k cs with
   |true,true,some xs=>match putA i .gone (d1e i (fun _=> .any) (sbS c k xs) H)with
    |some H'=>some ⟨ct,ks,e0r i (fun _=> .any) (sbS c k xs) e,H'⟩
    |none=>none
   |_,_,_=>none
  |_,_=>none
end
section
variable{P:Program}{T:Tbl P}{Q:Exit->Act->World->Prop}{n:Nat}{F0:Frz}{w0:World}{X:List Nat}{Kz:Snap}{ρ:Type}
theorem e5h{s s':St T.ty}(h:evBs T n s=some s')(k:Sm T Q n F0 w0 X Kz s'):Sm T Q n F0 w0 X Kz s:=by
 unfold evBs at h
 split at h
 ·rename_i all o l its e H
  split at h
  ·rename_i d t kk ps hg hd ho
   split at h
   ·rename_i el hn hu
    split at h
    ·rename_i q z hS hz
     split at h
     ·rename_i cs hk1 hb
      cases h
      obtain⟨dst,op,type,pos,after,guard⟩:=o
      dsimp only at hg hd ho
      subst hd;subst ho
      intro R F m w h1 h2 h3 hX
      have hzl:=d9s z (kk*q)
      obtain⟨vl,us,g1,g2,g3,g4⟩:=c4o (us:=zws z (kk*q)) h1 hb (by
       have:=anys_ok (T:=T) (R:=R) (F:=F) (us:=zws z (kk*q))
       rwa [hzl]at this)
      obtain⟨ps⟩:=ps
      have hrun:=fun w=>b7b (P:=P) (T.undOk hu) (T.sizeOk hS) (T.zeroOk hz) (Nat.le_of_ble_eq_true hk1) g3 w
      have h4:HS F0 w0 X F (R++ [.box w.heap.size el us]) (w.alloc (.cells us.toArray el)):=
       (h3.add (World.grownBy_alloc w _ none) (e':= .box w.heap.size el us) (by show(w.alloc _).heap[w.heap.size]?=_;rw [heap_alloc_new]) (by simp [OE.blk])).addEnd
      have hk:Keep R F (R++ [.box w.heap.size el us]) F:=Keep.more (Frz.refl F)
      refine b4m rfl (by simpa using hn) (a3g h1 hg) (v:= .slice (some ⟨w.heap.size,0,none⟩) kk kk) (fun a ha=> ?_) (k _ F _ _ ((h1.mono hk).put ⟨w.heap.size,el,us,?_,rfl⟩) ?_ h4 (hX.keep hk))
      ·simp only [execOp]
       rw [a9m ha g1]
       simp [hrun w]
      ·rw [h2.1];simp
      ·show RelH _ _ _ _ (snoc _ H) _
       rw [b3p]
       exact(h2.mono hk).add ⟨_,us,rfl,g2.mono hk⟩
     ·cases h
    ·cases h
   ·cases h
  ·cases h
 ·cases h
theorem gEq{r:ρ}{m m':Option ρ}{s:St T.ty}(e:m=m')(g:G T Q n F0 w0 X Kz r m' s):G T Q n F0 w0 X Kz r m s:=e▸g
theorem gBs{r:ρ}{m:Option ρ}{s s':St T.ty}(h:evBs T n (rn T n s)=some s')(g:G T Q n F0 w0 X Kz r m s'):G T Q n F0 w0 X Kz r m s:=fun hm=>a7k (e5h h (g hm))
theorem e2u{s:St T.ty}{q:LVG T.ty}(h:e5u T n s=some q){α:Type}{cs az:List (AV T.ty)}{mr:Option α}{cs':α->List (AV T.ty)}{Hs:α->List (AO T.ty)}{res:α->AV T.ty}(hF:FnLG T q.f q.t cs az mr cs' Hs res)(hc:cnvL q.cs cs=cs)(hcp:a8v cs=true)(ha:cnvL q.az az=az)(hp:pureL1 T q.az=true){r:α}(hr:mr=some r)
 (k:Sm T Q n F0 w0 X Kz (q.nx (cs' r) (Hs r) (res r))):Sm T Q n F0 w0 X Kz s:=by
 unfold e5u at h
 split at h
 ·rename_i all o l its e H
  split at h
  ·rename_i d cc args ts hg hd ho
   split at h
   ·rename_i f0 fi ca as1 hn hf hl
    split at h
    ·rename_i i hfi hca hlent
     split at h
     ·rename_i t0 cs0 hi0
      split at h
      ·rename_i x1 as' e' H' hz
       split at h
       ·rename_i t csx hi
        cases h
        dsimp only at hF hc ha hp k
        intro R F m w h1 h2 h3 hX
        obtain⟨us,g1,g2⟩:=c0u h1 hl
        obtain⟨en,b1,b0,ws0,rfl,b2⟩:=h2.2 i _ hi0
        obtain⟨R',F',k1,k2,k3,k4,k5,v0,r0,k6,k7,k9⟩:=b0j (us:= .agg ws0.toArray::us) hz h1 h2 h3 hX ⟨_,_,rfl,⟨ws0,rfl,b2⟩,g2⟩
        obtain⟨rfl,rfl⟩:=List.cons.inj k6
        obtain⟨en,c1,b,ws,rfl,c2⟩:=k3.2 i _ hi
        have c3:=c2.cnv cs
        rw [hc]at c3
        have k10:=(b9y c1 hp k9).cnv az
        rw [ha]at k10
        obtain⟨u,g3,g4⟩:=a0v h1 hf
        simp only [Conc]at g4
        subst g4
        have hfi:fi= #[]:=Array.toList_eq_nil_iff.1 hfi
        have hca:ca= #[]:=Array.toList_eq_nil_iff.1 hca
        subst hfi;subst hca
        obtain⟨dst,op,type,pos,after,guard⟩:=o
        dsimp only at hg hd ho
        subst hd;subst ho
        obtain⟨args⟩:=args
        refine a2w (R:=fun v F2 ws' S=>RelH T.rp Snap.nil (.box b t ws'::S) F2 (.box t (cs' r)::Hs r) (.box b t ws'::S)/\Conc T.rp (.box b t ws'::S) F2 (res r) v) hF.1 (a3g h1 hg) hn g3 g1 k4 c1
         ((hF.2 r hr w F' k4.sat k5.2 b ws us (k4.get c1) (k4.lendable c1) (c3.pure hcp) k10).mono fun _ _⟨v,F2,ws',S,e1,e2,e3,e4⟩=>⟨v,F2,ws',S,e1,e2,e3,e4⟩)
         (fun v F2 ws' S w' hle hS⟨e2,e3⟩=> ?_)
        have hlt:=(List.getElem?_eq_some_iff.1 c1).1
        have hk:Keep R' F' (R'.set i (.box b t ws')++S) F2:=by
         refine⟨hle,fun j b' t' us' hj=> ?_,fun j e2 q a m' n' xs hj=> ?_⟩
         ·rw [List.getElem?_append_left (by rw [List.length_set];exact(List.getElem?_eq_some_iff.1 hj).1),List.getElem?_set]
          by_cases hij:i=j
          ·subst hij
           rw [c1]at hj;cases hj
           rw [if_pos rfl,if_pos hlt]
           exact⟨_,rfl⟩
          ·rw [if_neg hij];exact⟨_,hj⟩
         ·rw [List.getElem?_append_left (by rw [List.length_set];exact(List.getElem?_eq_some_iff.1 hj).1),List.getElem?_set]
          by_cases hij:i=j
          ·subst hij;rw [c1]at hj;cases hj
          ·rw [if_neg hij];exact hj
        have hre:∀(j:Nat)(en:OE),(OE.box b t ws'::S)[j]?=some en->(R'.set i (.box b t ws')++S)[e1m i H'.length j]?=some en:=by
         intro j en hj
         cases j with
         |zero=>
          show(R'.set i (.box b t ws')++S)[i]?=some en
          rw [List.getElem?_append_left (by rw [List.length_set];exact hlt),List.getElem?_set,if_pos rfl,if_pos hlt];exact hj
         |succ j=>
          show(R'.set i (.box b t ws')++S)[H'.length+j]?=some en
          rw [k3.1,List.getElem?_append_right (by rw [List.length_set];omega),List.length_set,Nat.add_sub_cancel_left];exact hj
        obtain⟨en,d1,d2⟩:=e2.2 0 _ rfl
        simp only [List.getElem?_cons_zero,Option.some.injEq]at d1
        subst d1
        have d3:RelH T.rp Snap.nil (.box b t ws'::S) F2 (Hs r) S:=⟨by simpa using e2.1,fun j o hj=>by simpa using e2.2 (j+1) o (by simpa using hj)⟩
        exact k (R'.set i (.box b t ws')++S) F2 _ w' ((k2.mono hk).put (e3.ren hre)) (((k3.mono hk).set i (RelO.ren (K:=Snap.nil) hre d2)).append (d3.renAt hre)) (hS.perm List.perm_append_comm) (k5.keep hk)
       ·cases h
      ·cases h
     ·cases h
    ·cases h
   ·cases h
  ·cases h
 ·cases h
theorem gLGc{r:ρ}{α:Type}{x:Option α}{g:α->Option ρ}{f:FuncId}{t:TypeId}{cs0 cs as0 az:List (AV T.ty)}{cs':α->List (AV T.ty)}{Hs:α->List (AO T.ty)}{res:α->AV T.ty}{nx:List (AV T.ty)->List (AO T.ty)->AV T.ty->St T.ty}{s:St T.ty}(hF:FnLG T f t cs az x cs' Hs res)(h:e5u T n (rn T n s)=some ⟨f,t,cs0,as0,nx⟩)(hc:cnvL cs0 cs=cs)(hcp:a8v cs=true)(ha:cnvL as0 az=az)(hp:pureL1 T as0=true)
 (k:∀v,G T Q n F0 w0 X Kz r (g v) (nx (cs' v) (Hs v) (res v))):G T Q n F0 w0 X Kz r (x.bind g) s:=fun hm=>by
 obtain⟨v,hv,hm⟩:=bind_some hm
 exact a7k (e2u h hF hc hcp ha hp hv (k v hm))
def e9o(T:Tbl P)(fn:Func)(F0:Frz)(w0:World)(b:Nat)(t:TypeId)(cs':ρ->List (AV T.ty))(Hs:ρ->List (AO T.ty))(res:ρ->AV T.ty)(r:ρ):Exit->Act->World->Prop:=bodyPost P fn fun e w'=>∃v F' ws' S,e= .returned v/\HS F0 w0 [b] F' (.box b t ws'::S) w'/\RelH T.rp Snap.nil (.box b t ws'::S) F' (.box t (cs' r)::Hs r) (.box b t ws'::S)/\Conc T.rp (.box b t ws'::S) F' (res r) v
theorem e6m{fn:Func}{s:St T.ty}{H:List (AO T.ty)}{x:AV T.ty}(h:evRX T fn s=some (H,x)){A:Ending->World->Prop}(hA:∀R F w v,RelH T.rp Kz R F H R->HS F0 w0 X F R w->LG T X R F->Conc T.rp R F x v->A (.returned v) w):Sm T (bodyPost P fn A) n F0 w0 X Kz s:=by
 unfold evRX at h
 split at h
 ·rename_i e H
  split at h
  ·rename_i x hl
   cases h
   intro R F m w h1 h2 h3 hX
   obtain⟨us,g1,g2⟩:=c0g (n:=n) h1 h2 h3 hl
   obtain⟨v,us',rfl,g3,g4⟩:=g1
   simp only [ConcL]at g4
   subst g4
   refine d0o (v:=v) (fun a' ha=> ?_) (hA R F w v h2 h3 hX g3)
   have g7:=g2 a' ha
   rw [b6i,Array.mapM_eq_mapM_toList]
   simp [g7]
  ·cases h
 ·cases h
theorem gRLG{fn:Func}{b:Nat}{t:TypeId}{cs':ρ->List (AV T.ty)}{Hs:ρ->List (AO T.ty)}{res:ρ->AV T.ty}{r a:ρ}{s:St T.ty}(h:evRX T fn (rn T n s)=some (.box t (cs' a)::Hs a,res a)):G T (e9o T fn F0 w0 b t cs' Hs res r) n F0 w0 [b] Snap.nil r (some a) s:=fun hm=>by
 cases hm
 refine a7k (e6m h fun R F w v h2 h3 hX hc=> ?_)
 obtain⟨en,c1,b',ws,rfl,c2⟩:=h2.2 0 _ rfl
 obtain⟨t2,cs2,c3⟩:=hX.1 0 b rfl
 rw [c1]at c3;cases c3
 obtain⟨S,rfl⟩:∃S,R= .box b t ws::S:=by
  cases R with
  |nil=>cases c1
  |cons y S=>simp only [List.getElem?_cons_zero,Option.some.injEq]at c1;subst c1;exact⟨S,rfl⟩
 exact⟨v,F,ws,S,rfl,h3,h2,hc⟩
theorem e6q{f:FuncId}{fn:Func}{co:Code}(hf:P.funcs[f]?=some fn)(hb:fn.body=some co)(hn:fn.ntmps=n){cs az:List (AV T.ty)}(hle:Nat.ble az.length n=true)(he:Ent P f){m:Option ρ}{t:TypeId}{cs':ρ->List (AV T.ty)}{Hs:ρ->List (AO T.ty)}{res:ρ->AV T.ty}
 (h:∀F0 w0 b r,G T (e9o T fn F0 w0 b t cs' Hs res r) n F0 w0 [b] Snap.nil r m ⟨.code co,[],argE 0 az,[.box t cs]⟩):FnLG T f t cs az m cs' Hs res:=by
 refine⟨he,fun r hr w F hs hg b ws us hbx hfb hcs hus=> ?_⟩
 refine a2g n hf hb hn (by rw [hus.len];exact hle) ?_
 refine h F w b r hr [.box b t ws] F _ w (c0o 0 hus) ⟨rfl,fun i o hi=> ?_⟩ (HS.lend hs hbx hfb) ⟨fun j b' hb=> ?_,hg⟩
 ·cases i with
  |zero=>cases hi;exact⟨_,rfl,b,ws,rfl,hcs.mono (c9c (Frz.refl F))⟩
  |succ i=>simp at hi
 ·cases j with
  |zero=>cases hb;exact⟨t,ws,rfl⟩
  |succ j=>simp at hb
theorem gFi(i:Nat){r:ρ}{m:Option ρ}{s s':St T.ty}(h:evFi T i (rn T n s)=some s')(g:G T Q n F0 w0 X Kz r m s'):G T Q n F0 w0 X Kz r m s:=fun hm=>by
 refine a7k ?_
 revert h
 generalize rn T n s=s2
 intro h
 unfold evFi at h
 split at h
 rename_i c k e H
 split at h
 ·rename_i el q cc xs hc hi
  split at h
  ·rename_i as' e' H' hz
   cases h
   intro R F mm w h1 h2 h3 hX
   obtain⟨en,u1,a,m',n',us,rfl,u2⟩:=h2.2 i _ hi
   obtain⟨R',F',k1,k2,k3,k4,k5,k6⟩:=b0j (us:= [.slice a m' n']) hz h1 h2 h3 hX ⟨_,[],rfl,⟨_,_,_,_,_,_,u1,rfl⟩,rfl⟩
   exact d1w hc (g hm R' F' mm w k2 k3 k4 k5)
  ·cases h
 ·cases h
theorem gFs(i c q k:Nat){r:ρ}{m:Option ρ}{s s':St T.ty}(h:evFs T i c q k (rn T n s)=some s')(hx:Nat.ble X.length i=true)(g:G T Q n F0 w0 X Kz r m s'):G T Q n F0 w0 X Kz r m s:=fun hm=>by
 refine a7k ?_
 revert h
 generalize rn T n s=s2
 intro h
 unfold evFs at h
 split at h
 rename_i ct ks e H
 split at h
 ·rename_i t cs hct hi
  split at h
  ·rename_i xs hp hk hdec
   split at h
   ·rename_i H' hput
    cases h
    intro R F mm w h1 h2 h3 hX
    obtain⟨R',F',hT,g1,g2,g3⟩:=e8l (r:=fun _=> .any) (s:=sbS c k xs) h2 h3 hX hi hp (Nat.le_of_ble_eq_true hx) (fun R' F' b us hc hl=>⟨fun o=>trivial,fun c' k'=>by
     unfold sbS
     split
     ·rename_i e1 e2
      obtain rfl:=Nat.eq_of_beq_eq_true e1
      obtain rfl:=Nat.eq_of_beq_eq_true e2
      obtain⟨d1,d2⟩:=d0s hdec hl
      exact⟨_,_,_,rfl,d1.1,Nat.le_of_eq d1.1,Nat.le_of_ble_eq_true hk,.inr ⟨b,0,us,rfl,hc,d1.2⟩⟩
     ·trivial⟩)
    rw [<-b8e hput]at g1
    exact d1w hct (g hm R' F' mm w (h1.subB hT) g1 g2 g3)
   ·cases h
  ·cases h
 ·cases h
end
end Go.Proofs.YthaegflpecbfgaaGreatDoor.Rt
