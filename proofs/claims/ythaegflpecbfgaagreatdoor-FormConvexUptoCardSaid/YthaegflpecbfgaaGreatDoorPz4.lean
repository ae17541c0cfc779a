/- Several texts in one, for FormConvex.card: what the theorem leans on. -/
import Derived.Test.YthaegflpecbfgaaGreatDoorRows
import Derived.Test.YthaegflpecbfgaaGreatDoorPz3
set_option maxHeartbeats 1000000
set_option maxRecDepth 1000000
namespace Go.Proofs.YthaegflpecbfgaaGreatDoor.Rt
open Go Go.RowKit
set_option linter.unusedVariables false
set_option linter.unusedSimpArgs false
inductive Pl where
 |nil
 |tk (i:Nat) (p:Pl)
 |st (i:Nat) (p:Pl)
 |two (i j:Nat) (p q:Pl)
def Pl.dep:Pl->Nat
 | .nil=>0
 | .tk _ p=>p.dep+1
 | .st _ p=>p.dep+1
 | .two _ _ p _=>p.dep+1
def b9a(ops:Array Oper):Pl->Array Bool->Bool
 | .nil,l=>(Region.ready .any ops l).isEmpty
 | .tk i p,l=>tkOk ops l i&&b9a ops p (l.setIfInBounds i true)
 | .st i p,l=>Region.ready .any ops l== [i]&&b9a ops p (l.setIfInBounds i true)
 | .two i j p q,l=>Region.ready .any ops l== [i,j]&&Nat.beq p.dep q.dep&&b9a ops p (l.setIfInBounds i true)&&b9a ops q (l.setIfInBounds j true)
inductive Ctl where
 |code (c:Code)
 |ops (all:Array Oper) (l:List Oper)
 |qop (all:Array Oper) (l:List Oper)
 |mix (all:Array Oper) (p:Pl) (ks:List Nat) (el:Bool)
 |out (e:Exit)
inductive It where
 |code (c:Code)
 |blk (id:Nat)
 |scope
 |sem (K:Act->World->Prop)
 |mixk (all:Array Oper) (p:Pl) (ks:List Nat)
def b8r{ty:Nat->Type}:List (AO ty)->List Nat
 | []=> []
 | .kbox i _ _::l=>i::b8r l
 | .krow i _ _ _ _::l=>i::b8r l
 |_::l=>b8r l
def c1i{ty:Nat->Type}:List (AO ty)->Bool
 | []=>false
 | .mark::_=>true
 |_::l=>c1i l
def leqN:List Nat->List Nat->Bool
 | [],[]=>true
 |i::l,j::r=>match Nat.beq i j with
  |true=>leqN l r
  |false=>false
 |_,_=>false
def c6i{ty:Nat->Type}(ks:List Nat)(H:List (AO ty)):Bool:=match c1i H with
 |true=>leqN (b8r H) ks
 |false=>false
structure St(ty:Nat->Type)where
 ctl:Ctl
 its:List It
 env:AE ty
 H:List (AO ty)
section
variable{P:Program}(T:Tbl P)
def e2j(env:AE T.ty)(H:List (AO T.ty)):Op->Option (AV T.ty×List (AO T.ty))
 | .alloc t=>match T.zero t with
   |some z=>some (.bx H.length 0,snoc (.box t (z.cells.toList.map ofC)) H)
   |none=>none
 | .box t x=>match opA env x with
   |some y=>match c4u y with
    |some l=>some (.bx H.length 0,snoc (.box t l) H)
    |none=>none
   |none=>none
 | .build t ps=>match T.zero t,T.bld t with
   |some z,some pl=>match bldA T (fun i=>pl[i]?) env ps.toList (z.cells.toList.map ofC)with
    |some l=>some (.agg l,H)
    |none=>none
   |_,_=>none
 | .buildSlice t k ps=>match T.und t with
   |some (.slice el)=>match T.size el,T.zero el with
    |some q,some _=>match Nat.ble (k*q) 16777216,Nat.ble k maxLen,bldA T (fun i=>some (i*q,q)) env ps.toList (anys (k*q))with
     |true,true,some l=>match decL T (T.cod t) q k l with
      |some xs=>some (.row H.length,snoc (.row el q (T.cod t) xs) H)
      |none=>none
     |_,_,_=>none
    |_,_=>none
   |_=>none
 |_=>none
def e1s(env:AE T.ty):Op->Option (AV T.ty)
 | .build t ps=>match T.zero t,T.bld t with
   |some z,some pl=>match bldA T (fun i=>pl[i]?) env ps.toList (z.cells.toList.map ofC)with
    |some l=>some (.agg l)
    |none=>none
   |_,_=>none
 |_=>none
def evB(ld:Ld)(env:AE T.ty)(H:List (AO T.ty))(op:Op):Option (AV T.ty):=match b8o T ld env H op with
 |some v=>some v
 |none=>e1s T env op
def e3c(env:AE T.ty)(H:List (AO T.ty)):Op->Option (List (AO T.ty))
 | .store t x y=>match opA env x,opA env y,T.size t with
   |some (.bx i o),some z,some m=>match H[i]?,c4u z with
    |some (.box t' cs),some l=>match Nat.beq l.length m,setA o l cs with
     |true,some cs'=>putA i (.box t' cs') H
     |_,_=>none
    |_,_=>none
   |_,_,_=>none
 |_=>none
def ldOf(el:Bool):Ld:=match el with
 |true=> .mix
 |false=> .kept
def run(n:Nat):Nat->Ctl->List It->AE T.ty->List (AO T.ty)->St T.ty
 |0,c,k,e,H=>⟨c,k,e,H⟩
 |f+1,.code c,k,e,H=>match c with
  | .skip=>run n f (.out .normal) k e H
  | .label _=>run n f (.out .normal) k e H
  | .seq x y=>run n f (.code x) (.code y::k) e H
  | .region _ ops false=>run n f (.ops ops ops.toList) k e H
  | .block id x=>run n f (.code x) (.blk id::k) e H
  | .scope x=>run n f (.code x) (.scope::k) e H
  | .exit id=>run n f (.out (.exit id)) k e H
  | .ret=>run n f (.out .ret) k e H
  | .cond b x y=>match opA e b with
    |some z=>match litOf z with
     |some true=>run n f (.code x) k e H
     |some false=>run n f (.code y) k e H
     |none=>⟨.code (.cond b x y),k,e,H⟩
    |none=>⟨.code (.cond b x y),k,e,H⟩
  |c=>⟨.code c,k,e,H⟩
 |f+1,.out x,k,e,H=>match k with
  | []=>⟨.out x,[],e,H⟩
  |i::k=>match x,i with
   | .normal,.code y=>run n f (.code y) k e H
   | .normal,.blk _=>run n f (.out .normal) k e H
   | .normal,.scope=>run n f (.out .normal) k e H
   | .exit id,.code _=>run n f (.out (.exit id)) k e H
   | .exit id,.blk j=>match Nat.beq id j with
     |true=>run n f (.out .normal) k e H
     |false=>run n f (.out (.exit id)) k e H
   | .exit id,.scope=>run n f (.out (.exit id)) k e H
   | .exit id,.sem _=>run n f (.out (.exit id)) k e H
   | .ret,.code _=>run n f (.out .ret) k e H
   | .ret,.blk _=>run n f (.out .ret) k e H
   | .ret,.scope=>run n f (.out .ret) k e H
   | .ret,.sem _=>run n f (.out .ret) k e H
   | .normal,.mixk all p ks=>match c6i ks H with
     |true=>run n f (.mix all p ks false) k e H
     |false=>⟨.out .normal,.mixk all p ks::k,e,H⟩
   |x,i=>⟨.out x,i::k,e,H⟩
 |f+1,.ops all l,k,e,H=>match l with
  | []=>run n f (.out .normal) k e H
  |o::l=>match a9g all e o.guard with
   |true=>match o.dst with
    |some d=>match Nat.blt d n with
     |true=>match b8o T .all e H o.op with
      |some v=>run n f (.ops all l) k ((d,v)::e) H
      |none=>match e2j T e H o.op with
       |some (v,H')=>run n f (.ops all l) k ((d,v)::e) H'
       |none=>⟨.ops all (o::l),k,e,H⟩
     |false=>⟨.ops all (o::l),k,e,H⟩
    |none=>match e3c T e H o.op with
     |some H'=>run n f (.ops all l) k e H'
     |none=>⟨.ops all (o::l),k,e,H⟩
   |false=>match c4k all e o.guard with
    |true=>match o.dst with
     |some d=>match Nat.blt d n with
      |true=>run n f (.ops all l) k ((d,.val undef)::e) H
      |false=>⟨.ops all (o::l),k,e,H⟩
     |none=>⟨.ops all (o::l),k,e,H⟩
    |false=>⟨.ops all (o::l),k,e,H⟩
 |f+1,.qop all l,k,e,H=>match l with
  | []=>run n f (.out .normal) k e H
  |o::l=>match a9g all e o.guard with
   |true=>match o.dst with
    |some d=>match Nat.blt d n with
     |true=>match evB T .all e H o.op with
      |some v=>run n f (.qop all l) k ((d,v)::e) H
      |none=>⟨.qop all (o::l),k,e,H⟩
     |false=>⟨.qop all (o::l),k,e,H⟩
    |none=>⟨.qop all (o::l),k,e,H⟩
   |false=>match c4k all e o.guard with
    |true=>match o.dst with
     |some d=>match Nat.blt d n with
      |true=>run n f (.qop all l) k ((d,.val undef)::e) H
      |false=>⟨.qop all (o::l),k,e,H⟩
     |none=>⟨.qop all (o::l),k,e,H⟩
    |false=>⟨.qop all (o::l),k,e,H⟩
 |f+1,.mix all p ks el,k,e,H=>match p with
  | .st i p=>match all[i]? with
    |some o=>run n f (.ops all [o]) (.mixk all p ks::k) e H
    |none=>⟨.mix all (.st i p) ks el,k,e,H⟩
  | .tk i p=>match all[i]?,c6i ks H with
    |some o,true=>match a9g all e o.guard with
     |true=>match o.dst with
      |some d=>match Nat.blt d n with
       |true=>match evB T (ldOf el) e H o.op with
        |some v=>run n f (.mix all p ks el) k ((d,v)::e) H
        |none=>⟨.mix all (.tk i p) ks el,k,e,H⟩
       |false=>⟨.mix all (.tk i p) ks el,k,e,H⟩
      |none=>⟨.mix all (.tk i p) ks el,k,e,H⟩
     |false=>match c4k all e o.guard with
      |true=>match o.dst with
       |some d=>match Nat.blt d n with
        |true=>run n f (.mix all p ks el) k ((d,.val undef)::e) H
        |false=>⟨.mix all (.tk i p) ks el,k,e,H⟩
       |none=>⟨.mix all (.tk i p) ks el,k,e,H⟩
      |false=>⟨.mix all (.tk i p) ks el,k,e,H⟩
    |_,_=>⟨.mix all (.tk i p) ks el,k,e,H⟩
  |p=>⟨.mix all p ks el,k,e,H⟩
end
def SK(K:Snap)(ks:List Nat)(w:World):Prop:=Sat K.F w/\∀i,i∈ks->(K.K i).ok w
def kq(P:Program)(K:Snap)(Q:Exit->Act->World->Prop):List It->Exit->Act->World->Prop
 | []=>Q
 | .code y::k=>Exit.then (y.wp P (kq P K Q k)) (kq P K Q k)
 | .blk id::k=>Exit.inBlock id (kq P K Q k)
 | .scope::k=>Exit.noGoto (kq P K Q k)
 | .sem J::k=>Exit.then J (kq P K Q k)
 | .mixk all p ks::k=>QK fun a w=>SK K ks w/\∀listed,b9a all p listed=true->wpAnyH P .any all (NP (kq P K Q k)) (SK K ks) p.dep listed a w
def GW(P:Program)(Q:Exit->Act->World->Prop)(n:Nat)(F0:Frz)(w0:World)(X:List Nat)(K:Snap)(R:List OE)(F:Frz):Ctl->List It->Env->World->Prop
 | .code c,k,m,w=>CW P c (kq P K Q k) n m w
 | .ops all l,k,m,w=>RW P all (kq P K Q k) l n m w
 | .qop all l,k,m,_=>QR P all (CH F0 w0 X F R) (fun a'=>∀w',CH F0 w0 X F R w'->kq P K Q k .normal a' w') l n m
 | .mix all p ks el,k,m,w=>(el=true->F.le K.F)->∀listed,b9a all p listed=true->DW P all (kq P K Q k) (SK K ks) p.dep listed n m w
 | .out e,k,m,w=>QW (kq P K Q k) e n m w
def c4s(R:List OE):Prop:=∀(i:Nat)el q a m n(us:List Value),R[i]?=some (.row el q a m n us)->m≠0->∃b,a=some ⟨b,0,none⟩
theorem HS.rows{F0 F:Frz}{w0 w:World}{X:List Nat}{R:List OE}(h:HS F0 w0 X F R w):c4s R:=by
 intro i el q a m n us hi hm
 rcases(h.get hi).2 with⟨e1,e2⟩|⟨gb,cap,cur,e1,_⟩
 ·simp only [Value.slice.injEq]at e1;exact absurd e1.2.1 hm
 ·simp only [Value.slice.injEq]at e1;exact⟨gb,e1.1⟩
def LX(X:List Nat)(R:List OE):Prop:=∀(j b:Nat),X[j]?=some b->∃(t:TypeId)(cs:List Value),R[j]?=some (.box b t cs)
theorem LX.keep{X:List Nat}{R R':List OE}{F F':Frz}(h:LX X R)(k:Keep R F R' F'):LX X R':=fun i b hb=>by
 obtain⟨t,cs,h1⟩:=h i b hb
 obtain⟨cs',h2⟩:=k.box i b t cs h1
 exact⟨t,cs',h2⟩
def LG{P:Program}(T:Tbl P)(X:List Nat)(R:List OE)(F:Frz):Prop:=LX X R/\T.gl F
theorem LG.keep{P:Program}{T:Tbl P}{X:List Nat}{R R':List OE}{F F':Frz}(h:LG T X R F)(k:Keep R F R' F'):LG T X R' F':=⟨h.1.keep k,T.glMono k.le h.2⟩
def Sm{P:Program}(T:Tbl P)(Q:Exit->Act->World->Prop)(n:Nat)(F0:Frz)(w0:World)(X:List Nat)(K:Snap)(s:St T.ty):Prop:=
 ∀R F m w,ConcE T.rp R F s.env m->RelH T.rp K R F s.H R->HS F0 w0 X F R w->LG T X R F->GW P Q n F0 w0 X K R F s.ctl s.its m w
section
variable{P:Program}{T:Tbl P}{Q:Exit->Act->World->Prop}{n:Nat}{F0:Frz}{w0:World}{X:List Nat}{K:Snap}
theorem Sm.to{c c':Ctl}{k k':List It}{e:AE T.ty}{H:List (AO T.ty)}(h:Sm T Q n F0 w0 X K ⟨c',k',e,H⟩)(g:∀R F m w,GW P Q n F0 w0 X K R F c' k' m w->GW P Q n F0 w0 X K R F c k m w):Sm T Q n F0 w0 X K ⟨c,k,e,H⟩:=
 fun R F m w h1 h2 h3 h4=>g R F m w (h R F m w h1 h2 h3 h4)
theorem wOkC{H:List (AO T.ty)}{R:List OE}{F:Frz}:WOk .all H R F (CH F0 w0 X F R):=
 ⟨fun _ _⟨_,_,hs⟩_ _ hi=>hs.get hi,fun _⟨_,_,hs⟩_ _ _ _ _ hi=>hs.get hi,fun _ _⟨F',hl,hs⟩=>⟨F',hl,hs.sat⟩⟩
theorem c7q{i:Nat}:∀{H:List (AO T.ty)}{o:AO T.ty},o∈H->o.isK=true->∃j,j∈b8r H/\∀{R:List OE}{F:Frz}{e:OE},RelO T.rp K R F o e->e=K.K j
 | [],o,h,_=>by simp at h
 |x::l,o,h,hk=>by
  rcases List.mem_cons.1 h with rfl|h
  ·cases o<;>simp only [AO.isK,reduceCtorEq]at hk
   ·exact⟨_,List.mem_cons_self ..,fun h=>h.1⟩
   ·exact⟨_,List.mem_cons_self ..,fun h=>h.1⟩
  ·obtain⟨j,h1,h2⟩:=c7q (i:=i) h hk
   refine⟨j,?_,h2⟩
   cases x<;>simp only [b8r]<;>first|exact h1|exact List.mem_cons_of_mem _ h1
theorem keptL_at:∀{H:List (AO T.ty)}{j:Nat},j∈b8r H->∃o,o∈H/\∀{R:List OE}{F:Frz}{e:OE},RelO T.rp K R F o e->e=K.K j
 | [],j,h=>by simp [b8r]at h
 |x::l,j,h=>by
  have go:j∈b8r l->∃o,o∈x::l/\∀{R:List OE}{F:Frz}{e:OE},RelO T.rp K R F o e->e=K.K j:=fun h=>by
   obtain⟨o,h1,h2⟩:=keptL_at h
   exact⟨o,List.mem_cons_of_mem _ h1,h2⟩
  cases x<;>simp only [b8r]at h
  case kbox i t cs=>
   rcases List.mem_cons.1 h with rfl|h
   ·exact⟨_,List.mem_cons_self ..,fun h=>h.1⟩
   ·exact go h
  case krow i e q c xs=>
   rcases List.mem_cons.1 h with rfl|h
   ·exact⟨_,List.mem_cons_self ..,fun h=>h.1⟩
   ·exact go h
  all_goals exact go h
theorem hasMark_at:∀{H:List (AO T.ty)},c1i H=true->AO.mark∈H
 | [],h=>by simp [c1i]at h
 |x::l,h=>by
  cases x<;>simp only [c1i]at h
  case mark=>exact List.mem_cons_self ..
  all_goals exact List.mem_cons_of_mem _ (hasMark_at h)
theorem leqN_ok:∀{l r:List Nat},leqN l r=true->l=r
 | [],[],_=>rfl
 | [],_::_,h=>by cases h
 |_::_,[],h=>by cases h
 |i::l,j::r,h=>by
  simp only [leqN]at h
  split at h
  ·rename_i hb;rw [Nat.eq_of_beq_eq_true hb,leqN_ok h]
  ·cases h
theorem d2f{ks:List Nat}{H:List (AO T.ty)}(h:c6i ks H=true):AO.mark∈H/\b8r H=ks:=by
 unfold c6i at h
 split at h
 ·rename_i hm;exact⟨hasMark_at hm,leqN_ok h⟩
 ·cases h
theorem d8t{ks:List Nat}{H:List (AO T.ty)}{R:List OE}{F:Frz}{w:World}(h:c6i ks H=true)(h2:RelH T.rp K R F H R)(h3:HS F0 w0 X F R w):SK K ks w:=by
 obtain⟨h4,h5⟩:=d2f h
 obtain⟨i,hi⟩:=List.mem_iff_getElem?.1 h4
 obtain⟨e,g1,g2,_⟩:=h2.2 i _ hi
 refine⟨fun b o hb=>h3.sat b o (g2 b o hb),fun j hj=> ?_⟩
 subst h5
 obtain⟨o,k1,k2⟩:=keptL_at (K:=K) hj
 obtain⟨i,hi⟩:=List.mem_iff_getElem?.1 k1
 obtain⟨e,g1,g2⟩:=h2.2 i _ hi
 rw [<-k2 g2]
 exact h3.get g1
theorem wOkM{ks:List Nat}{H:List (AO T.ty)}{R:List OE}{F:Frz}{el:Bool}(h:c6i ks H=true)(h2:RelH T.rp K R F H R)(hF:el=true->F.le K.F):WOk (ldOf el) H R F (SK K ks):=by
 obtain⟨h4,h5⟩:=d2f h
 refine⟨(by intro h;cases el<;>cases h),fun w hw i o e hi hk hR=> ?_,fun h w hw=> ?_⟩
 ·obtain⟨j,k1,k2⟩:=c7q (K:=K) (i:=i) (List.mem_of_getElem? hi) hk
  obtain⟨e',g1,g2⟩:=h2.2 i _ hi
  rw [hR]at g1;cases g1
  rw [k2 g2]
  exact hw.2 j (h5▸k1)
 ·cases el with
  |true=>exact⟨K.F,hF rfl,hw.1⟩
  |false=>exact absurd rfl h
theorem e2r{all:Array Oper}{o:Oper}{l:List Oper}{k:List It}{e:AE T.ty}{H:List (AO T.ty)}{d:Nat}{v:AV T.ty}(hg:a9g all e o.guard=true)(hd:o.dst=some d)(hn:Nat.blt d n=true)(hv:b8o T .all e H o.op=some v)
 (h:Sm T Q n F0 w0 X K ⟨.ops all l,k,(d,v)::e,H⟩):Sm T Q n F0 w0 X K ⟨.ops all (o::l),k,e,H⟩:=by
 intro R F m w h1 h2 h3 hX
 obtain⟨u,hu,hr⟩:=c4q h1 h2 wOkC hv
 exact a6t hd (by simpa using hn) (a3d h1 hg) (fun a ha=>hr w ⟨F,Frz.refl F,h3⟩ n a ha) (h R F ((d,u)::m) w (h1.put hu) h2 h3 hX)
theorem e2m{all:Array Oper}{o:Oper}{l:List Oper}{k:List It}{e:AE T.ty}{H:List (AO T.ty)}{d:Nat}(hg:c4k all e o.guard=true)(hd:o.dst=some d)(hn:Nat.blt d n=true)
 (h:Sm T Q n F0 w0 X K ⟨.ops all l,k,(d,.val undef)::e,H⟩):Sm T Q n F0 w0 X K ⟨.ops all (o::l),k,e,H⟩:=by
 intro R F m w h1 h2 h3 hX
 exact a0x hd (by simpa using hn) (c1m h1 hg) (h R F ((d,undef)::m) w (h1.put rfl) h2 h3 hX)
theorem d6r{all:Array Oper}{o:Oper}{l:List Oper}{k:List It}{e:AE T.ty}{H:List (AO T.ty)}{d:Nat}{t:TypeId}{cs:List (AV T.ty)}(hg:a9g all e o.guard=true)(hd:o.dst=some d)(hn:Nat.blt d n=true)
 (hv:∀R F m w,ConcE T.rp R F e m->∃us:List Value,ConcL T.rp R F cs us/\∀a,Has n a m->(execOp a.eval o).run P w= .ok (.value (.pointer (some ⟨w.heap.size,0,none⟩))) (w.alloc (.cells us.toArray t)))
 (h:Sm T Q n F0 w0 X K ⟨.ops all l,k,(d,.bx H.length 0)::e,snoc (.box t cs) H⟩):Sm T Q n F0 w0 X K ⟨.ops all (o::l),k,e,H⟩:=by
 intro R F m w h1 h2 h3 hX
 obtain⟨us,hc,hr⟩:=hv R F m w h1
 have h4:HS F0 w0 X F (R++ [.box w.heap.size t us]) (w.alloc (.cells us.toArray t)):=
  (h3.add (World.grownBy_alloc w _ none) (e':= .box w.heap.size t us) (by show(w.alloc _).heap[w.heap.size]?=_;rw [heap_alloc_new]) (by simp [OE.blk])).addEnd
 have hk:Keep R F (R++ [.box w.heap.size t us]) F:=Keep.more (Frz.refl F)
 refine b2x hd (by simpa using hn) (a3d h1 hg) hr (h _ F _ _ ((h1.mono hk).put ⟨w.heap.size,t,us,?_,rfl⟩) ?_ h4 (hX.keep hk))
 ·rw [h2.1];simp
 ·show RelH _ _ _ _ (snoc _ H) _
  rw [b4g]
  exact(h2.mono hk).add ⟨_,us,rfl,hc.mono hk⟩
theorem e1y{all:Array Oper}{o:Oper}{l:List Oper}{k:List It}{e:AE T.ty}{H H':List (AO T.ty)}{d:Nat}{v:AV T.ty}(hg:a9g all e o.guard=true)(hd:o.dst=some d)(hn:Nat.blt d n=true)(hv:e2j T e H o.op=some (v,H'))
 (h:Sm T Q n F0 w0 X K ⟨.ops all l,k,(d,v)::e,H'⟩):Sm T Q n F0 w0 X K ⟨.ops all (o::l),k,e,H⟩:=by
 obtain⟨dst,op,type,pos,after,guard⟩:=o
 dsimp only at hg hd hv
 unfold e2j at hv
 split at hv
 ·split at hv
  ·rename_i t z hz
   cases hv
   refine d6r hg hd hn (fun R F m w _=>⟨z.cells.toList,concL_ofC _,fun a ha=> ?_⟩) h
   simp [execOp,Instr.alloc,T.zeroOk hz w,newVar,newRow]
  ·cases hv
 ·split at hv
  ·rename_i t x y hx
   split at hv
   ·rename_i cs hc
    cases hv
    refine d6r hg hd hn (fun R F m w hE=> ?_) h
    obtain⟨u,h1,h2⟩:=a1b hE hx
    refine⟨u.cells.toList,(b8y hc h2).1,fun a ha=> ?_⟩
    simp [execOp,Instr.box,ha.op h1,newVar,newRow]
   ·cases hv
  ·cases hv
 ·rename_i t ps
  split at hv
  ·rename_i z pl hz hpl
   split at hv
   ·rename_i cs hb
    cases hv
    intro R F m w h1 h2 h3 hX
    obtain⟨vl,us,g1,g2,g3,_⟩:=c1x h1 hb (concL_ofC z.cells.toList)
    obtain⟨ps⟩:=ps
    refine a6t hd (by simpa using hn) (a3d h1 hg) (v:= .agg us.toArray) (fun a ha=> ?_) (h R F _ w (h1.put ⟨us,rfl,g2⟩) h2 h3 hX)
    simp only [execOp]
    rw [a9t ha g1]
    simp [c8e (T.zeroOk hz) hpl (by simpa using g3) w]
   ·cases hv
  ·cases hv
 ·rename_i t kk ps
  split at hv
  ·rename_i el hu
   split at hv
   ·rename_i q z hS hz
    split at hv
    ·rename_i cs hk1 hk2 hb
     split at hv
     ·rename_i xs hx
      cases hv
      intro R F m w h1 h2 h3 hX
      have hzl:=d6f z (kk*q)
      obtain⟨vl,us,g1,g2,g3,g4⟩:=c1x (us:=zws z (kk*q)) h1 hb (by
       have:=anys_ok (T:=T) (R:=R) (F:=F) (us:=zws z (kk*q))
       rwa [hzl]at this)
      obtain⟨ps⟩:=ps
      obtain⟨d1,d2⟩:=c9h hx g2
      have hrun:=fun w=>b6t (P:=P) (T.undOk hu) (T.sizeOk hS) (T.zeroOk hz) (Nat.le_of_ble_eq_true hk1) g3 w
      have h4:HS F0 w0 X F (R++ [.row el q (some ⟨w.heap.size,0,none⟩) kk kk us]) (w.alloc (.cells us.toArray el)):=
       (h3.add (World.grownBy_alloc w _ none) (e':= .row el q (some ⟨w.heap.size,0,none⟩) kk kk us) (by
        refine⟨d2,.inr ⟨w.heap.size,kk,us.toArray,rfl,Nat.zero_le _,heap_alloc_new w _,Nat.le_refl _,Nat.le_of_ble_eq_true hk2,by simp [d2],?_⟩⟩
        simp [<-d2]) (by simp [OE.blk,Value.ownBlock])).addEnd
      have hk:Keep R F (R++ [.row el q (some ⟨w.heap.size,0,none⟩) kk kk us]) F:=Keep.more (Frz.refl F)
      refine b2x hd (by simpa using hn) (a3d h1 hg) (v:= .slice (some ⟨w.heap.size,0,none⟩) kk kk) (fun a ha=> ?_) (h _ F _ _ ((h1.mono hk).put ⟨el,q,some ⟨w.heap.size,0,none⟩,kk,kk,us,?_,rfl⟩) ?_ h4 (hX.keep hk))
      ·simp only [execOp]
       rw [a9t ha g1]
       simp [hrun w]
      ·rw [h2.1];simp
      ·show RelH _ _ _ _ (snoc _ H) _
       rw [b4g]
       exact(h2.mono hk).add ⟨_,kk,kk,us,rfl,d1⟩
     ·cases hv
    ·cases hv
   ·cases hv
  ·cases hv
 ·cases hv
theorem e2t{all:Array Oper}{o:Oper}{l:List Oper}{k:List It}{e:AE T.ty}{H H':List (AO T.ty)}(hg:a9g all e o.guard=true)(hd:o.dst=none)(hv:e3c T e H o.op=some H')
 (h:Sm T Q n F0 w0 X K ⟨.ops all l,k,e,H'⟩):Sm T Q n F0 w0 X K ⟨.ops all (o::l),k,e,H⟩:=by
 obtain⟨dst,op,type,pos,after,guard⟩:=o
 dsimp only at hg hd hv
 subst hd
 unfold e3c at hv
 split at hv
 ·split at hv
  ·rename_i t x y i oo z mm hx hy hS
   split at hv
   ·rename_i t' cs zs hi hz
    split at hv
    ·rename_i cs' hlen hset
     intro R F m w h1 h2 h3 hX
     obtain⟨u,hu1,b,tb,vs0,hb1,hb2⟩:=a1b h1 hx
     subst hb2
     obtain⟨y',hy1,hy2⟩:=a1b h1 hy
     obtain⟨en,hen,b2,ws,he2,hc⟩:=h2.2 i _ hi
     subst he2
     rw [hb1]at hen;cases hen
     obtain⟨c1,c2⟩:=b8y hz hy2
     obtain⟨s1,s2⟩:=c3c hset
     have hlen:=Nat.eq_of_beq_eq_true hlen
     have c3:=c1.len
     have hvs:=hc.len
     refine a0o (T.sizeOk hS) (a3d h1 hg) h3 hu1 hy1 (by rw [<-hlen,<-c3];simp) (List.all_eq_true.2 c2) hb1 (Nat.ble_eq_true_of_le (by rw [hvs,<-hlen];exact s1)) rfl rfl fun w' h4=> ?_
     have hk:Keep R F (R.set i (.box b t' (vs0.take oo++y'.cells.toList++vs0.drop (oo+mm)))) F:=by
      refine⟨Frz.refl F,fun j b' T' cs0 hj=> ?_,fun j e' q a m' n' xs hj=> ?_⟩
      ·rw [List.getElem?_set]
       by_cases hij:i=j
       ·subst hij
        rw [hb1]at hj;cases hj
        rw [if_pos rfl,if_pos (List.getElem?_eq_some_iff.1 hb1).1]
        exact⟨_,rfl⟩
       ·rw [if_neg hij];exact⟨_,hj⟩
      ·rw [List.getElem?_set]
       by_cases hij:i=j
       ·subst hij
        rw [hb1]at hj;cases hj
       ·rw [if_neg hij];exact hj
     have hr:RelO T.rp K (R.set i (.box b t' (vs0.take oo++y'.cells.toList++vs0.drop (oo+mm)))) F (.box t' cs') (.box b t' (vs0.take oo++y'.cells.toList++vs0.drop (oo+mm))):=by
      refine⟨b,_,rfl,ConcL.mono hk ?_⟩
      rw [s2,<-hlen]
      exact((hc.take oo).app c1).app (hc.drop _)
     exact h _ F m w' (h1.mono hk) (by
      rw [b7d hv]
      exact(h2.mono hk).set i hr) h4 (hX.keep hk)
    ·cases hv
   ·cases hv
  ·cases hv
 ·cases hv
theorem d2m{all:Array Oper}{o:Oper}{l:List Oper}{k:List It}{e:AE T.ty}{H:List (AO T.ty)}{d:Nat}{v:AV T.ty}(hg:a9g all e o.guard=true)(hd:o.dst=some d)(hn:Nat.blt d n=true)
 (hv:∀R F m,ConcE T.rp R F e m->RelH T.rp K R F H R->c4s R->∃u,Conc T.rp R F v u/\c2d P (CH F0 w0 X F R) m o u)
 (h:Sm T Q n F0 w0 X K ⟨.qop all l,k,(d,v)::e,H⟩):Sm T Q n F0 w0 X K ⟨.qop all (o::l),k,e,H⟩:=by
 intro R F m w h1 h2 h3 hX
 obtain⟨u,hu,hr⟩:=hv R F m h1 h2 h3.rows
 refine d2z hd hn (a3d h1 hg) (v:=u) (fun w' hw a ha=> ?_) (h R F ((d,u)::m) w (h1.put hu) h2 h3 hX)
 unfold Oper.quietAt
 rw [hr w' hw n a ha]
 exact⟨rfl,rfl⟩
theorem d4g{a b:Bool}(h:(a&&b)=true):a=true/\b=true:=by simpa using h
theorem e1w{o:Oper}{a:Act}{K1 K2:Act->World->Prop}{r:Result Next}(h:o.upon P a K2 (QK K1) r):o.upon P a K2 (QK K2) r:=by
 cases r with
 |ok x w'=>
  cases x<;>simp only [Oper.upon]at h⊢<;>
   first
    |exact h
    |exact Calls.mono h (fun e w'' he=>by
     cases e with
     |returned v=>exact he
     |panicked c=>exact absurd he.1 (by simp)
     |outgrown=>obtain⟨_,_,h3,_⟩:=he;cases h3)
 |halt x w'=>cases x<;>simp only [Oper.upon]at h⊢<;>exact absurd h.1 (by simp)
theorem e2f{ops:Array Oper}{S:World->Prop}{fuel:Nat}{listed:Array Bool}{m:Env}{w:World}(i:Nat){o:Oper}{K1:Act->World->Prop}(hi:ops[i]?=some o)
 (hK:∀a w',K1 a w'->S w'/\wpAnyH P .any ops (NP Q) S fuel (listed.setIfInBounds i true) a w') (h:RW P ops (QK K1) [o] n m w):∀a,Has n a m->wpOp P ops (NP Q) i (fun a' w'=>S w'/\wpAnyH P .any ops (NP Q) S fuel (listed.setIfInBounds i true) a' w') a w:=by
 intro a ha
 have h1:=h a ha
 unfold wpList at h1
 unfold wpOp
 simp only [hi]
 split at h1
 ·rename_i hw
  rw [if_pos hw]
  rcases h1 with h1|⟨_,_,_,h2,_⟩
  ·left
   unfold Oper.wp at*
   refine c5a (K:=fun a' w'=>S w'/\wpAnyH P .any ops (NP Q) S fuel (listed.setIfInBounds i true) a' w') ?_
   have h2:o.wp P a w (fun a' w'=>S w'/\wpAnyH P .any ops (NP Q) S fuel (listed.setIfInBounds i true) a' w') (QK K1):=Oper.wp_mono (o:=o) (w:=w) (fun a' w' hh=>hK a' w' hh.2) h1
   exact e1w h2
  ·cases h2
 ·rename_i hw
  rw [if_neg hw]
  exact hK _ _ h1.2
theorem d6p{all:Array Oper}{i:Nat}{p:Pl}{ks:List Nat}{el:Bool}{o:Oper}{k:List It}{e:AE T.ty}{H:List (AO T.ty)}(hi:all[i]?=some o)
 (h:Sm T Q n F0 w0 X K ⟨.ops all [o],.mixk all p ks::k,e,H⟩):Sm T Q n F0 w0 X K ⟨.mix all (.st i p) ks el,k,e,H⟩:=by
 intro R F m w h1 h2 h3 hX _ listed hp
 have hp:=d4g hp
 intro a ha
 refine wpAnyH_all (by simpa using hp.1) (by simp) ?_
 intro j hj
 obtain rfl:=List.mem_singleton.1 hj
 exact e2f j hi (fun a w' g=>⟨g.1,g.2 _ hp.2⟩) (h R F m w h1 h2 h3 hX) a ha
theorem d1d{all:Array Oper}{i:Nat}{p:Pl}{ks:List Nat}{el:Bool}{o:Oper}{k:List It}{e:AE T.ty}{H:List (AO T.ty)}{d:Nat}{v:AV T.ty}(hi:all[i]?=some o)(hk:c6i ks H=true)(hg:a9g all e o.guard=true)(hd:o.dst=some d)(hn:Nat.blt d n=true)
 (hv:∀R F m,ConcE T.rp R F e m->RelH T.rp K R F H R->c4s R->(el=true->F.le K.F)->∃u,Conc T.rp R F v u/\c2d P (SK K ks) m o u)
 (h:Sm T Q n F0 w0 X K ⟨.mix all p ks el,k,(d,v)::e,H⟩):Sm T Q n F0 w0 X K ⟨.mix all (.tk i p) ks el,k,e,H⟩:=by
 intro R F m w h1 h2 h3 hX hF listed hp
 have hp:=d4g hp
 obtain⟨u,hu,hr⟩:=hv R F m h1 h2 h3.rows hF
 exact c2o i hi (a8k hp.1).1 (a8k hp.1).2.1 (a8k hp.1).2.2 hd hn (a3d h1 hg) (d8t hk h2 h3) (fun w' hw' a ha=>hr w' hw' n a ha) (h R F ((d,u)::m) w (h1.put hu) h2 h3 hX hF _ hp.2)
theorem d8i{W:World->Prop}{R:List OE}{F:Frz}{e:AE T.ty}{m:Env}{o:Oper}{v:AV T.ty}(hE:ConcE T.rp R F e m)(h:e1s T e o.op=some v):∃u,Conc T.rp R F v u/\c2d P W m o u:=by
 obtain⟨dst,op,type,pos,after,guard⟩:=o
 dsimp only at h
 unfold e1s at h
 split at h
 ·rename_i t ps
  split at h
  ·rename_i z pl hz hpl
   split at h
   ·rename_i cs hb
    cases h
    obtain⟨vl,us,g1,g2,g3,_⟩:=c1x hE hb (concL_ofC z.cells.toList)
    obtain⟨ps⟩:=ps
    refine⟨.agg us.toArray,⟨us,rfl,g2⟩,fun w _ _ a ha=> ?_⟩
    simp only [execOp]
    rw [a9t ha g1]
    simp [c8e (T.zeroOk hz) hpl (by simpa using g3) w]
   ·cases h
  ·cases h
 ·cases h
theorem d9u{W:World->Prop}{ld:Ld}{R:List OE}{F:Frz}{e:AE T.ty}{m:Env}{H:List (AO T.ty)}{o:Oper}{v:AV T.ty}(hE:ConcE T.rp R F e m)(hH:RelH T.rp K R F H R)(hW:WOk ld H R F W)(h:evB T ld e H o.op=some v):∃u,Conc T.rp R F v u/\c2d P W m o u:=by
 unfold evB at h
 split at h
 ·rename_i hv;cases h;exact c4q hE hH hW hv
 ·exact d8i hE h
theorem run_ok:∀(f:Nat)(c:Ctl)(k:List It)(e:AE T.ty)(H:List (AO T.ty)),Sm T Q n F0 w0 X K (run T n f c k e H)->Sm T Q n F0 w0 X K ⟨c,k,e,H⟩
 |0,_,_,_,_,h=>h
 |f+1,.code c,k,e,H,h=>by
  unfold run at h
  split at h
  ·exact(run_ok f _ _ _ _ h).to fun _ _ _ _=>a1y
  ·exact(run_ok f _ _ _ _ h).to fun _ _ _ _=>d6c
  ·exact(run_ok f _ _ _ _ h).to fun _ _ _ _=>a0f
  ·rename_i id ops
   exact(run_ok f _ _ _ _ h).to fun _ _ m w hh=>by
    have:=a0a (id:=id) (l:=ops.toList) hh
    show CW P _ _ _ _ _
    simpa using this
  ·exact(run_ok f _ _ _ _ h).to fun _ _ _ _=>a2c
  ·exact(run_ok f _ _ _ _ h).to fun _ _ _ _=>d7a
  ·exact(run_ok f _ _ _ _ h).to fun _ _ _ _=>a9q
  ·exact(run_ok f _ _ _ _ h).to fun _ _ _ _=>a3b
  ·split at h
   ·rename_i hb
    split at h
    ·rename_i hl
     intro R F m w h1 h2 h3 hX
     obtain⟨u,hu,hc⟩:=a1b h1 hb
     have hc:=b5x hl hc
     subst hc
     exact a1l hu (run_ok f _ _ _ _ h R F m w h1 h2 h3 hX)
    ·rename_i hl
     intro R F m w h1 h2 h3 hX
     obtain⟨u,hu,hc⟩:=a1b h1 hb
     have hc:=b5x hl hc
     subst hc
     exact a0q hu (run_ok f _ _ _ _ h R F m w h1 h2 h3 hX)
    ·exact h
   ·exact h
  ·exact h
 |f+1,.out x,k,e,H,h=>by
  unfold run at h
  split at h
  ·exact h
  ·split at h
   ·exact(run_ok f _ _ _ _ h).to fun _ _ _ _=>a0d
   ·exact(run_ok f _ _ _ _ h).to fun _ _ _ _=>a3v
   ·exact(run_ok f _ _ _ _ h).to fun _ _ _ _=>e0v
   ·exact(run_ok f _ _ _ _ h).to fun _ _ _ _=>a0p
   ·split at h
    ·rename_i hb
     obtain rfl:=Nat.eq_of_beq_eq_true hb
     exact(run_ok f _ _ _ _ h).to fun _ _ _ _=>a2m
    ·rename_i hb
     exact(run_ok f _ _ _ _ h).to fun _ _ _ _=>b5p (Nat.ne_of_beq_eq_false hb)
   ·exact(run_ok f _ _ _ _ h).to fun _ _ _ _=>c7j
   ·exact(run_ok f _ _ _ _ h).to fun _ _ _ _=>a0p
   ·exact(run_ok f _ _ _ _ h).to fun _ _ _ _=>a0l
   ·exact(run_ok f _ _ _ _ h).to fun _ _ _ _=>a1e
   ·exact(run_ok f _ _ _ _ h).to fun _ _ _ _=>b1n
   ·exact(run_ok f _ _ _ _ h).to fun _ _ _ _=>a0l
   ·split at h
    ·rename_i hk
     intro R F m w h1 h2 h3 hX a ha
     have h4:=run_ok f _ _ _ _ h R F m w h1 h2 h3 hX (fun h=>by cases h)
     exact⟨rfl,d8t hk h2 h3,fun listed hp=>h4 listed hp a ha⟩
    ·exact h
   ·exact h
 |f+1,.ops all l,k,e,H,h=>by
  unfold run at h
  split at h
  ·exact(run_ok f _ _ _ _ h).to fun _ _ _ _=>a0e
  ·split at h
   ·rename_i hg
    split at h
    ·rename_i hd
     split at h
     ·rename_i hn
      split at h
      ·rename_i hv
       exact e2r hg hd hn hv (run_ok f _ _ _ _ h)
      ·split at h
       ·rename_i hv
        exact e1y hg hd hn hv (run_ok f _ _ _ _ h)
       ·exact h
     ·exact h
    ·rename_i hd
     split at h
     ·rename_i hv
      exact e2t hg hd hv (run_ok f _ _ _ _ h)
     ·exact h
   ·split at h
    ·rename_i hg
     split at h
     ·rename_i hd
      split at h
      ·rename_i hn
       exact e2m hg hd hn (run_ok f _ _ _ _ h)
      ·exact h
     ·exact h
    ·exact h
 |f+1,.qop all l,k,e,H,h=>by
  unfold run at h
  split at h
  ·intro R F m w h1 h2 h3 hX
   refine c9f fun a ha w'⟨F',hle,hs⟩=> ?_
   exact run_ok f _ _ _ _ h R F' m w' (h1.mono (Keep.frz hle)) (h2.mono (Keep.frz hle)) hs (hX.keep (Keep.frz hle)) a ha
  ·split at h
   ·rename_i hg
    split at h
    ·rename_i hd
     split at h
     ·rename_i hn
      split at h
      ·rename_i hv
       exact d2m hg hd hn (fun R F m g1 g2 _=>d9u g1 g2 wOkC hv) (run_ok f _ _ _ _ h)
      ·exact h
     ·exact h
    ·exact h
   ·split at h
    ·rename_i hg
     split at h
     ·rename_i hd
      split at h
      ·rename_i hn
       intro R F m w h1 h2 h3 hX
       exact a4h hd hn (c1m h1 hg) (run_ok f _ _ _ _ h R F ((_,undef)::m) w (h1.put rfl) h2 h3 hX)
      ·exact h
     ·exact h
    ·exact h
 |f+1,.mix all p ks el,k,e,H,h=>by
  unfold run at h
  split at h
  ·rename_i i p
   split at h
   ·rename_i o hi
    exact d6p hi (run_ok f _ _ _ _ h)
   ·exact h
  ·rename_i i p
   split at h
   ·rename_i o hi hk
    split at h
    ·rename_i hg
     split at h
     ·rename_i hd
      split at h
      ·rename_i hn
       split at h
       ·rename_i hv
        exact d1d hi hk hg hd hn (fun R F m g1 g2 _ hF=>d9u g1 g2 (wOkM hk g2 hF) hv) (run_ok f _ _ _ _ h)
       ·exact h
      ·exact h
     ·exact h
    ·split at h
     ·rename_i hg
      split at h
      ·rename_i hd
       split at h
       ·rename_i hn
        intro R F m w h1 h2 h3 hX hF listed hp
        have hp:=d4g hp
        exact d_of i hi hp.1 hd hn (c1m h1 hg) (d8t hk h2 h3) (run_ok f _ _ _ _ h R F ((_,undef)::m) w (h1.put rfl) h2 h3 hX hF _ hp.2)
       ·exact h
      ·exact h
     ·exact h
   ·exact h
  ·exact h
end
end Go.Proofs.YthaegflpecbfgaaGreatDoor.Rt
namespace Go.Proofs.YthaegflpecbfgaaGreatDoor.Rt
open Go Go.RowKit
set_option linter.unusedVariables false
set_option linter.unusedSimpArgs false
structure QV(ty:Nat->Type)where
 α:Type
 x:Option α
 v:α->AV ty
structure EV(ty:Nat->Type)where
 α:Type
 x:Option α
 nx:α->St ty
def bndA{ty:Nat->Type}(e:AE ty)(dflt:Int):Option Operand->Option Int
 |none=>some dflt
 |some o=>match opA e o with
  |some (.int .i64 z)=>some z
  |_=>none
section
variable{P:Program}(T:Tbl P)
def d3d(e:AE T.ty)(H:List (AO T.ty)):Op->Option (QV T.ty)
 | .index t x y=>match opA e x,opA e y,T.und t with
   |some (.str l),some (.int _ z),some .string=>some ⟨Int,sidx l z,fun v=> .int .u8 v⟩
   |_,_,_=>none
 | .slice t x lo hi none=>match opA e x,T.und t with
   |some (.str l),some .string=>match bndA e 0 lo,bndA e l.length hi with
    |some a,some b=>some ⟨Bs,ssl l a b,fun v=> .str v⟩
    |_,_=>none
   |some (.sl c xs),some (.slice el)=>match T.size el with
    |some q=>match Nat.beq q (T.rp c).k,bndA e 0 lo,bndA e xs.length hi with
     |true,some a,some b=>some ⟨List (T.ty c),lsl xs a b,fun v=> .sl c v⟩
     |_,_,_=>none
    |none=>none
   |_,_=>none
 | .binOp op _ x y _=>match op,opA e x,opA e y with
   | .add,some (.str a),some (.str b)=>some ⟨Bs,scat a b,fun v=> .str v⟩
   | .quo,some (.int k a),some (.int k' b)=>match decide (k'=k)with
     |true=>some ⟨Int,quo k a b,fun v=> .int k v⟩
     |false=>none
   | .rem,some (.int k a),some (.int k' b)=>match decide (k'=k)with
     |true=>some ⟨Int,rem a b,fun v=> .int k v⟩
     |false=>none
   | .shl,some (.int k a),some (.int _ b)=>some ⟨Int,shl k a b,fun v=> .int k v⟩
   | .shr,some (.int k a),some (.int _ b)=>some ⟨Int,shr k a b,fun v=> .int k v⟩
   |_,_,_=>none
 | .indexAddr t x y=>match opA e x,opA e y,T.und t with
   |some (.sl c xs),some (.int _ z),some (.slice el)=>match T.size el with
    |some q=>match Nat.beq q (T.rp c).k with
     |true=>some ⟨T.ty c,ix xs z,fun v=> .el c v 0⟩
     |false=>none
    |none=>none
   |some (.row i),some (.int _ z),some (.slice el)=>match T.size el,H[i]? with
    |some q,some (.row _ q' c xs)=>match Nat.beq q (T.rp c).k,Nat.beq q' (T.rp c).k with
     |true,true=>some ⟨T.ty c,ix xs z,fun v=> .rel i c v z.toNat 0⟩
     |_,_=>none
    |some q,some (.krow _ _ q' c xs)=>match Nat.beq q (T.rp c).k,Nat.beq q' (T.rp c).k with
     |true,true=>some ⟨T.ty c,ix xs z,fun v=> .rel i c v z.toNat 0⟩
     |_,_=>none
    |_,_=>none
   |_,_,_=>none
 |_=>none
def evV(n:Nat)(s:St T.ty):Option (EV T.ty):=match s with
 |⟨.ops all (o::l),k,e,H⟩=>match a9g all e o.guard,o.dst with
  |true,some d=>match Nat.blt d n,d3d T e H o.op with
   |true,some q=>some ⟨q.α,q.x,fun v=>⟨.ops all l,k,(d,q.v v)::e,H⟩⟩
   |_,_=>none
  |_,_=>none
 |⟨.qop all (o::l),k,e,H⟩=>match a9g all e o.guard,o.dst with
  |true,some d=>match Nat.blt d n,d3d T e H o.op with
   |true,some q=>some ⟨q.α,q.x,fun v=>⟨.qop all l,k,(d,q.v v)::e,H⟩⟩
   |_,_=>none
  |_,_=>none
 |⟨.mix all (.tk i p) ks el,k,e,H⟩=>match all[i]?,c6i ks H with
  |some o,true=>match a9g all e o.guard,o.dst with
   |true,some d=>match Nat.blt d n,d3d T e H o.op with
    |true,some q=>some ⟨q.α,q.x,fun v=>⟨.mix all p ks el,k,(d,q.v v)::e,H⟩⟩
    |_,_=>none
   |_,_=>none
  |_,_=>none
 |_=>none
end
section
variable{P:Program}{T:Tbl P}{R:List OE}{F:Frz}{e:AE T.ty}{m:Env}{H:List (AO T.ty)}
variable{K:Snap}{W:World->Prop}{dst:Option Tmp}{type:TypeId}{pos:String}{after:Array Edge}{guard:Option (Nat×Bool)}
theorem b9n(hE:ConcE T.rp R F e m){d z:Int}{o:Option Operand}(h:bndA e d o=some z):(o=none/\z=d)∨∃x,o=some x/\opv m x=some (.int .i64 z):=by
 cases o with
 |none=>simp only [bndA,Option.some.injEq]at h;exact .inl ⟨rfl,h.symm⟩
 |some x=>
  simp only [bndA]at h
  split at h
  ·rename_i hx
   cases h
   obtain⟨u,h1,h2⟩:=a1b hE hx
   simp only [Conc]at h2;subst h2
   exact .inr ⟨x,rfl,h1⟩
  ·cases h
theorem e4j(hE:ConcE T.rp R F e m)(hH:RelH T.rp K R F H R)(hR:c4s R):∀{op:Op}{q:QV T.ty},d3d T e H op=some q->∀v,q.x=some v->∃u,Conc T.rp R F (q.v v) u/\c2d P W m ⟨dst,op,type,pos,after,guard⟩ u:=by
 intro op q hq
 unfold d3d at hq
 split at hq
 ·split at hq
  ·rename_i hx hy hu
   cases hq
   intro v hv
   obtain⟨u,h1,h2⟩:=a1b hE hx
   obtain⟨z,h3,h4⟩:=a1b hE hy
   simp only [Conc]at h2 h4
   subst h2;subst h4
   exact⟨_,rfl,fun w _ _ _ ha=>by simp [execOp,ha.op h1,ha.op h3,d0x (T.undOk hu) hv]⟩
  ·cases hq
 ·rename_i t x lo hi
  split at hq
  ·rename_i l hx hu
   split at hq
   ·rename_i a b ha0 hb0
    cases hq
    intro v hv
    obtain⟨u,h1,h2⟩:=a1b hE hx
    simp only [Conc]at h2
    subst h2
    refine⟨_,rfl,fun w _ _ _ ha=> ?_⟩
    rcases b9n hE ha0 with⟨rfl,rfl⟩|⟨xl,rfl,h5⟩<;>rcases b9n hE hb0 with⟨rfl,rfl⟩|⟨xh,rfl,h6⟩
    ·simp [execOp,ha.op h1,a9y (T.undOk hu),b9o (T.undOk hu) hv (.inr ⟨rfl,rfl⟩) (.inr ⟨rfl,rfl⟩)]
    ·simp [execOp,ha.op h1,ha.op h6,a9y (T.undOk hu),b9o (T.undOk hu) hv (.inr ⟨rfl,rfl⟩) (.inl rfl)]
    ·simp [execOp,ha.op h1,ha.op h5,a9y (T.undOk hu),b9o (T.undOk hu) hv (.inl rfl) (.inr ⟨rfl,rfl⟩)]
    ·simp [execOp,ha.op h1,ha.op h5,ha.op h6,a9y (T.undOk hu),b9o (T.undOk hu) hv (.inl rfl) (.inl rfl)]
   ·cases hq
  ·rename_i c xs el hx hu
   split at hq
   ·rename_i q0 hS
    split at hq
    ·rename_i a b hk ha0 hb0
     have hk:=Nat.eq_of_beq_eq_true hk
     cases hq
     intro v hv
     obtain⟨u,h1,a',m',n',h2,h3⟩:=a1b hE hx
     subst h2
     have hS:=T.sizeOk hS
     rw [hk]at hS
     have go:∀lo' hi',(lo'=some (.int .i64 a)∨lo'=none/\a=0)->(hi'=some (.int .i64 b)∨hi'=none/\b=xs.length)->
      ∃a2 m2 n2,(∀w,(Instr.sliceAt t (.slice a' m' n') lo' hi' none).run P w= .ok (.slice a2 m2 n2) w)/\SlR (T.rp c) F a2 m2 n2 v:=by
      intro lo' hi' g1 g2
      obtain⟨a2,m2,n2,g3,g4⟩:=d7m (P:=P) (T.undOk hu) hS h3 hv g1 g2
      exact⟨a2,m2,n2,g3,g4⟩
     rcases b9n hE ha0 with⟨rfl,rfl⟩|⟨xl,rfl,h5⟩<;>rcases b9n hE hb0 with⟨rfl,rfl⟩|⟨xh,rfl,h6⟩
     ·obtain⟨a2,m2,n2,g1,g2⟩:=go none none (.inr ⟨rfl,rfl⟩) (.inr ⟨rfl,rfl⟩)
      exact⟨_,⟨a2,m2,n2,rfl,g2⟩,fun w _ _ _ ha=>by simp [execOp,ha.op h1,g1 w]⟩
     ·obtain⟨a2,m2,n2,g1,g2⟩:=go none _ (.inr ⟨rfl,rfl⟩) (.inl rfl)
      exact⟨_,⟨a2,m2,n2,rfl,g2⟩,fun w _ _ _ ha=>by simp [execOp,ha.op h1,ha.op h6,g1 w]⟩
     ·obtain⟨a2,m2,n2,g1,g2⟩:=go _ none (.inl rfl) (.inr ⟨rfl,rfl⟩)
      exact⟨_,⟨a2,m2,n2,rfl,g2⟩,fun w _ _ _ ha=>by simp [execOp,ha.op h1,ha.op h5,g1 w]⟩
     ·obtain⟨a2,m2,n2,g1,g2⟩:=go _ _ (.inl rfl) (.inl rfl)
      exact⟨_,⟨a2,m2,n2,rfl,g2⟩,fun w _ _ _ ha=>by simp [execOp,ha.op h1,ha.op h5,ha.op h6,g1 w]⟩
    ·cases hq
   ·cases hq
  ·cases hq
 ·split at hq
  ·rename_i hx hy
   cases hq
   intro v hv
   obtain⟨u,h1,h2⟩:=a1b hE hx
   obtain⟨z,h3,h4⟩:=a1b hE hy
   simp only [Conc]at h2 h4
   subst h2;subst h4
   rename_i a b
   refine⟨_,rfl,fun w _ _ _ ha=> ?_⟩
   have hv:scat a b=some v:=hv
   have e1:∀t x y,(eqGuard .add t x y (vs a) (vs b)).run P w= .ok () w:=fun _ _ _=>b1d
   have e2:∀t,(binOp .add t (vs a) (vs b)).run P w= .ok (vs v) w:=fun t=>b9j (by simp [c7m,hv])
   simp [execOp,ha.op h1,ha.op h3,e1,e2]
  ·rename_i hx hy
   split at hq
   ·rename_i hk
    have hk:=of_decide_eq_true hk
    subst hk
    cases hq
    intro v hv
    obtain⟨u,h1,h2⟩:=a1b hE hx
    obtain⟨z,h3,h4⟩:=a1b hE hy
    simp only [Conc]at h2 h4
    subst h2;subst h4
    refine⟨_,rfl,fun w _ _ _ ha=> ?_⟩
    dsimp only at hv
    unfold quo at hv
    split at hv
    ·cases hv
    ·rename_i h0;cases hv;simp [execOp,ha.op h1,ha.op h3,a3g,binOp,Op.intDiv,h0]
   ·cases hq
  ·rename_i hx hy
   split at hq
   ·rename_i hk
    have hk:=of_decide_eq_true hk
    subst hk
    cases hq
    intro v hv
    obtain⟨u,h1,h2⟩:=a1b hE hx
    obtain⟨z,h3,h4⟩:=a1b hE hy
    simp only [Conc]at h2 h4
    subst h2;subst h4
    refine⟨_,rfl,fun w _ _ _ ha=> ?_⟩
    dsimp only at hv
    unfold rem at hv
    split at hv
    ·cases hv
    ·rename_i h0;cases hv;simp [execOp,ha.op h1,ha.op h3,a3g,binOp,Op.intDiv,h0]
   ·cases hq
  ·rename_i hx hy
   cases hq
   intro v hv
   obtain⟨u,h1,h2⟩:=a1b hE hx
   obtain⟨z,h3,h4⟩:=a1b hE hy
   simp only [Conc]at h2 h4
   subst h2;subst h4
   refine⟨_,rfl,fun w _ _ _ ha=> ?_⟩
   dsimp only at hv
   unfold shl at hv
   split at hv
   ·cases hv
   ·rename_i h0;cases hv;simp [execOp,ha.op h1,ha.op h3,a3g,binOp,Op.shift,h0]
  ·rename_i hx hy
   cases hq
   intro v hv
   obtain⟨u,h1,h2⟩:=a1b hE hx
   obtain⟨z,h3,h4⟩:=a1b hE hy
   simp only [Conc]at h2 h4
   subst h2;subst h4
   refine⟨_,rfl,fun w _ _ _ ha=> ?_⟩
   dsimp only at hv
   unfold shr at hv
   split at hv
   ·cases hv
   ·rename_i h0;cases hv;simp [execOp,ha.op h1,ha.op h3,a3g,binOp,Op.shift,h0]
  ·cases hq
 ·split at hq
  ·rename_i c xs ik z el hx hy hu
   split at hq
   ·rename_i q0 hS
    split at hq
    ·rename_i hk
     have hk:=Nat.eq_of_beq_eq_true hk
     cases hq
     intro v hv
     obtain⟨u,h1,a',m',n',h2,h3⟩:=a1b hE hx
     obtain⟨y',h4,h5⟩:=a1b hE hy
     simp only [Conc]at h5
     subst h2;subst h5
     have hS:=T.sizeOk hS
     rw [hk]at hS
     obtain⟨b,o,cs,g1,g2,g3⟩:=b1e (P:=P) (T.undOk hu) hS h3 hv
     exact⟨_,⟨b,o,cs,g1,g2,rfl⟩,fun w _ _ _ ha=>by simp [execOp,ha.op h1,ha.op h4,g3]⟩
    ·cases hq
   ·cases hq
  ·rename_i i ik z el hx hy hu
   split at hq
   ·rename_i q0 el' q' c xs hS hi
    split at hq
    ·rename_i hk hk'
     have hk:=Nat.eq_of_beq_eq_true hk
     have hk':=Nat.eq_of_beq_eq_true hk'
     cases hq
     intro v hv
     obtain⟨u,h1,e2,q2,a',m',n',us,h2,h3⟩:=a1b hE hx
     obtain⟨y',h4,h5⟩:=a1b hE hy
     simp only [Conc]at h5
     subst h3;subst h5
     obtain⟨en,g1,a2,m2,n2,us2,g2,g3⟩:=hH.2 i _ hi
     subst g2
     rw [h2]at g1;cases g1
     have hS:=T.sizeOk hS
     rw [hk]at hS
     dsimp only at hv
     unfold ix at hv
     split at hv
     ·rename_i h0
      obtain⟨hlt,_⟩:=List.getElem?_eq_some_iff.1 hv
      obtain⟨hm,hr⟩:=g3
      obtain⟨cs,c1,c2⟩:=RowR.get hr hv
      have hpos:m'≠0:=by omega
      obtain⟨b,rfl⟩:=hR i _ _ _ _ _ _ h2 hpos
      subst hk'
      refine⟨_,⟨el',b,m',n',us,cs,h2,c2,c1,rfl⟩,fun w _ _ _ ha=> ?_⟩
      simp [execOp,ha.op h1,ha.op h4,a8n (T.undOk hu) hS h0 (show z<(m':Int) by omega)]
     ·cases hv
    ·cases hq
   ·rename_i q0 kj el' q' c xs hS hi
    split at hq
    ·rename_i hk hk'
     have hk:=Nat.eq_of_beq_eq_true hk
     have hk':=Nat.eq_of_beq_eq_true hk'
     cases hq
     intro v hv
     obtain⟨u,h1,e2,q2,a',m',n',us,h2,h3⟩:=a1b hE hx
     obtain⟨y',h4,h5⟩:=a1b hE hy
     simp only [Conc]at h5
     subst h3;subst h5
     obtain⟨en,g1,_,a2,m2,n2,us2,g2,g3⟩:=hH.2 i _ hi
     subst g2
     rw [h2]at g1;cases g1
     have hS:=T.sizeOk hS
     rw [hk]at hS
     dsimp only at hv
     unfold ix at hv
     split at hv
     ·rename_i h0
      obtain⟨hlt,_⟩:=List.getElem?_eq_some_iff.1 hv
      obtain⟨hm,hr⟩:=g3
      obtain⟨cs,c1,c2⟩:=RowR.get hr hv
      have hpos:m'≠0:=by omega
      obtain⟨b,rfl⟩:=hR i _ _ _ _ _ _ h2 hpos
      subst hk'
      refine⟨_,⟨el',b,m',n',us,cs,h2,c2,c1,rfl⟩,fun w _ _ _ ha=> ?_⟩
      simp [execOp,ha.op h1,ha.op h4,a8n (T.undOk hu) hS h0 (show z<(m':Int) by omega)]
     ·cases hv
    ·cases hq
   ·cases hq
  ·cases hq
 ·cases hq
end
section
variable{P:Program}{T:Tbl P}{R:List OE}{F:Frz}{e:AE T.ty}{m:Env}{H:List (AO T.ty)}{K:Snap}{W:World->Prop}
theorem c9y(hE:ConcE T.rp R F e m)(hH:RelH T.rp K R F H R)(hR:c4s R){o:Oper}{q:QV T.ty}(h:d3d T e H o.op=some q)(v:q.α)(hv:q.x=some v):∃u,Conc T.rp R F (q.v v) u/\c2d P W m o u:=
 e4j (dst:=o.dst) (type:=o.type) (pos:=o.pos) (after:=o.after) (guard:=o.guard) hE hH hR h v hv
end
section
variable{P:Program}{T:Tbl P}{Q:Exit->Act->World->Prop}{n:Nat}{F0:Frz}{w0:World}{X:List Nat}{K:Snap}
theorem e3v{s:St T.ty}{q:EV T.ty}(h:evV T n s=some q)(v:q.α)(hv:q.x=some v)(k:Sm T Q n F0 w0 X K (q.nx v)):Sm T Q n F0 w0 X K s:=by
 unfold evV at h
 split at h
 ·rename_i all o l its e H
  split at h
  ·rename_i d hg hd
   split at h
   ·rename_i q' hn hq
    cases h
    intro R F m w h1 h2 h3 hX
    obtain⟨u,hu,hr⟩:=c9y (W:=CH F0 w0 X F R) h1 h2 h3.rows hq v hv
    exact a6t hd (by simpa using hn) (a3d h1 hg) (fun a ha=>hr w ⟨F,Frz.refl F,h3⟩ n a ha) (k R F ((d,u)::m) w (h1.put hu) h2 h3 hX)
   ·cases h
  ·cases h
 ·split at h
  ·rename_i d hg hd
   split at h
   ·rename_i q' hn hq
    cases h
    exact d2m hg hd hn (fun R F m g1 g2 g3=>c9y g1 g2 g3 hq v hv) k
   ·cases h
  ·cases h
 ·split at h
  ·rename_i hi hk
   split at h
   ·rename_i d hg hd
    split at h
    ·rename_i q' hn hq
     cases h
     exact d1d hi hk hg hd hn (fun R F m g1 g2 g3 _=>c9y g1 g2 g3 hq v hv) k
    ·cases h
   ·cases h
  ·cases h
 ·cases h
def askT(all:Array Oper)(o:Oper):Option Nat:=match o.guard with
 |some (j,_)=>(all[j]?).bind (·.dst)
 |none=>match o.op with
  | .pick (.tmp t) _ _=>some t
  |_=>none
def evC(s:St T.ty):Option (Bool×St T.ty×St T.ty):=match s with
 |⟨.code (.cond (.tmp t) x y),k,e,H⟩=>match e.lookup t with
  |some (.ob b)=>some (b,⟨.code x,k,(t,.lb true b)::e,H⟩,⟨.code y,k,(t,.lb false b)::e,H⟩)
  |_=>none
 |⟨.ops all (o::l),k,e,H⟩=>match o.guard with
  |some (j,_)=>match(all[j]?).bind (·.dst)with
   |some t=>match e.lookup t with
    |some (.ob b)=>some (b,⟨.ops all (o::l),k,(t,.lb true b)::e,H⟩,⟨.ops all (o::l),k,(t,.lb false b)::e,H⟩)
    |_=>none
   |none=>none
  |none=>match o.op with
   | .pick (.tmp t) _ _=>match e.lookup t with
     |some (.ob b)=>some (b,⟨.ops all (o::l),k,(t,.lb true b)::e,H⟩,⟨.ops all (o::l),k,(t,.lb false b)::e,H⟩)
     |_=>none
   |_=>none
 |⟨.qop all (o::l),k,e,H⟩=>match o.guard with
  |some (j,_)=>match(all[j]?).bind (·.dst)with
   |some t=>match e.lookup t with
    |some (.ob b)=>some (b,⟨.qop all (o::l),k,(t,.lb true b)::e,H⟩,⟨.qop all (o::l),k,(t,.lb false b)::e,H⟩)
    |_=>none
   |none=>none
  |none=>match o.op with
   | .pick (.tmp t) _ _=>match e.lookup t with
     |some (.ob b)=>some (b,⟨.qop all (o::l),k,(t,.lb true b)::e,H⟩,⟨.qop all (o::l),k,(t,.lb false b)::e,H⟩)
     |_=>none
   |_=>none
 |⟨.mix all (.tk i p) ks el,k,e,H⟩=>match all[i]? with
  |some o=>match askT all o with
   |some t=>match e.lookup t with
    |some (.ob b)=>some (b,⟨.mix all (.tk i p) ks el,k,(t,.lb true b)::e,H⟩,⟨.mix all (.tk i p) ks el,k,(t,.lb false b)::e,H⟩)
    |_=>none
   |none=>none
  |none=>none
 |_=>none
theorem d2g{all:Array Oper}{p:Pl}{ks:List Nat}{el:Bool}{k:List It}{e:AE T.ty}{H:List (AO T.ty)}{t:Nat}{b c:Bool}(ht:e.lookup t=some (.ob b))(hb:b=c)(h:Sm T Q n F0 w0 X K ⟨.mix all p ks el,k,(t,.lb c b)::e,H⟩):Sm T Q n F0 w0 X K ⟨.mix all p ks el,k,e,H⟩:=by
 intro R F m w h1 h2 h3 hX hF listed hp
 obtain⟨u,h4,h5⟩:=h1.get ht
 simp only [Conc]at h5;subst h5
 exact c6l t h4 hb (h R F _ w (h1.put ⟨rfl,hb⟩) h2 h3 hX hF listed hp)
theorem c0t{all:Array Oper}{l:List Oper}{k:List It}{e:AE T.ty}{H:List (AO T.ty)}{t:Nat}{b c:Bool}(ht:e.lookup t=some (.ob b))(hb:b=c)(h:Sm T Q n F0 w0 X K ⟨.qop all l,k,(t,.lb c b)::e,H⟩):Sm T Q n F0 w0 X K ⟨.qop all l,k,e,H⟩:=by
 intro R F m w h1 h2 h3 hX
 obtain⟨u,h4,h5⟩:=h1.get ht
 simp only [Conc]at h5;subst h5
 exact d0e t h4 hb (h R F _ w (h1.put ⟨rfl,hb⟩) h2 h3 hX)
theorem c0v{all:Array Oper}{l:List Oper}{k:List It}{e:AE T.ty}{H:List (AO T.ty)}{t:Nat}{b c:Bool}(ht:e.lookup t=some (.ob b))(hb:b=c)(h:Sm T Q n F0 w0 X K ⟨.ops all l,k,(t,.lb c b)::e,H⟩):Sm T Q n F0 w0 X K ⟨.ops all l,k,e,H⟩:=by
 intro R F m w h1 h2 h3 hX
 obtain⟨u,h4,h5⟩:=h1.get ht
 simp only [Conc]at h5;subst h5
 exact a2q t h4 hb (h R F _ w (h1.put ⟨rfl,hb⟩) h2 h3 hX)
theorem d0y{x:Code}{k:List It}{e:AE T.ty}{H:List (AO T.ty)}{t:Nat}{b c:Bool}(ht:e.lookup t=some (.ob b))(hb:b=c)(h:Sm T Q n F0 w0 X K ⟨.code x,k,(t,.lb c b)::e,H⟩):Sm T Q n F0 w0 X K ⟨.code x,k,e,H⟩:=by
 intro R F m w h1 h2 h3 hX
 obtain⟨u,h4,h5⟩:=h1.get ht
 simp only [Conc]at h5;subst h5
 exact a0v t h4 hb (h R F _ w (h1.put ⟨rfl,hb⟩) h2 h3 hX)
theorem d9s{s s1 s2:St T.ty}{b:Bool}(h:evC s=some (b,s1,s2))(k1:b=true->Sm T Q n F0 w0 X K s1)(k2:b=false->Sm T Q n F0 w0 X K s2):Sm T Q n F0 w0 X K s:=by
 unfold evC at h
 split at h
 ·split at h
  ·rename_i t x y k e H _ _ hl
   cases h
   cases b with
   |true=>
    refine d0y hl rfl fun R F m w h1 h2 h3 hX=> ?_
    obtain⟨u,h4,h5⟩:=h1.get (t:=t) (x:= .lb true true) (by simp)
    simp only [Conc]at h5
    rw [h5.1]at h4
    exact a1l h4 (k1 rfl R F m w h1 h2 h3 hX)
   |false=>
    refine d0y hl rfl fun R F m w h1 h2 h3 hX=> ?_
    obtain⟨u,h4,h5⟩:=h1.get (t:=t) (x:= .lb false false) (by simp)
    simp only [Conc]at h5
    rw [h5.1]at h4
    exact a0q h4 (k2 rfl R F m w h1 h2 h3 hX)
  ·cases h
 ·split at h
  ·split at h
   ·split at h
    ·rename_i hl
     cases h
     cases b with
     |true=>exact c0v hl rfl (k1 rfl)
     |false=>exact c0v hl rfl (k2 rfl)
    ·cases h
   ·cases h
  ·split at h
   ·split at h
    ·rename_i hl
     cases h
     cases b with
     |true=>exact c0v hl rfl (k1 rfl)
     |false=>exact c0v hl rfl (k2 rfl)
    ·cases h
   ·cases h
 ·split at h
  ·split at h
   ·split at h
    ·rename_i hl
     cases h
     cases b with
     |true=>exact c0t hl rfl (k1 rfl)
     |false=>exact c0t hl rfl (k2 rfl)
    ·cases h
   ·cases h
  ·split at h
   ·split at h
    ·rename_i hl
     cases h
     cases b with
     |true=>exact c0t hl rfl (k1 rfl)
     |false=>exact c0t hl rfl (k2 rfl)
    ·cases h
   ·cases h
 ·split at h
  ·split at h
   ·split at h
    ·rename_i hl
     cases h
     cases b with
     |true=>exact d2g hl rfl (k1 rfl)
     |false=>exact d2g hl rfl (k2 rfl)
    ·cases h
   ·cases h
  ·cases h
 ·cases h
end
end Go.Proofs.YthaegflpecbfgaaGreatDoor.Rt
namespace Go.Proofs.YthaegflpecbfgaaGreatDoor.Rt
open Go Go.RowKit
set_option linter.unusedVariables false
set_option linter.unusedSimpArgs false
mutual
def rowA{ty:Nat->Type}:AV ty->Option Nat
 | .row i=>some i
 | .agg l=>rowL l
 | .tup l=>rowL l
 |_=>none
def rowL{ty:Nat->Type}:List (AV ty)->Option Nat
 | []=>none
 |x::l=>match rowA x with
  |some i=>some i
  |none=>rowL l
 end
mutual
def c3z{ty:Nat->Type}:AV ty->Bool
 | .agg l=>a9a l
 | .tup l=>a9a l
 | .bx _ _=>false
 | .row _=>false
 | .rel _ _ _ _ _=>false
 | .clo _ l=>a9a l
 | .fb l _=>a9a l
 | .sb _ _ _=>false
 | .rw _ _ _=>false
 |_=>true
def a9a{ty:Nat->Type}:List (AV ty)->Bool
 | []=>true
 |x::l=>match c3z x with
  |true=>a9a l
  |false=>false
 end
mutual
def cnv{ty:Nat->Type}:AV ty->AV ty->AV ty
 | .val v,y=>match y with
   | .sl c _=>match v with
     | .slice none 0 0=> .sl c []
     |v=> .val v
   |_=> .val v
 | .bool b,y=>match y with
   | .ob _=> .ob b
   |_=> .bool b
 | .lb c b,y=>match y with
   | .ob _=> .ob b
   |_=> .lb c b
 | .agg l,y=>match y with
   | .agg l'=> .agg (cnvL l l')
   |_=> .agg l
 | .tup l,y=>match y with
   | .tup l'=> .tup (cnvL l l')
   |_=> .tup l
 |x,_=>x
def cnvL{ty:Nat->Type}:List (AV ty)->List (AV ty)->List (AV ty)
 |x::l,y::l'=>cnv x y::cnvL l l'
 |l,_=>l
 end
section
variable{ty:Nat->Type}{rp:∀c,Rp (ty c)}{R R':List OE}{F F':Frz}
mutual
theorem Conc.pure:∀{x:AV ty}{v:Value},c3z x=true->Conc rp R F x v->Conc rp R' F x v
 | .int k x,v,_,h=>h
 | .bool b,v,_,h=>h
 | .ob b,v,_,h=>h
 | .lb c b,v,_,h=>h
 | .str l,v,_,h=>h
 | .val u,v,_,h=>h
 | .agg l,v,p,⟨cs,h1,h2⟩=>⟨cs,h1,ConcL.pure p h2⟩
 | .tup l,v,p,⟨cs,h1,h2⟩=>⟨cs,h1,ConcL.pure p h2⟩
 | .sl c xs,v,_,h=>h
 | .bx j o,v,p,_=>by cases p
 | .el c x o,v,_,h=>h
 | .row j,v,p,_=>by cases p
 | .rel j c x p o,v,q,_=>by cases q
 | .any,v,_,_=>trivial
 | .clo f l,v,p,⟨cs,h1,h2⟩=>⟨cs,h1,ConcL.pure p h2⟩
 | .fb l o,v,p,⟨b,cs,h1,h2,h3⟩=>⟨b,cs,h1,h2,ConcL.pure p h3⟩
 | .sb j c k,v,p,_=>by cases p
 | .rw j lo hi,v,p,_=>by cases p
theorem ConcL.pure:∀{l:List (AV ty)}{cs:List Value},a9a l=true->ConcL rp R F l cs->ConcL rp R' F l cs
 | [],_,_,h=>h
 |x::l,_,p,⟨v,k,h1,h2,h3⟩=>by
  unfold a9a at p
  split at p
  ·rename_i hx;exact⟨v,k,h1,Conc.pure hx h2,ConcL.pure p h3⟩
  ·cases p
 end
mutual
theorem Conc.cnv:∀{x:AV ty}(y:AV ty){v:Value},Conc rp R F x v->Conc rp R F (Rt.cnv x y) v
 | .agg l,y,v,h=>by
  cases y<;>first|exact h|skip
  obtain⟨cs,h1,h2⟩:=h
  exact⟨cs,h1,ConcL.cnv _ h2⟩
 | .tup l,y,v,h=>by
  cases y<;>first|exact h|skip
  obtain⟨cs,h1,h2⟩:=h
  exact⟨cs,h1,ConcL.cnv _ h2⟩
 | .val u,y,v,h=>by
  unfold Rt.cnv
  split
  ·split
   ·exact⟨none,0,0,h,SlR.nil _ _⟩
   ·exact h
  ·exact h
 | .int k x,y,v,h=>h
 | .bool b,y,v,h=>by cases y<;>exact h
 | .ob b,y,v,h=>h
 | .lb c b,y,v,h=>by
  cases y<;>first|exact h|(simp only [Conc]at h;exact h.1.trans (by rw [h.2]))
 | .str l,y,v,h=>h
 | .sl c xs,y,v,h=>h
 | .bx j o,y,v,h=>h
 | .el c x o,y,v,h=>h
 | .row j,y,v,h=>h
 | .rel j c x p o,y,v,h=>h
 | .any,y,v,h=>h
 | .clo f l,y,v,h=>h
 | .fb l o,y,v,h=>h
 | .sb j c k,y,v,h=>h
 | .rw j lo hi,y,v,h=>h
theorem ConcL.cnv:∀{l:List (AV ty)}(l':List (AV ty)){cs:List Value},ConcL rp R F l cs->ConcL rp R F (cnvL l l') cs
 | [],l',_,h=>by unfold cnvL;exact h
 |x::l,[],_,h=>by unfold cnvL;exact h
 |x::l,y::l',_,⟨v,k,h1,h2,h3⟩=>⟨v,k,h1,Conc.cnv y h2,ConcL.cnv l' h3⟩
 end
theorem c8q(h:F.le F'):Keep [] F R F':=⟨h,fun _ _ _ _ h=>by simp at h,fun _ _ _ _ _ _ _ h=>by simp at h⟩
end
section
variable{P:Program}(T:Tbl P)
def frzW:Nat->List (AV T.ty)->AE T.ty->List (AO T.ty)->Option (List (AV T.ty)×AE T.ty×List (AO T.ty))
 |0,_,_,_=>none
 |f+1,l,e,H=>match rowL l with
  |none=>some (l,e,H)
  |some i=>match H[i]? with
   |some (.row _ _ c xs)=>match putA i .gone (subH i (.sl c xs) H)with
    |some H'=>frzW f (AV.subL i (.sl c xs) l) (subE i (.sl c xs) e) H'
    |none=>none
   |_=>none
end
section
variable{P:Program}{T:Tbl P}{F0:Frz}{w0:World}{X:List Nat}{Kz:Snap}
theorem c5f{α:Type}(x:α):∀(l:List α)(i:Nat),i<l.length->(x::l.eraseIdx i).Perm (l.set i x)
 | [],_,h=>absurd h (Nat.not_lt_zero _)
 |_::_,0,_=>List.Perm.refl _
 |y::l,i+1,h=>(List.Perm.swap y x _).trans ((c5f x l i (Nat.lt_of_succ_lt_succ h)).cons y)
theorem frz1{R:List OE}{F:Frz}{w:World}{H:List (AO T.ty)}{i el q c:Nat}{xs:List (T.ty c)}(hH:RelH T.rp Kz R F H R)(hS:HS F0 w0 X F R w)(hX:LG T X R F)(hi:H[i]?=some (.row el q c xs)):
 ∃R' F',Turn T.rp i (.sl c xs) R F R' F'/\RelH T.rp Kz R' F' ((subH i (.sl c xs) H).set i .gone) R'/\HS F0 w0 X F' R' w/\LG T X R' F':=by
 obtain⟨en,h1,a,m,n,us,rfl,h2⟩:=hH.2 i _ hi
 obtain⟨hlt,hget⟩:=List.getElem?_eq_some_iff.1 h1
 have hother:∀(j b:Nat)t(cs:List Value),R[j]?=some (.box b t cs)->j≠i:=by
  intro j b t cs hj e;subst e;rw [h1]at hj;cases hj
 obtain⟨F',hle,h3,h4⟩:=b9t hS h1 h2 (fun gb hb=>by
  rcases(hS.sep _ (List.mem_of_getElem? h1) gb hb).2 with h|h
  ·exact h
  ·exfalso
   obtain⟨j,hj0⟩:=List.mem_iff_getElem?.1 h
   obtain⟨t,cs,hj⟩:=hX.1 j gb hj0
   have hji:=hother j gb t cs hj
   obtain⟨hj1,hj2⟩:=List.getElem?_eq_some_iff.1 hj
   have hp:=List.pairwise_iff_getElem.1 hS.dis
   rcases Nat.lt_or_ge i j with h5|h5
   ·exact hp i j hlt hj1 h5 gb (hget▸hb) (by rw [hj2];rfl)
   ·exact hp j i hj1 hlt (by omega) gb (by rw [hj2];rfl) (hget▸hb))
 have hT:Turn T.rp i (.sl c xs) R F (R.set i (.row 0 0 none 0 0 [])) F':=by
  refine⟨hle,fun j b t cs hj=>⟨cs,?_⟩,fun j e' q' a' m' n' xs' hji hj=> ?_,fun v hv=> ?_⟩
  ·rw [List.getElem?_set,if_neg (fun e=>hother j b t cs hj e.symm)];exact hj
  ·rw [List.getElem?_set,if_neg (fun e=>hji e.symm)];exact hj
  ·obtain⟨e',q',a',m',n',xs',h5,h6⟩:=hv
   rw [h1]at h5;cases h5
   exact⟨a,m,n,h6,h4⟩
 refine⟨_,F',hT,(hH.sub hT).set i trivial,(h3.nilRow 0 0).perm (c5f _ _ _ hlt),fun j b hb=> ?_,T.glMono hle hX.2⟩
 obtain⟨t,cs,hj⟩:=hX.1 j b hb
 exact⟨t,cs,by rw [List.getElem?_set,if_neg (fun e=>hother j b t cs hj e.symm)];exact hj⟩
theorem b0t{m:Env}{w:World}{us:List Value}:∀{f:Nat}{l:List (AV T.ty)}{e:AE T.ty}{H:List (AO T.ty)}{l':List (AV T.ty)}{e':AE T.ty}{H':List (AO T.ty)}{R:List OE}{F:Frz},frzW T f l e H=some (l',e',H')->
 ConcE T.rp R F e m->RelH T.rp Kz R F H R->HS F0 w0 X F R w->LG T X R F->ConcL T.rp R F l us->∃R' F',F.le F'/\ConcE T.rp R' F' e' m/\RelH T.rp Kz R' F' H' R'/\HS F0 w0 X F' R' w/\LG T X R' F'/\ConcL T.rp R' F' l' us
 |0,_,_,_,_,_,_,_,_,h,_,_,_,_,_=>by simp [frzW]at h
 |f+1,l,e,H,l',e',H',R,F,h,hE,hH,hS,hX,hl=>by
  unfold frzW at h
  split at h
  ·cases h;exact⟨R,F,Frz.refl F,hE,hH,hS,hX,hl⟩
  ·split at h
   ·rename_i i _ el q c xs hi
    split at h
    ·rename_i H2 hput
     have hput:=b7d hput
     subst hput
     obtain⟨R',F',hT,g1,g2,g3⟩:=frz1 hH hS hX hi
     obtain⟨R2,F2,k1,k2⟩:=b0t h (hE.sub hT) g1 g2 g3 (hl.sub hT)
     exact⟨R2,F2,hT.le.trans k1,k2⟩
    ·cases h
   ·cases h
theorem c0a{R:List OE}{F:Frz}{e:AE T.ty}{m:Env}(hE:ConcE T.rp R F e m){l:List Operand}{r:List (AV T.ty)}(h:opL e l=some r):∃us,opvs m l=some us/\ConcL T.rp R F r us:=c9c hE h
def FnC(T:Tbl P)(f:FuncId){ρ:Type}(az:List (AV T.ty))(m:Option ρ)(res:ρ->AV T.ty):Prop:=
 Ent P f/\∀r,m=some r->∀w F,Sat F w->T.gl F->∀us,ConcL T.rp [] F az us->Calls P f us.toArray w fun e w'=>∃v F',e= .returned v/\HS F w [] F' [] w'/\Conc T.rp [] F' (res r) v
def calA{ty:Nat->Type}:AV ty->Option (FuncId×List (AV ty))
 | .val (.func (.func f) fi ca)=>match fi.toList,ca.toList with
   | [],[]=>some (f,[])
   |_,_=>none
 | .clo f l=>some (f,l)
 |_=>none
theorem c9n{R:List OE}{F:Frz}{x:AV T.ty}{f:FuncId}{l:List (AV T.ty)}{v:Value}(h:calA x=some (f,l))(hc:Conc T.rp R F x v):∃cs:List Value,v= .func (.func f) #[] cs.toArray/\ConcL T.rp R F l cs:=by
 unfold calA at h
 split at h
 ·rename_i f' fi ca
  split at h
  ·rename_i hfi hca
   cases h
   have hfi:fi= #[]:=Array.toList_eq_nil_iff.1 hfi
   have hca:ca= #[]:=Array.toList_eq_nil_iff.1 hca
   subst hfi;subst hca
   exact⟨[],hc,rfl⟩
  ·cases h
 ·cases h
  exact hc
 ·cases h
structure KV(ty:Nat->Type)where
 f:FuncId
 az:List (AV ty)
 nx:AV ty->St ty
end
section
variable{P:Program}(T:Tbl P)
def evK(n:Nat)(s:St T.ty):Option (KV T.ty):=match s with
 |⟨.ops all (o::l),k,e,H⟩=>match a9g all e o.guard,o.dst,o.op with
  |true,some d,.call ⟨.value c,args,_⟩=>match Nat.blt d n,opA e c,opL e args.toList with
   |true,some y,some az=>match calA y with
    |some (f,caps)=>match frzW T (H.length+1) (az++caps) e H with
     |some (as',e',H')=>some ⟨f,as',fun v=>⟨.ops all l,k,(d,v)::e',H'⟩⟩
     |none=>none
    |none=>none
   |_,_,_=>none
  |_,_,_=>none
 |_=>none
def evKq(n:Nat)(s:St T.ty):Option (KV T.ty):=match s with
 |⟨.qop all (o::l),k,e,H⟩=>match a9g all e o.guard,o.dst,o.op with
  |true,some d,.call ⟨.value c,args,_⟩=>match Nat.blt d n,opA e c,opL e args.toList with
   |true,some (.val (.func (.func f) fi ca)),some az=>match fi.toList,ca.toList with
    | [],[]=>some ⟨f,az,fun v=>⟨.qop all l,k,(d,v)::e,H⟩⟩
    |_,_=>none
   |_,_,_=>none
  |_,_,_=>none
 |_=>none
def resA(e:AE T.ty)(H:List (AO T.ty)):List ResultVar->Option (List (AV T.ty))
 | []=>some []
 | .tmp t::l=>match e.lookup t with
   |some x=>match resA e H l with
    |some r=>some (x::r)
    |none=>none
   |none=>none
 | .cell a t::l=>match e.lookup a with
   |some (.bx i 0)=>match H[i]? with
    |some (.box _ cs)=>match c0o T t cs with
     |some x=>match resA e H l with
      |some r=>some (x::r)
      |none=>none
     |none=>none
    |_=>none
   |_=>none
def oneR{ty:Nat->Type}:List (AV ty)->AV ty
 | [x]=>x
 |l=> .tup l
def evR(fn:Func)(s:St T.ty):Option (AV T.ty):=match s with
 |⟨.out .ret,[],e,H⟩=>match resA T e H fn.results.toList with
  |some l=>match frzW T (H.length+1) l e H with
   |some (l',_,_)=>some (oneR l')
   |none=>none
  |none=>none
 |_=>none
end
mutual
def valA{ty:Nat->Type}:AV ty->Option Value
 | .int k x=>some (.int k x)
 | .bool b=>some (.bool b)
 | .ob b=>some (.bool b)
 | .str l=>some (vs l)
 | .val v=>some v
 | .tup l=>match valL l with
   |some r=>some (.tuple r.toArray)
   |none=>none
 | .agg l=>match valL l with
   |some r=>some (.agg r.toArray)
   |none=>none
 |_=>none
def valL{ty:Nat->Type}:List (AV ty)->Option (List Value)
 | []=>some []
 |x::l=>match valA x with
  |some v=>match valL l with
   |some r=>some (v::r)
   |none=>none
  |none=>none
 end
section
variable{P:Program}{T:Tbl P}{Q:Exit->Act->World->Prop}{n:Nat}{F0:Frz}{w0:World}{X:List Nat}{Kz:Snap}
mutual
theorem d2a{R:List OE}{F:Frz}:∀{x:AV T.ty}{u:Value},valA x=some u->Conc T.rp R F x u
 | .int k x,u,h=>by simp only [valA,Option.some.injEq]at h;exact h.symm
 | .bool b,u,h=>by simp only [valA,Option.some.injEq]at h;exact h.symm
 | .ob b,u,h=>by simp only [valA,Option.some.injEq]at h;exact h.symm
 | .str l,u,h=>by simp only [valA,Option.some.injEq]at h;exact h.symm
 | .val w,u,h=>by simp only [valA,Option.some.injEq]at h;exact h.symm
 | .tup l,u,h=>by
  simp only [valA]at h
  split at h
  ·rename_i r hr;cases h;exact⟨r,rfl,c1u hr⟩
  ·cases h
 | .agg l,u,h=>by
  simp only [valA]at h
  split at h
  ·rename_i r hr;cases h;exact⟨r,rfl,c1u hr⟩
  ·cases h
 | .lb c b,u,h=>by cases h
 | .sl c xs,u,h=>by cases h
 | .bx j o,u,h=>by cases h
 | .el c x o,u,h=>by cases h
 | .row j,u,h=>by cases h
 | .rel j c x p o,u,h=>by cases h
 | .any,u,h=>by cases h
 | .clo f l,u,h=>by cases h
 | .fb l o,u,h=>by cases h
 | .sb j c k,u,h=>by cases h
 | .rw j lo hi,u,h=>by cases h
theorem c1u{R:List OE}{F:Frz}:∀{l:List (AV T.ty)}{us:List Value},valL l=some us->ConcL T.rp R F l us
 | [],us,h=>by simp only [valL,Option.some.injEq]at h;subst h;rfl
 |x::l,us,h=>by
  simp only [valL]at h
  split at h
  ·rename_i v' hx
   split at h
   ·rename_i r hr;cases h;exact⟨v',r,rfl,d2a hx,c1u hr⟩
   ·cases h
  ·cases h
 end
theorem e5m{s:St T.ty}{q:KV T.ty}(h:evK T n s=some q){ρ:Type}{az:List (AV T.ty)}{mr:Option ρ}{res:ρ->AV T.ty}(hF:FnC T q.f az mr res)(hc:cnvL q.az az=az)(hp:a9a az=true){r:ρ}(hr:mr=some r)
 (k:Sm T Q n F0 w0 X Kz (q.nx (res r))):Sm T Q n F0 w0 X Kz s:=by
 unfold evK at h
 split at h
 ·rename_i all o l its e H
  split at h
  ·rename_i d c args ts hg hd ho
   split at h
   ·rename_i y as0 hn hf hl
    split at h
    ·rename_i f caps hcal
     split at h
     ·rename_i as' e' H' hz
      cases h
      dsimp only at hF hc k
      intro R F m w h1 h2 h3 hX
      obtain⟨us,g1,g2⟩:=c0a h1 hl
      obtain⟨u,g3,g4⟩:=a1b h1 hf
      obtain⟨cs,rfl,g5⟩:=c9n hcal g4
      obtain⟨R',F',k1,k2,k3,k4,k5,k6⟩:=b0t hz h1 h2 h3 hX (g2.app g5)
      have k7:=(k6.cnv az)
      rw [hc]at k7
      obtain⟨dst,op,type,pos,after,guard⟩:=o
      dsimp only at hg hd ho
      subst hd;subst ho
      have:=d0h (P:=P) (Q:=kq P Kz Q its) (opr:=all) (rest:=l) (ty:=type) (pos:=pos) (es:=after) (ts:=ts) (first:= #[]) (cap:=cs.toArray) (R:=fun v F' O'=>O'= []/\Conc T.rp [] F' (res r) v) hF.1 (a3d h1 hg) hn g3 g1 k4
       (by
        have h9:=(hF.2 r hr w F' k4.sat k5.2 (us++cs) (k7.pure hp)).mono fun _ _⟨v,F2,e1,e2,e3⟩=>(⟨v,F2,[],e1,e2,rfl,e3⟩:∃v F2 O',_=Ending.returned v/\HS F' w [] F2 O' _/\O'= []/\Conc T.rp [] F2 (res r) v)
        simpa using h9)
       (fun v F2 O' w' hle hS⟨e1,e2⟩=>by
        subst e1
        exact k R' F2 ((d,v)::m) w' ((k2.mono (Keep.frz hle)).put (e2.mono (c8q (Frz.refl F2)))) (k3.mono (Keep.frz hle)) hS (k5.keep (Keep.frz hle)))
      show RW P all _ _ _ _ _
      simpa using this
     ·cases h
    ·cases h
   ·cases h
  ·cases h
 ·cases h
mutual
theorem d7b{R:List OE}{F:Frz}:∀{x:AV T.ty}{u v:Value},valA x=some u->Conc T.rp R F x v->v=u
 | .int k x,u,v,h,hc=>by simp only [valA,Option.some.injEq]at h;subst h;exact hc
 | .bool b,u,v,h,hc=>by simp only [valA,Option.some.injEq]at h;subst h;exact hc
 | .ob b,u,v,h,hc=>by simp only [valA,Option.some.injEq]at h;subst h;exact hc
 | .str l,u,v,h,hc=>by simp only [valA,Option.some.injEq]at h;subst h;exact hc
 | .val w,u,v,h,hc=>by simp only [valA,Option.some.injEq]at h;subst h;exact hc
 | .tup l,u,v,h,⟨cs,h1,h2⟩=>by
  simp only [valA]at h
  split at h
  ·rename_i r hr;cases h;rw [h1,d0b hr h2]
  ·cases h
 | .agg l,u,v,h,⟨cs,h1,h2⟩=>by
  simp only [valA]at h
  split at h
  ·rename_i r hr;cases h;rw [h1,d0b hr h2]
  ·cases h
 | .lb c b,u,v,h,_=>by cases h
 | .sl c xs,u,v,h,_=>by cases h
 | .bx j o,u,v,h,_=>by cases h
 | .el c x o,u,v,h,_=>by cases h
 | .row j,u,v,h,_=>by cases h
 | .rel j c x p o,u,v,h,_=>by cases h
 | .any,u,v,h,_=>by cases h
 | .clo f l,u,v,h,_=>by cases h
 | .fb l o,u,v,h,_=>by cases h
 | .sb j c k,u,v,h,_=>by cases h
 | .rw j lo hi,u,v,h,_=>by cases h
theorem d0b{R:List OE}{F:Frz}:∀{l:List (AV T.ty)}{us cs:List Value},valL l=some us->ConcL T.rp R F l cs->cs=us
 | [],us,cs,h,hc=>by simp only [valL,Option.some.injEq]at h;subst h;exact hc
 |x::l,us,cs,h,⟨v,k,h1,h2,h3⟩=>by
  simp only [valL]at h
  split at h
  ·rename_i v' hx
   split at h
   ·rename_i r hr;cases h;rw [h1,d7b hx h2,d0b hr h3]
   ·cases h
  ·cases h
 end
theorem e0o{s:St T.ty}{q:KV T.ty}(h:evKq T n s=some q){ρ:Type}{az:List (AV T.ty)}{mr:Option ρ}{res:ρ->AV T.ty}(hF:FnC T q.f az mr res)(hc:cnvL q.az az=az)(hp:a9a az=true){r:ρ}(hr:mr=some r){v:Value}(hv:valA (res r)=some v)
 (k:Sm T Q n F0 w0 X Kz (q.nx (res r))):Sm T Q n F0 w0 X Kz s:=by
 unfold evKq at h
 split at h
 ·rename_i all o l its e H
  split at h
  ·rename_i d c args ts hg hd ho
   split at h
   ·rename_i f fi ca as0 hn hf hl
    split at h
    ·rename_i hfi hca
     cases h
     dsimp only at hF hc k
     intro R F m w h1 h2 h3 hX
     obtain⟨us,g1,g2⟩:=c0a h1 hl
     have k7:=(g2.cnv az)
     rw [hc]at k7
     obtain⟨u,g3,g4⟩:=a1b h1 hf
     simp only [Conc]at g4
     subst g4
     have hfi:fi= #[]:=Array.toList_eq_nil_iff.1 hfi
     have hca:ca= #[]:=Array.toList_eq_nil_iff.1 hca
     subst hfi;subst hca
     obtain⟨dst,op,type,pos,after,guard⟩:=o
     dsimp only at hg hd ho
     subst hd;subst ho
     obtain⟨args⟩:=args
     refine d7r (v:=v) hF.1 (a3d h1 hg) hn g3 g1 (fun F' w' hle hS=> ?_) (k R F ((d,v)::m) w (h1.put ?_) h2 h3 hX)
     ·refine(hF.2 r hr w' F' hS.sat (T.glMono hle hX.2) us ((k7.mono (Keep.frz hle)).pure hp)).mono ?_
      rintro e w2 ⟨v2,F2,e1,e2,e3⟩
      exact⟨v2,F2,[],e1,e2,d7b hv e3,rfl⟩
     ·exact d2a hv
    ·cases h
   ·cases h
  ·cases h
 ·cases h
theorem d2t{R:List OE}{F:Frz}{t:TypeId}{cs:List (AV T.ty)}{x:AV T.ty}(h:c0o T t cs=some x){us:List Value}(hc:ConcL T.rp R F cs us){w:World}{b:Nat}(hw:∀(j:Nat)v,us[j]?=some v->w.cell? ⟨b,j,none⟩=some v):
 ∃v,Conc T.rp R F x v/\(loadVar t ⟨b,0,none⟩).run P w= .ok v w:=by
 unfold c0o at h
 split at h
 ·rename_i hA
  have hA:=T.aggOk hA
  obtain⟨v,h1,h2⟩:=hc.get (j:=0) (x:=x) (by rw [<-h];exact(List.head?_eq_getElem? ..).symm)
  exact⟨v,h2,by simp [loadVar,hA w,hw 0 v h1]⟩
 ·rename_i hA
  have hA:=T.aggOk hA
  split at h
  ·rename_i m hS
   have hS:=T.sizeOk hS
   split at h
   ·rename_i l hl
    cases h
    obtain⟨e1,e2⟩:=b5y hl
    have h4:=ConcL.take m hc
    rw [e1]at h4
    have h5:(us.take m).length=m:=by rw [h4.len,e2]
    have e:=run_loadCells_list (P:=P) w ⟨b,0,none⟩ (us.take m) (fun j v hj=>by
     rw [a7u,Nat.zero_add]
     refine hw j v ?_
     rw [List.getElem?_take]at hj
     split at hj
     ·exact hj
     ·cases hj)
    rw [h5]at e
    exact⟨_,⟨us.take m,rfl,h4⟩,by simp [loadVar,hA w,hS w,e]⟩
   ·cases h
  ·cases h
 ·cases h
def c4n(a:Act):ResultVar->Go.Sem Value
 | .tmp t=>Pure.pure (a.tmps.getD t undef)
 | .cell c t=>do loadVar t (<-asAddr (a.tmps.getD c undef))
theorem b6f(fn:Func)(a:Act):results fn a.tmps=(do
 let vs<-fn.results.mapM (c4n a)
 Pure.pure (if h:vs.size=1 then vs[0]else .tuple vs)):=by
 unfold results
 congr 1
theorem b9q{R:List OE}{F:Frz}{e:AE T.ty}{m:Env}{H:List (AO T.ty)}{w:World}(hE:ConcE T.rp R F e m)(hH:RelH T.rp Kz R F H R)(hS:HS F0 w0 X F R w):∀{l:List ResultVar}{r:List (AV T.ty)},resA T e H l=some r->
 ∃us,ConcL T.rp R F r us/\∀a,Has n a m->(List.mapM (c4n a) l).run P w= .ok us w
 | [],r,h=>by simp only [resA,Option.some.injEq]at h;subst h;exact⟨[],rfl,fun a ha=>by simp⟩
 | .tmp t::l,r,h=>by
  simp only [resA]at h
  split at h
  ·rename_i x hx
   split at h
   ·rename_i r' hl
    cases h
    obtain⟨u,h1,h2⟩:=hE.get hx
    obtain⟨us,h3,h4⟩:=b9q hE hH hS hl
    exact⟨u::us,⟨u,us,rfl,h2,h3⟩,fun a ha=>by
     have h5:(c4n a (.tmp t)).run P w= .ok u w:=by simp [c4n,ha.get t u h1]
     simp [List.mapM_cons,h5,h4 a ha]⟩
   ·cases h
  ·cases h
 | .cell c t::l,r,h=>by
  simp only [resA]at h
  split at h
  ·rename_i i hx
   split at h
   ·rename_i t' cs hi
    split at h
    ·rename_i x hlo
     split at h
     ·rename_i r' hl
      cases h
      obtain⟨u,h1,b,tb,vs0,g1,rfl⟩:=hE.get hx
      obtain⟨en,g2,b2,ws,rfl,g3⟩:=hH.2 i _ hi
      rw [g1]at g2;cases g2
      obtain⟨v,g4,g5⟩:=d2t hlo g3 (w:=w) (b:=b) (fun j v hj=>c0x hS g1 hj)
      obtain⟨us,h3,h4⟩:=b9q hE hH hS hl
      exact⟨v::us,⟨v,us,rfl,g4,h3⟩,fun a ha=>by
       have h5:(c4n a (.cell c t)).run P w= .ok v w:=by simp [c4n,ha.get c _ h1,asAddr,g5]
       simp [List.mapM_cons,h5,h4 a ha]⟩
     ·cases h
    ·cases h
   ·cases h
  ·cases h
def d3u{P:Program}(T:Tbl P)(F0:Frz)(w0:World)(av:AV T.ty):Ending->World->Prop:=fun e w'=>∃v F',e= .returned v/\HS F0 w0 [] F' [] w'/\Conc T.rp [] F' av v
theorem c8t{R:List OE}{F:Frz}:∀{l:List (AV T.ty)}{us:List Value},ConcL T.rp R F l us->Conc T.rp R F (oneR l) (if h:us.toArray.size=1 then us.toArray[0]else .tuple us.toArray)
 | [],us,h=>by simp only [ConcL]at h;subst h;exact⟨[],rfl,rfl⟩
 | [x],us,⟨v,k,h1,h2,h3⟩=>by simp only [ConcL]at h3;subst h3;subst h1;exact h2
 |x::y::l,us,h=>by
  have:=h.len
  rw [dif_neg (by simp [this])]
  exact⟨us,rfl,h⟩
theorem e5o{fn:Func}{s:St T.ty}{x y:AV T.ty}(h:evR T fn s=some x)(hc:cnv x y=y)(hp:c3z y=true):Sm T (bodyPost P fn (d3u T F0 w0 y)) n F0 w0 [] Kz s:=by
 unfold evR at h
 split at h
 ·rename_i e H
  split at h
  ·rename_i l hl
   split at h
   ·rename_i l' e' H' hz
    cases h
    intro R F m w h1 h2 h3 hX
    obtain⟨us,g1,g2⟩:=b9q (n:=n) h1 h2 h3 hl
    obtain⟨R',F',k1,k2,k3,k4,k5,k6⟩:=b0t hz h1 h2 h3 hX g1
    have k7:=(c8t k6).cnv y
    rw [hc]at k7
    refine c9v (v:=if h:us.toArray.size=1 then us.toArray[0]else .tuple us.toArray) (fun a ha=> ?_) ⟨_,F',rfl,k4.sub (List.nil_sublist _),k7.pure hp⟩
    have g3:=g2 a ha
    rw [b6f,Array.mapM_eq_mapM_toList]
    simp [g3]
   ·cases h
  ·cases h
 ·cases h
end
end Go.Proofs.YthaegflpecbfgaaGreatDoor.Rt
namespace Go.Proofs.YthaegflpecbfgaaGreatDoor.Rt
open Go Go.RowKit
set_option linter.unusedVariables false
set_option linter.unusedSimpArgs false
section
variable{P:Program}{T:Tbl P}{n:Nat}{F0:Frz}{w0:World}{X:List Nat}{Kz:Snap}{ρ:Type}{Q:Exit->Act->World->Prop}
def G{P:Program}(T:Tbl P)(Q:Exit->Act->World->Prop)(n:Nat)(F0:Frz)(w0:World)(X:List Nat)(Kz:Snap){ρ:Type}(r:ρ)(m:Option ρ)(s:St T.ty):Prop:=m=some r->Sm T Q n F0 w0 X Kz s
def rn(T:Tbl P)(n:Nat)(s:St T.ty):St T.ty:=match s with
 |⟨c,k,e,H⟩=>run T n 1000 c k e H
theorem a7m{s:St T.ty}(h:Sm T Q n F0 w0 X Kz (rn T n s)):Sm T Q n F0 w0 X Kz s:=run_ok 1000 s.ctl s.its s.env s.H h
def evG(s:St T.ty):Option (Nat×Array Oper×List It×AE T.ty×List (AO T.ty)):=match s with
 |⟨.code (.region id ops true),k,e,H⟩=>some (id,ops,k,e,H)
 |_=>none
theorem gG{r:ρ}{m:Option ρ}{s:St T.ty}{id:Nat}{ops:Array Oper}{k:List It}{e:AE T.ty}{H:List (AO T.ty)}(h:evG (rn T n s)=some (id,ops,k,e,H))(hB:Region.lexB .any ops=true)(g:G T Q n F0 w0 X Kz r m ⟨.qop ops ops.toList,k,e,H⟩):G T Q n F0 w0 X Kz r m s:=fun hm=>by
 refine a7m ?_
 revert h
 generalize rn T n s=s'
 intro h
 unfold evG at h
 split at h
 ·cases h
  intro R F m w h1 h2 h3 hX
  have:=b5i (P:=P) (Q:=kq P Kz Q k) (id:=id) (l:=ops.toList) (env:=m) T.mix (by simpa using hB) h3 (g hm R F m w h1 h2 h3 hX)
  show CW P _ _ _ _ _
  simpa using this
 ·cases h
theorem gV{r:ρ}{α:Type}{x:Option α}{f:α->Option ρ}{nx:α->St T.ty}{s:St T.ty}(h:evV T n (rn T n s)=some ⟨α,x,nx⟩)(k:∀v,G T Q n F0 w0 X Kz r (f v) (nx v)):G T Q n F0 w0 X Kz r (x.bind f) s:=fun hm=>by
 obtain⟨v,hv,hm⟩:=bind_some hm
 exact a7m (e3v h v hv (k v hm))
theorem gC{r:ρ}{b:Bool}{x y:Option ρ}{s s1 s2:St T.ty}(h:evC (rn T n s)=some (b,s1,s2))(k1:b=true->G T Q n F0 w0 X Kz r x s1)(k2:b=false->G T Q n F0 w0 X Kz r y s2):G T Q n F0 w0 X Kz r (bif b then x else y) s:=fun hm=>by
 refine a7m (d9s h (fun hb=> ?_) (fun hb=> ?_))
 ·subst hb;exact k1 rfl hm
 ·subst hb;exact k2 rfl hm
theorem gD{r:ρ}{b:Bool}{α:Type}{x y:Option α}{f:α->Option ρ}{s s1 s2:St T.ty}(h:evC (rn T n s)=some (b,s1,s2))(k1:b=true->G T Q n F0 w0 X Kz r (x.bind f) s1)(k2:b=false->G T Q n F0 w0 X Kz r (y.bind f) s2):G T Q n F0 w0 X Kz r ((bif b then x else y).bind f) s:=fun hm=>by
 refine a7m (d9s h (fun hb=> ?_) (fun hb=> ?_))
 ·subst hb;exact k1 rfl hm
 ·subst hb;exact k2 rfl hm
theorem gB{r:ρ}{α:Type}{a:α}{f:α->Option ρ}{s:St T.ty}(k:G T Q n F0 w0 X Kz r (f a) s):G T Q n F0 w0 X Kz r ((some a).bind f) s:=k
theorem gT{r:ρ}{x y:Option ρ}{s:St T.ty}(k:G T Q n F0 w0 X Kz r x s):G T Q n F0 w0 X Kz r (bif true then x else y) s:=k
theorem gTb{r:ρ}{α:Type}{x y:Option α}{f:α->Option ρ}{s:St T.ty}(k:G T Q n F0 w0 X Kz r (x.bind f) s):G T Q n F0 w0 X Kz r ((bif true then x else y).bind f) s:=k
theorem gA{r:ρ}{α β:Type}{x:Option α}{g:α->Option β}{f:β->Option ρ}{s:St T.ty}(k:G T Q n F0 w0 X Kz r (x.bind fun a=>(g a).bind f) s):G T Q n F0 w0 X Kz r ((x.bind g).bind f) s:=fun hm=>k (by rw [<-hm];cases x<;>rfl)
theorem gK{r:ρ}{α:Type}{x:Option α}{g:α->Option ρ}{f:FuncId}{as0 az:List (AV T.ty)}{res:α->AV T.ty}{nx:AV T.ty->St T.ty}{s:St T.ty}(hF:FnC T f az x res)(h:evK T n (rn T n s)=some ⟨f,as0,nx⟩)(hc:cnvL as0 az=az)(hp:a9a az=true)
 (k:∀v,G T Q n F0 w0 X Kz r (g v) (nx (res v))):G T Q n F0 w0 X Kz r (x.bind g) s:=fun hm=>by
 obtain⟨v,hv,hm⟩:=bind_some hm
 exact a7m (e5m h hF hc hp hv (k v hm))
def retQ{P:Program}(T:Tbl P)(fn:Func)(F0:Frz)(w0:World){ρ:Type}(res:ρ->AV T.ty)(r:ρ):Exit->Act->World->Prop:=bodyPost P fn (d3u T F0 w0 (res r))
theorem gQ{r:ρ}{α:Type}{x:Option α}{g:α->Option ρ}{f:FuncId}{as0 az:List (AV T.ty)}{res:α->AV T.ty}{nx:AV T.ty->St T.ty}{vv:α->Value}{s:St T.ty}(hF:FnC T f az x res)(h:evKq T n (rn T n s)=some ⟨f,as0,nx⟩)(hc:cnvL as0 az=az)(hp:a9a az=true)(hv:∀a,valA (res a)=some (vv a))
 (k:∀v,G T Q n F0 w0 X Kz r (g v) (nx (res v))):G T Q n F0 w0 X Kz r (x.bind g) s:=fun hm=>by
 obtain⟨v,hv',hm⟩:=bind_some hm
 exact a7m (e0o h hF hc hp hv' (hv v) (k v hm))
theorem gR{fn:Func}{res:ρ->AV T.ty}{r a:ρ}{s:St T.ty}{x:AV T.ty}(h:evR T fn (rn T n s)=some x)(hc:cnv x (res a)=res a)(hp:c3z (res a)=true):G T (retQ T fn F0 w0 res r) n F0 w0 [] Kz r (some a) s:=fun hm=>by
 cases hm
 exact a7m (e5o h hc hp)
def argE{ty:Nat->Type}:Nat->List (AV ty)->AE ty
 |_,[]=> []
 |k,x::l=>(k,x)::argE (k+1) l
theorem b9c{R:List OE}{F:Frz}:∀{l:List (AV T.ty)}{us:List Value}(k:Nat),ConcL T.rp R F l us->ConcE T.rp R F (argE k l) ((us.zipIdx k).map fun x=>(x.2,x.1))
 | [],us,k,h=>by simp only [ConcL]at h;subst h;rfl
 |x::l,us,k,⟨v,us',h1,h2,h3⟩=>by
  subst h1
  exact⟨v,_,rfl,h2,b9c (k+1) h3⟩
theorem a1i{f:FuncId}{fn:Func}{c:Code}(hf:P.funcs[f]?=some fn)(hb:fn.body=some c)(hn:fn.ntmps=n){az:List (AV T.ty)}(hle:Nat.ble az.length n=true)(he:Ent P f){m:Option ρ}{res:ρ->AV T.ty}
 (h:∀F0 w0 r,G T (retQ T fn F0 w0 res r) n F0 w0 [] Snap.nil r m ⟨.code c,[],argE 0 az,[]⟩):FnC T f az m res:=by
 refine⟨he,fun r hr w F hs hg us hus=> ?_⟩
 refine a1v n hf hb hn (by rw [hus.len];exact hle) ?_
 exact h F w r hr [] F _ w (b9c 0 hus) ⟨rfl,fun i o hi=>by simp at hi⟩ (HS.init hs) ⟨fun j b hb=>(by simp at hb),hg⟩
theorem c2f{f:FuncId}(he:Ent P f){az:List (AV T.ty)}{res:ρ->AV T.ty}:FnC T f az none res:=⟨he,fun r hr=>by cases hr⟩
def cutA{ty:Nat->Type}(e:AE ty):List (Nat×AV ty)->Option (AE ty)
 | []=>some []
 |p::l=>match e.lookup p.1,cutA e l with
  |some x,some r=>some ((p.1,cnv x p.2)::r)
  |_,_=>none
structure Hd(ty:Nat->Type)where
 e:AE ty
 H:List (AO ty)
def Iv(T:Tbl P)(n:Nat)(F0:Frz)(w0:World)(X:List Nat)(Kz:Snap)(h:Hd T.ty)(a:Act)(w:World):Prop:=∃R F m,Has n a m/\ConcE T.rp R F h.e m/\RelH T.rp Kz R F h.H R/\HS F0 w0 X F R w/\LG T X R F
theorem d5p{R:List OE}{F:Frz}{e:AE T.ty}{m:Env}{a:Act}(ha:Has n a m)(hE:ConcE T.rp R F e m):∀{l r:AE T.ty},cutA e l=some r->∃m',Has n a m'/\ConcE T.rp R F r m'
 | [],r,h=>by simp only [cutA,Option.some.injEq]at h;subst h;exact⟨[],⟨ha.size,ha.defers,fun k v hk=>by simp at hk⟩,rfl⟩
 |p::l,r,h=>by
  simp only [cutA]at h
  split at h
  ·rename_i x r' hx hl
   cases h
   obtain⟨m',h1,h2⟩:=d5p ha hE hl
   obtain⟨v,h3,h4⟩:=hE.get hx
   refine⟨(p.1,v)::m',⟨ha.size,ha.defers,fun k u hk=> ?_⟩,v,m',rfl,h4.cnv p.2,h2⟩
   rw [List.lookup_cons]at hk
   split at hk
   ·rename_i e1;have e1:k=p.1:=by simpa using e1
    subst e1;cases hk;exact ha.get _ _ h3
   ·exact h1.get _ _ hk
  ·cases h
mutual
def bndV{ty:Nat->Type}(h:Nat):AV ty->Bool
 | .agg l=>bndL h l
 | .tup l=>bndL h l
 | .bx i _=>Nat.blt i h
 | .row i=>Nat.blt i h
 | .rel i _ _ _ _=>Nat.blt i h
 | .clo _ l=>bndL h l
 | .fb l _=>bndL h l
 | .sb i _ _=>Nat.blt i h
 | .rw i _ _=>Nat.blt i h
 |_=>true
def bndL{ty:Nat->Type}(h:Nat):List (AV ty)->Bool
 | []=>true
 |x::l=>match bndV h x with
  |true=>bndL h l
  |false=>false
 end
def bndE{ty:Nat->Type}(h:Nat):AE ty->Bool
 | []=>true
 |p::l=>match bndV h p.2 with
  |true=>bndE h l
  |false=>false
def bndH{ty:Nat->Type}(h:Nat):List (AO ty)->Bool
 | []=>true
 | .box _ cs::l=>match bndL h cs with
   |true=>bndH h l
   |false=>false
 | .kbox _ _ cs::l=>match bndL h cs with
   |true=>bndH h l
   |false=>false
 |_::l=>bndH h l
def d8o{ty:Nat->Type}(h:Nat)(e:AE ty)(H:List (AO ty)):Option (List (AO ty)):=match Nat.beq H.length h with
 |true=>some H
 |false=>match c7k h H,bndE h e with
  |some H',true=>match bndH h H' with
   |true=>some H'
   |false=>none
  |_,_=>none
section
variable{rp:∀c,Rp (T.ty c)}{R:List OE}{F:Frz}{h:Nat}
theorem b4b{i:Nat}{e:OE}(hi:R[i]?=some e)(h1:Nat.blt i h=true):(R.take h)[i]?=some e:=by
 rw [List.getElem?_take,if_pos (by simpa using h1)];exact hi
mutual
theorem Conc.take:∀{x:AV T.ty}{v:Value},bndV h x=true->Conc T.rp R F x v->Conc T.rp (R.take h) F x v
 | .int k x,v,_,h=>h
 | .bool b,v,_,h=>h
 | .ob b,v,_,h=>h
 | .lb c b,v,_,h=>h
 | .str l,v,_,h=>h
 | .val u,v,_,h=>h
 | .agg l,v,p,⟨cs,h1,h2⟩=>⟨cs,h1,ConcL.tk p h2⟩
 | .tup l,v,p,⟨cs,h1,h2⟩=>⟨cs,h1,ConcL.tk p h2⟩
 | .sl c xs,v,_,h=>h
 | .bx j o,v,p,⟨b,t,cs,h1,h2⟩=>⟨b,t,cs,b4b h1 p,h2⟩
 | .el c x o,v,_,h=>h
 | .row j,v,p,⟨e,q,a,m,n,xs,h1,h2⟩=>⟨e,q,a,m,n,xs,b4b h1 p,h2⟩
 | .rel j c x i o,v,p,⟨e,b,m,n,us,cs,h1,h2⟩=>⟨e,b,m,n,us,cs,b4b h1 p,h2⟩
 | .any,v,_,_=>trivial
 | .clo f l,v,p,⟨cs,h1,h2⟩=>⟨cs,h1,ConcL.tk p h2⟩
 | .fb l o,v,p,⟨b,cs,h1,h2,h3⟩=>⟨b,cs,h1,h2,ConcL.tk p h3⟩
 | .sb j c k,v,p,⟨b,t,cs,h1,h2⟩=>⟨b,t,cs,b4b h1 p,h2⟩
 | .rw j lo hi,v,p,⟨e,q,b,m,n,xs,h1,h2⟩=>⟨e,q,b,m,n,xs,b4b h1 p,h2⟩
theorem ConcL.tk:∀{l:List (AV T.ty)}{cs:List Value},bndL h l=true->ConcL T.rp R F l cs->ConcL T.rp (R.take h) F l cs
 | [],_,_,h=>h
 |x::l,_,p,⟨v,k,h1,h2,h3⟩=>by
  unfold bndL at p
  split at p
  ·rename_i hx;exact⟨v,k,h1,Conc.take hx h2,ConcL.tk p h3⟩
  ·cases p
 end
theorem ConcE.take:∀{l:AE T.ty}{m:Env},bndE h l=true->ConcE T.rp R F l m->ConcE T.rp (R.take h) F l m
 | [],_,_,h=>h
 |x::l,_,p,⟨v,k,h1,h2,h3⟩=>by
  unfold bndE at p
  split at p
  ·rename_i hx;exact⟨v,k,h1,Conc.take hx h2,ConcE.take p h3⟩
  ·cases p
theorem bndH_ok:∀{H:List (AO T.ty)},bndH h H=true->∀{i:Nat}{t:TypeId}{cs:List (AV T.ty)},H[i]?=some (.box t cs)->bndL h cs=true
 | [],_,_,_,_,hi=>by simp at hi
 | .box _ ds::l,p,i,t,cs,hi=>by
  unfold bndH at p
  split at p
  ·rename_i hx
   cases i with
   |zero=>simp at hi;obtain⟨rfl,rfl⟩:=hi;exact hx
   |succ i=>exact bndH_ok p (by simpa using hi)
  ·cases p
 | .row _ _ _ _::l,p,i,t,cs,hi=>by
  cases i with
  |zero=>simp at hi
  |succ i=>exact bndH_ok (H:=l) (by simpa [bndH]using p) (by simpa using hi)
 | .gone::l,p,i,t,cs,hi=>by
  cases i with
  |zero=>simp at hi
  |succ i=>exact bndH_ok (H:=l) (by simpa [bndH]using p) (by simpa using hi)
 | .krow _ _ _ _ _::l,p,i,t,cs,hi=>by
  cases i with
  |zero=>simp at hi
  |succ i=>exact bndH_ok (H:=l) (by simpa [bndH]using p) (by simpa using hi)
 | .mark::l,p,i,t,cs,hi=>by
  cases i with
  |zero=>simp at hi
  |succ i=>exact bndH_ok (H:=l) (by simpa [bndH]using p) (by simpa using hi)
 | .kbox _ _ ds::l,p,i,t,cs,hi=>by
  unfold bndH at p
  split at p
  ·cases i with
   |zero=>simp at hi
   |succ i=>exact bndH_ok p (by simpa using hi)
  ·cases p
theorem bndK_ok:∀{H:List (AO T.ty)},bndH h H=true->∀{i j:Nat}{t:TypeId}{cs:List (AV T.ty)},H[i]?=some (.kbox j t cs)->bndL h cs=true
 | [],_,_,_,_,_,hi=>by simp at hi
 | .kbox _ _ ds::l,p,i,j,t,cs,hi=>by
  unfold bndH at p
  split at p
  ·rename_i hx
   cases i with
   |zero=>simp at hi;obtain⟨rfl,rfl,rfl⟩:=hi;exact hx
   |succ i=>exact bndK_ok p (by simpa using hi)
  ·cases p
 | .box _ ds::l,p,i,j,t,cs,hi=>by
  unfold bndH at p
  split at p
  ·cases i with
   |zero=>simp at hi
   |succ i=>exact bndK_ok p (by simpa using hi)
  ·cases p
 | .row _ _ _ _::l,p,i,j,t,cs,hi=>by
  cases i with
  |zero=>simp at hi
  |succ i=>exact bndK_ok (H:=l) (by simpa [bndH]using p) (by simpa using hi)
 | .krow _ _ _ _ _::l,p,i,j,t,cs,hi=>by
  cases i with
  |zero=>simp at hi
  |succ i=>exact bndK_ok (H:=l) (by simpa [bndH]using p) (by simpa using hi)
 | .gone::l,p,i,j,t,cs,hi=>by
  cases i with
  |zero=>simp at hi
  |succ i=>exact bndK_ok (H:=l) (by simpa [bndH]using p) (by simpa using hi)
 | .mark::l,p,i,j,t,cs,hi=>by
  cases i with
  |zero=>simp at hi
  |succ i=>exact bndK_ok (H:=l) (by simpa [bndH]using p) (by simpa using hi)
end
theorem d1v{R:List OE}{F:Frz}{w:World}{h:Nat}{e:AE T.ty}{m:Env}{H H':List (AO T.ty)}(hk:d8o h e H=some H')(h1:ConcE T.rp R F e m)(h2:RelH T.rp Kz R F H R)(h3:HS F0 w0 X F R w)(hX:LG T X R F)(hx:X.length<=h):
 ∃R',ConcE T.rp R' F e m/\RelH T.rp Kz R' F H' R'/\HS F0 w0 X F R' w/\LG T X R' F:=by
 unfold d8o at hk
 split at hk
 ·cases hk;exact⟨R,h1,h2,h3,hX⟩
 ·rename_i hne
  split at hk
  ·rename_i H2 ht hb
   split at hk
   ·rename_i hb2
    cases hk
    obtain⟨t1,t2⟩:=b5y ht
    refine⟨R.take h,h1.take hb,⟨?_,fun i o hi=> ?_⟩,h3.sub (List.take_sublist _ _),fun j b hb=> ?_,hX.2⟩
    ·rw [<-t1,List.length_take,List.length_take,h2.1]
    ·have hi':=hi
     rw [<-t1,List.getElem?_take]at hi
     split at hi
     ·rename_i hlt
      obtain⟨en,g1,g2⟩:=h2.2 i o hi
      refine⟨en,b4b g1 (by simpa using hlt),?_⟩
      cases o with
      |box t cs=>
       obtain⟨b,us,g3,g4⟩:=g2
       exact⟨b,us,g3,ConcL.tk (bndH_ok hb2 hi') g4⟩
      |row el q c xs=>exact g2
      |gone=>trivial
      |kbox j t cs=>
       obtain⟨g0,b,us,g3,g4⟩:=g2
       exact⟨g0,b,us,g3,ConcL.tk (bndK_ok hb2 hi') g4⟩
      |krow j el q c xs=>exact g2
      |mark=>exact g2
     ·cases hi
    ·obtain⟨t,cs,g1⟩:=hX.1 j b hb
     have hj:=(List.getElem?_eq_some_iff.1 hb).1
     exact⟨t,cs,b4b g1 (by simp;omega)⟩
   ·cases hk
  ·cases hk
def cnvH{ty:Nat->Type}:List (AO ty)->List (AO ty)->List (AO ty)
 |o::l,o'::l'=>(match o,o' with
  | .box t cs,.box _ cs'=> .box t (cnvL cs cs')
  |o,_=>o)::cnvH l l'
 |l,_=>l
theorem d7k{F:Frz}{R:List OE}:∀{H H2:List (AO T.ty)}{S:List OE},RelH T.rp Kz R F H S->RelH T.rp Kz R F (cnvH H H2) S
 | [],_,_,h=>by unfold cnvH;exact h
 |o::l,[],_,h=>by unfold cnvH;exact h
 |o::l,o'::l',[],h=>by have:=h.1;simp at this
 |o::l,o'::l',e::S,h=>by
  have ht:RelH T.rp Kz R F l S:=⟨by have:=h.1;simpa using this,fun i o ho=>by
   obtain⟨e2,g1,g2⟩:=h.2 (i+1) o (by simpa using ho)
   exact⟨e2,by simpa using g1,g2⟩⟩
  have ih:=d7k (H2:=l') ht
  obtain⟨e2,g1,g2⟩:=h.2 0 o rfl
  simp only [List.getElem?_cons_zero,Option.some.injEq]at g1
  subst g1
  unfold cnvH
  refine⟨by have:=ih.1;simpa using this,fun i x hx=> ?_⟩
  cases i with
  |zero=>
   simp only [List.getElem?_cons_zero,Option.some.injEq]at hx
   refine⟨e,rfl,?_⟩
   subst hx
   split
   ·obtain⟨b,us,k1,k2⟩:=g2
    exact⟨b,us,k1,k2.cnv _⟩
   ·exact g2
  |succ i=>
   obtain⟨e3,k1,k2⟩:=ih.2 i x (by simpa using hx)
   exact⟨e3,by simpa using k1,k2⟩
def atHd(T:Tbl P)(X:List Nat)(h:Hd T.ty)(e:AE T.ty)(H:List (AO T.ty)):Option (Hd T.ty):=match cutA e h.e with
 |some e'=>match d8o h.H.length e' H,Nat.ble X.length h.H.length with
  |some H',true=>some ⟨e',cnvH H' h.H⟩
  |_,_=>none
 |none=>none
theorem d0n{R:List OE}{F:Frz}{w:World}{h h':Hd T.ty}{e:AE T.ty}{m:Env}{H:List (AO T.ty)}{a:Act}(hk:atHd T X h e H=some h')(ha:Has n a m)(h1:ConcE T.rp R F e m)(h2:RelH T.rp Kz R F H R)(h3:HS F0 w0 X F R w)(hX:LG T X R F):Iv T n F0 w0 X Kz h' a w:=by
 unfold atHd at hk
 split at hk
 ·rename_i e' hc
  obtain⟨m',g1,g2⟩:=d5p ha h1 hc
  split at hk
  ·rename_i H' ht hx
   cases hk
   obtain⟨R',k1,k2,k3,k4⟩:=d1v ht g2 h2 h3 hX (Nat.le_of_ble_eq_true hx)
   exact⟨R',F,m',g1,k1,d7k k2,k3,k4⟩
  ·cases hk
 ·cases hk
def evL(s:St T.ty):Option (Code×List It×AE T.ty×List (AO T.ty)):=match s with
 |⟨.code (.loop c),k,e,H⟩=>some (c,k,e,H)
 |_=>none
def Back{P:Program}(T:Tbl P)(n:Nat)(F0:Frz)(w0:World)(X:List Nat)(Kz:Snap){σ ρ:Type}(L:σ->Option ρ)(I:σ->Hd T.ty)(r:ρ)(K:Act->World->Prop):Prop:=∀s a w,L s=some r->Iv T n F0 w0 X Kz (I s) a w->K a w
def evE(s:St T.ty):Option ((Act->World->Prop)×List It×AE T.ty×List (AO T.ty)):=match s with
 |⟨.out .normal,.sem K::k,e,H⟩=>some (K,k,e,H)
 |_=>none
theorem gE{σ:Type}{r:ρ}{L:σ->Option ρ}{I:σ->Hd T.ty}{K:Act->World->Prop}(hK:Back T n F0 w0 X Kz L I r K)(x:σ){s:St T.ty}{its:List It}{e:AE T.ty}{H:List (AO T.ty)}(hr:evE (rn T n s)=some (K,its,e,H))
 (hI:atHd T X (I x) e H=some (I x)):G T Q n F0 w0 X Kz r (L x) s:=fun hm=>by
 refine a7m ?_
 revert hr
 generalize rn T n s=s'
 intro hr
 unfold evE at hr
 split at hr
 ·cases hr
  intro R F mm w h1 h2 h3 hX a ha
  exact hK x a w hm (d0n hI ha h1 h2 h3 hX)
 ·cases hr
end
end Go.Proofs.YthaegflpecbfgaaGreatDoor.Rt
namespace Go.Proofs.YthaegflpecbfgaaGreatDoor.Rt
open Go Go.RowKit
set_option linter.unusedVariables false
set_option linter.unusedSimpArgs false
section
variable{P:Program}(T:Tbl P)
def c9x{ty:Nat->Type}(c c':Nat)(xs:List (ty c)):Option (List (ty c')):=match Nat.decEq c c' with
 | .isTrue h=>some (h▸xs)
 | .isFalse _=>none
def appY(c:Nat)(H:List (AO T.ty))(el q:Nat):AV T.ty->Option (List (T.ty c))
 | .sl c' ys=>c9x c' c ys
 | .row j=>match H[j]? with
   |some (.row el' q' c' (y::ys))=>match Nat.beq el' el,Nat.beq q' q with
    |true,true=>c9x c' c (y::ys)
    |_,_=>none
   |_=>none
 | .val (.slice none 0 0)=>some []
 |_=>none
def appX(t:TypeId)(H:List (AO T.ty))(el q:Nat):AV T.ty->Option ((Nat×List (AO T.ty))×(c:Nat)×List (T.ty c))
 | .row i=>match H[i]? with
   |some (.row el' q' c xs)=>match Nat.beq el' el,Nat.beq q' q with
    |true,true=>some ((i,H),⟨c,xs⟩)
    |_,_=>none
   |_=>none
 | .val (.slice none 0 0)=>some ((H.length,snoc (.row el q (T.cod t) []) H),⟨T.cod t,[]⟩)
 |_=>none
def evP(n:Nat)(s:St T.ty):Option (EV T.ty):=match s with
 |⟨.ops all (o::l),k,e,H⟩=>match a9g all e o.guard,o.dst,o.op with
  |true,some d,.call ⟨.builtin .append,args,ts⟩=>match args.toList,ts.toList with
   | [x,y],[t,t']=>match Nat.beq t t',T.app t,opA e x,opA e y,Nat.blt d n with
     |true,some (el,q,by'),some vx,some vy,true=>match appX T t H el q vx with
      |some ((i,H1),⟨c,xs⟩)=>match Nat.beq q (T.rp c).k,appY T c H1 el q vy with
       |true,some ys=>some ⟨List (T.ty c),Rt.app by' xs ys,fun v=>⟨.ops all l,k,(d,.row i)::subE i .any e,(subH i .any H1).set i (.row el q c v)⟩⟩
       |_,_=>none
      |none=>none
     |_,_,_,_,_=>none
   |_,_=>none
  |_,_,_=>none
 |_=>none
end
section
variable{P:Program}{T:Tbl P}{Q:Exit->Act->World->Prop}{n:Nat}{F0:Frz}{w0:World}{X:List Nat}{Kz:Snap}{ρ:Type}
theorem b8d{ty:Nat->Type}{c c':Nat}{xs:List (ty c)}{ys:List (ty c')}(h:c9x c c' xs=some ys):∃e:c=c',ys=e▸xs:=by
 unfold c9x at h
 split at h
 ·rename_i e _;cases h;exact⟨e,rfl⟩
 ·cases h
theorem e0u{t el q i c:Nat}{H H1:List (AO T.ty)}{vx:AV T.ty}{xs:List (T.ty c)}(h:appX T t H el q vx=some ((i,H1),⟨c,xs⟩)){R:List OE}{F:Frz}{u:Value}{w:World}(hu:Conc T.rp R F vx u)(hH:RelH T.rp Kz R F H R)(hS:HS F0 w0 X F R w):
 ∃R1 a m k us,Keep R F R1 F/\u= .slice a m k/\R1[i]?=some (.row el q a m k us)/\RowN (T.rp c) F m us xs/\RelH T.rp Kz R1 F H1 R1/\HS F0 w0 X F R1 w:=by
 unfold appX at h
 split at h
 ·split at h
  ·rename_i j el' q' c' xs' hi
   split at h
   ·rename_i e1 e2
    obtain rfl:=Nat.eq_of_beq_eq_true e1
    obtain rfl:=Nat.eq_of_beq_eq_true e2
    cases h
    obtain⟨e,q2,a,m,k,us,g1,g2⟩:=hu
    obtain⟨en,g3,a2,m2,k2,us2,rfl,g4⟩:=hH.2 _ _ hi
    rw [g1]at g3;cases g3
    exact⟨R,a,m,k,us,Keep.refl,g2,g1,g4,hH,hS⟩
   ·cases h
  ·cases h
 ·cases h
  simp only [Conc]at hu
  have hk:Keep R F (R++ [.row el q none 0 0 []]) F:=Keep.more (Frz.refl F)
  refine⟨R++ [.row el q none 0 0 []],none,0,0,[],hk,hu,?_,⟨rfl,rfl⟩,?_,(hS.nilRow el q).addEnd⟩
  ·rw [hH.1];simp
  ·rw [b4g]
   exact(hH.mono hk).add ⟨none,0,0,[],rfl,rfl,rfl⟩
 ·cases h
theorem e3n{s:St T.ty}{q:EV T.ty}(h:evP T n s=some q)(v:q.α)(hv:q.x=some v)(k:Sm T Q n F0 w0 X Kz (q.nx v)):Sm T Q n F0 w0 X Kz s:=by
 unfold evP at h
 split at h
 ·rename_i all o l its e H
  split at h
  ·rename_i d args ts hg hd ho
   split at h
   ·rename_i x y t t' hargs hts
    split at h
    ·rename_i el qq by' vx vy ht ha hx hy hn
     obtain rfl:=Nat.eq_of_beq_eq_true ht
     split at h
     ·rename_i i H1 c xs hX1
      split at h
      ·rename_i ys hqk hY
       have hqk:=Nat.eq_of_beq_eq_true hqk
       cases h
       dsimp only at hv k
       intro R F m w h1 h2 h3 hX
       obtain⟨ux,u1,u2⟩:=a1b h1 hx
       obtain⟨uy,y1,y2⟩:=a1b h1 hy
       obtain⟨R1,a,mm,kk,us,hk,rfl,g1,g2,g3,g4⟩:=e0u hX1 u2 h2 h3
       obtain⟨dst,op,type,pos,after,guard⟩:=o
       dsimp only at hg hd ho
       subst hd;subst ho
       obtain⟨args⟩:=args
       obtain⟨ts⟩:=ts
       dsimp only at hargs hts
       subst hargs;subst hts
       have hA:=T.appOk ha
       have y2':=y2.mono hk
       have fin:∀a' c' w' us',HS F0 w0 X F (R1.set i (.row el qq a' (mm+ys.length) c' us')) w'->RowN (T.rp c) F (mm+ys.length) us' v->RW P all (kq P Kz Q its) l n ((d,.slice a' (mm+ys.length) c')::m) w':=by
        intro a' c' w' us' hS' hR'
        obtain⟨hlt,_⟩:=List.getElem?_eq_some_iff.1 g1
        have hT:Turn T.rp i .any R1 F (R1.set i (.row el qq a' (mm+ys.length) c' us')) F:=by
         refine⟨Frz.refl F,fun j b t cs hj=>⟨cs,?_⟩,fun j e' q' a'' m' n' xs' hji hj=> ?_,fun _ _=>trivial⟩
         ·rw [List.getElem?_set,if_neg (fun e=>by subst e;rw [g1]at hj;cases hj)];exact hj
         ·rw [List.getElem?_set,if_neg (fun e=>hji e.symm)];exact hj
        refine k _ F ((d,.slice a' (mm+ys.length) c')::m) w' (((h1.mono hk).sub hT).put ⟨el,qq,a',_,c',us',?_,rfl⟩) ?_ hS' ⟨fun j b hb=> ?_,hX.2⟩
        ·rw [List.getElem?_set,if_pos rfl,if_pos hlt]
        ·exact(g3.sub hT).set i ⟨a',_,c',us',rfl,hR'⟩
        ·obtain⟨t,cs,hj⟩:=hX.1 j b hb
         obtain⟨cs',hj⟩:=hk.box j b t cs hj
         obtain⟨cs2,h9⟩:=hT.box j b t cs' hj
         exact⟨t,cs2,h9⟩
       unfold appY at hY
       split at hY
       ·obtain⟨rfl,rfl⟩:=b8d hY
        obtain⟨a2,m2,n2,rfl,z2⟩:=y2'
        have:=z2.len
        subst this
        exact b8g hA hqk (a3d h1 hg) hn g4 u1 y1 g1 g2 z2 hv fun a' c' w' xs' hS' hR'=>fin a' c' w' xs' hS' hR'
       ·split at hY
        ·rename_i j el' q' c' y0 ys' hj
         split at hY
         ·rename_i e1 e2
          obtain rfl:=Nat.eq_of_beq_eq_true e1
          obtain rfl:=Nat.eq_of_beq_eq_true e2
          obtain⟨rfl,rfl⟩:=b8d hY
          obtain⟨e',q2,a2,m2,n2,us2,z1,rfl⟩:=y2'
          obtain⟨en,z3,a3,m3,n3,us3,rfl,z4⟩:=g3.2 _ _ hj
          rw [z1]at z3;cases z3
          obtain⟨b2,rfl⟩:=g4.rows _ _ _ _ _ _ _ z1 (by rw [<-z4.len];simp)
          have:=z4.len
          subst this
          exact a6q hA (a3d h1 hg) hn g4 u1 y1 g1 z1 g2 z4 hv fun a' c' w' hS' hR'=>fin a' c' w' _ hS' hR'
         ·cases hY
        ·cases hY
       ·cases hY
        simp only [Conc]at y2'
        subst y2'
        exact b8g (l2:= []) hA hqk (a3d h1 hg) hn g4 u1 y1 g1 g2 (SlR.nil _ _) hv fun a' c' w' xs' hS' hR'=>fin a' c' w' xs' hS' hR'
       ·cases hY
      ·cases h
     ·cases h
    ·cases h
   ·cases h
  ·cases h
 ·cases h
theorem gP{r:ρ}{α:Type}{x:Option α}{f:α->Option ρ}{nx:α->St T.ty}{s:St T.ty}(h:evP T n (rn T n s)=some ⟨α,x,nx⟩)(k:∀v,G T Q n F0 w0 X Kz r (f v) (nx v)):G T Q n F0 w0 X Kz r (x.bind f) s:=fun hm=>by
 obtain⟨v,hv,hm⟩:=bind_some hm
 exact a7m (e3n h v hv (k v hm))
inductive LI(ty:Nat->Type)where
 |v (k:Nat) (x:AV ty)
 |r (k c:Nat) (xs:List (ty c))
 |b (k:Nat) (cs:List (AV ty))
 |d (ks:List Nat)
 |bs (k j:Nat) (x:AV ty)
 |br (k j c:Nat) (xs:List (ty c))
def dele{ty:Nat->Type}(ks:List Nat):AE ty->AE ty
 | []=> []
 |p::l=>match ks.any (Nat.beq p.1)with
  |true=>dele ks l
  |false=>p::dele ks l
def updE{ty:Nat->Type}(k:Nat)(x:AV ty):AE ty->AE ty
 | []=> [(k,x)]
 |p::l=>match k==p.1 with
  |true=>(k,x)::l
  |false=>p::updE k x l
def ded{ty:Nat->Type}(seen:List Nat):AE ty->AE ty
 | []=> []
 |p::l=>match seen.any (Nat.beq p.1)with
  |true=>ded seen l
  |false=>p::ded (p.1::seen) l
def c9s{α β:Type}:List α->(List α->Option β)->Option β
 | [],k=>k []
 |x::l,k=>c9s l fun r=>k (x::r)
theorem c6b{α β:Type}:∀(l:List α)(k:List α->Option β),c9s l k=k l
 | [],_=>rfl
 |x::l,k=>by rw [c9s,c6b l]
mutual
def refA{ty:Nat->Type}(i:Nat):AV ty->Bool
 | .row j=>Nat.beq j i
 | .rel j _ _ _ _=>Nat.beq j i
 | .agg l=>refL i l
 | .tup l=>refL i l
 |_=>false
def refL{ty:Nat->Type}(i:Nat):List (AV ty)->Bool
 | []=>false
 |x::l=>match refA i x with
  |true=>true
  |false=>refL i l
 end
def d6l{ty:Nat->Type}(i k:Nat):AE ty->AE ty
 | []=> []
 |p::l=>match Nat.beq p.1 k with
  |true=>p::d6l i k l
  |false=>match refA i p.2 with
   |true=>d6l i k l
   |false=>p::d6l i k l
def hdOf(T:Tbl P):AE T.ty->List (AO T.ty)->List (LI T.ty)->Option (Hd T.ty)
 |e,H,[]=>c9s (ded [] e) fun e=>c9s H fun H=>some ⟨e,H⟩
 |e,H,.v k x::l=>hdOf T (updE k x e) H l
 |e,H,.d ks::l=>hdOf T (dele ks e) H l
 |e,H,.r k c xs::l=>match e.lookup k with
  |some (.row i)=>match H[i]? with
   |some (.row el q _ _)=>match putA i (.row el q c xs) H with
    |some H'=>hdOf T (d6l i k e) H' l
    |none=>none
   |_=>none
  |_=>none
 |e,H,.b k cs::l=>match e.lookup k with
  |some (.bx i 0)=>match H[i]? with
   |some (.box t _)=>match putA i (.box t cs) H with
    |some H'=>hdOf T e H' l
    |none=>none
   |_=>none
  |_=>none
 |e,H,.bs k j x::l=>match e.lookup k with
  |some (.bx i _)=>match H[i]? with
   |some (.box t cs)=>match putA j x cs with
    |some cs'=>match putA i (.box t cs') H with
     |some H'=>hdOf T e H' l
     |none=>none
    |none=>none
   |_=>none
  |_=>none
 |e,H,.br k j c xs::l=>match e.lookup k with
  |some (.bx i _)=>match H[i]? with
   |some (.box _ cs)=>match cs[j]? with
    |some (.row i2)=>match H[i2]? with
     |some (.row el q _ _)=>match putA i2 (.row el q c xs) H with
      |some H'=>hdOf T (d6l i2 1000000 e) H' l
      |none=>none
     |_=>none
    |_=>none
   |_=>none
  |_=>none
def nilE(T:Tbl P):List (LI T.ty)->AE T.ty->List (AO T.ty)->Option (AE T.ty×List (AO T.ty))
 | [],e,H=>c9s e fun e=>c9s H fun H=>some (e,H)
 | .r k c _::l,e,H=>match e.lookup k with
   |some (.val (.slice none 0 0))=>nilE T l (updE k (.row H.length) e) (snoc (.row (T.elt c) (T.rp c).k c []) H)
   |_=>nilE T l e H
 | .br k j c _::l,e,H=>match e.lookup k with
   |some (.bx i _)=>match H[i]? with
    |some (.box t cs)=>match cs[j]? with
     |some (.val (.slice none 0 0))=>match putA j (.row H.length) cs with
      |some cs'=>match putA i (.box t cs') H with
       |some H'=>nilE T l e (snoc (.row (T.elt c) (T.rp c).k c []) H')
       |none=>nilE T l e H
      |none=>nilE T l e H
     |_=>nilE T l e H
    |_=>nilE T l e H
   |_=>nilE T l e H
 |_::l,e,H=>nilE T l e H
theorem ConcL.set1{R:List OE}{F:Frz}{x:AV T.ty}:∀{l:List (AV T.ty)}{us:List Value}(j:Nat),ConcL T.rp R F l us->(∀v,us[j]?=some v->Conc T.rp R F x v)->ConcL T.rp R F (l.set j x) us
 | [],_,_,h,_=>h
 |y::l,_,0,⟨v,k,h1,h2,h3⟩,hx=>⟨v,k,h1,hx v (by rw [h1];rfl),h3⟩
 |y::l,_,j+1,⟨v,k,h1,h2,h3⟩,hx=>⟨v,k,h1,h2,ConcL.set1 j h3 (fun u hu=>hx u (by rw [h1];exact hu))⟩
theorem ConcE.upd{R:List OE}{F:Frz}{k:Nat}{x0 x:AV T.ty}(hx:∀v,Conc T.rp R F x0 v->Conc T.rp R F x v):∀{e:AE T.ty}{m:Env},ConcE T.rp R F e m->e.lookup k=some x0->ConcE T.rp R F (updE k x e) m
 | [],_,_,h=>by simp at h
 |p::l,_,⟨v,r,h1,h2,h3⟩,h=>by
  rw [List.lookup_cons]at h
  unfold updE
  cases hb:(k==p.1)with
  |true=>
   rw [hb]at h;cases h
   have:k=p.1:=by simpa using hb
   exact⟨v,r,by rw [h1,this],hx v h2,h3⟩
  |false=>rw [hb]at h;exact⟨v,r,h1,h2,ConcE.upd hx h3 h⟩
theorem b0b{F:Frz}{w:World}{m:Env}:∀{l:List (LI T.ty)}{R:List OE}{e e1:AE T.ty}{H H1:List (AO T.ty)},nilE T l e H=some (e1,H1)->ConcE T.rp R F e m->RelH T.rp Kz R F H R->HS F0 w0 X F R w->LG T X R F->
 ∃R',ConcE T.rp R' F e1 m/\RelH T.rp Kz R' F H1 R'/\HS F0 w0 X F R' w/\LG T X R' F
 | [],R,e,e1,H,H1,h,h1,h2,h3,hX=>by
  unfold nilE at h
  rw [c6b,c6b]at h
  cases h
  exact⟨R,h1,h2,h3,hX⟩
 | .r k c xs::l,R,e,e1,H,H1,h,h1,h2,h3,hX=>by
  unfold nilE at h
  split at h
  ·rename_i hl
   have hk:Keep R F (R++ [.row (T.elt c) (T.rp c).k none 0 0 []]) F:=Keep.more (Frz.refl F)
   refine b0b h (ConcE.upd (fun v hv=> ?_) (h1.mono hk) hl) ?_ (h3.nilRow _ _).addEnd (hX.keep hk)
   ·simp only [Conc]at hv
    exact⟨T.elt c,(T.rp c).k,none,0,0,[],by rw [h2.1];simp,hv⟩
   ·rw [b4g]
    exact(h2.mono hk).add ⟨none,0,0,[],rfl,rfl,rfl⟩
  ·exact b0b h h1 h2 h3 hX
 | .br k j c xs::l,R,e,e1,H,H1,h,h1,h2,h3,hX=>by
  unfold nilE at h
  split at h
  ·rename_i i o hl
   split at h
   ·rename_i t cs hi
    split at h
    ·rename_i hj
     split at h
     ·rename_i cs' hp1
      split at h
      ·rename_i H' hp2
       have hk:Keep R F (R++ [.row (T.elt c) (T.rp c).k none 0 0 []]) F:=Keep.more (Frz.refl F)
       refine b0b h (h1.mono hk) ?_ (h3.nilRow _ _).addEnd (hX.keep hk)
       rw [b4g]
       have g0:RelH T.rp Kz (R++ [.row (T.elt c) (T.rp c).k none 0 0 []]) F (H++ [.row (T.elt c) (T.rp c).k c []]) (R++ [.row (T.elt c) (T.rp c).k none 0 0 []]):=(h2.mono hk).add ⟨none,0,0,[],rfl,rfl,rfl⟩
       obtain⟨en,g1,b,us,rfl,g2⟩:=h2.2 i _ hi
       have hlt:=(List.getElem?_eq_some_iff.1 g1).1
       have hlt2:i<H.length:=(List.getElem?_eq_some_iff.1 hi).1
       have g3:RelO T.rp Kz (R++ [.row (T.elt c) (T.rp c).k none 0 0 []]) F (.box t cs') (.box b t us):=by
        refine⟨b,us,rfl,?_⟩
        rw [b7d hp1]
        refine ConcL.set1 j (g2.mono hk) (fun v hv=> ?_)
        obtain⟨v2,k1,k2⟩:=g2.get hj
        rw [hv]at k1;cases k1
        simp only [Conc]at k2
        exact⟨T.elt c,(T.rp c).k,none,0,0,[],by rw [h2.1];simp,k2⟩
       have g4:=g0.set i g3
       rw [b7d hp2]
       have e1:(H++ [AO.row (T.elt c) (T.rp c).k c []]).set i (.box t cs')=H.set i (.box t cs')++ [AO.row (T.elt c) (T.rp c).k c []]:=by rw [List.set_append_left _ _ hlt2]
       have e2:(R++ [OE.row (T.elt c) (T.rp c).k none 0 0 []]).set i (.box b t us)=R++ [OE.row (T.elt c) (T.rp c).k none 0 0 []]:=by
        rw [List.set_append_left _ _ hlt]
        congr 1
        obtain⟨_,g5⟩:=List.getElem?_eq_some_iff.1 g1
        rw [<-g5];exact List.set_getElem_self hlt
       rw [e1,e2]at g4
       exact g4
      ·exact b0b h h1 h2 h3 hX
     ·exact b0b h h1 h2 h3 hX
    ·exact b0b h h1 h2 h3 hX
   ·exact b0b h h1 h2 h3 hX
  ·exact b0b h h1 h2 h3 hX
 | .bs k j x::l,R,e,e1,H,H1,h,h1,h2,h3,hX=>b0b (l:=l) h h1 h2 h3 hX
 | .v k x::l,R,e,e1,H,H1,h,h1,h2,h3,hX=>b0b (l:=l) h h1 h2 h3 hX
 | .b k x::l,R,e,e1,H,H1,h,h1,h2,h3,hX=>b0b (l:=l) h h1 h2 h3 hX
 | .d x::l,R,e,e1,H,H1,h,h1,h2,h3,hX=>b0b (l:=l) h h1 h2 h3 hX
theorem a3c{σ:Type}{r:ρ}(L:Nat->σ->Option ρ)(δ:σ->List (LI T.ty))(h0:∀s,L 0 s=none){s:St T.ty}{c:Code}{its:List It}{e e1:AE T.ty}{H H1:List (AO T.ty)}{I:σ->Hd T.ty}{m:Nat}(x:σ)(hr:evL (rn T n s)=some (c,its,e,H))
 (hN:nilE T (δ x) e H=some (e1,H1)) (hI:∀s,hdOf T e1 H1 (δ s)=some (I s)) (hA:atHd T X (I x) e1 H1=some (I x))
 (hs:∀(K:Act->World->Prop)m,Back T n F0 w0 X Kz (L m) I r K->∀s,G T Q n F0 w0 X Kz r (L (m+1) s) ⟨.code c,.sem K::its,(I s).e,(I s).H⟩):G T Q n F0 w0 X Kz r (L m x) s:=fun hm=>by
 refine a7m ?_
 revert hr
 generalize rn T n s=s'
 intro hr
 unfold evL at hr
 split at hr
 ·cases hr
  intro R F mm w h1 h2 h3 hX a ha
  obtain⟨R',g1,g2,g3,g4⟩:=b0b hN h1 h2 h3 hX
  refine loopR L r (fun s a w=>Iv T n F0 w0 X Kz (I s) a w) h0 (fun m K hK s a w hL⟨R,F,m2,g1,g2,g3,g4,g5⟩=> ?_) hm (d0n hA ha g1 g2 g3 g4)
  exact hs K m hK s hL R F m2 w g2 g3 g4 g5 a g1
 ·cases hr
def evJ(s:St T.ty):Option (Nat×Array Oper×List Oper×List It×AE T.ty×List (AO T.ty)):=match s with
 |⟨.ops all (o::l),k,e,H⟩=>match o.guard with
  |some (j,_)=>match(all[j]?).bind (·.dst)with
   |some t=>some (t,all,o::l,k,e,H)
   |none=>none
  |none=>match o.op with
   | .pick (.tmp t) _ _=>some (t,all,o::l,k,e,H)
   |_=>none
 |_=>none
def evM(s:St T.ty):Option (Nat×Code×List It×AE T.ty×List (AO T.ty)):=match s with
 |⟨.code (.cond (.tmp t) x y),k,e,H⟩=>some (t,.cond (.tmp t) x y,k,e,H)
 |_=>none
theorem gJ{r:ρ}{α:Type}{x:Option α}{f:α->Option ρ}(k:Nat)(δ:α->List (LI T.ty)){s:St T.ty}{t:Nat}{all:Array Oper}{l:List Oper}{its:List It}{e:AE T.ty}{H:List (AO T.ty)}{I:α->Hd T.ty}(hr:evJ (rn T n s)=some (t,all,l,its,e,H))
 (hI:∀v,hdOf T e H (δ v)=some (I v)) (h1:∀K:Act->World->Prop,Back T n F0 w0 X Kz f I r K->G T Q n F0 w0 X Kz r (x.bind f) ⟨.ops all (l.take k),.sem K::its,e,H⟩)
 (h2:∀v,G T Q n F0 w0 X Kz r (f v) ⟨.ops all (l.drop k),its,(I v).e,(I v).H⟩):G T Q n F0 w0 X Kz r (x.bind f) s:=fun hm=>by
 refine a7m ?_
 have hs:rn T n s=⟨.ops all l,its,e,H⟩:=by
  revert hr
  generalize rn T n s=s'
  intro hr
  unfold evJ at hr
  split at hr
  ·split at hr
   ·split at hr
    ·cases hr;rfl
    ·cases hr
   ·split at hr
    ·cases hr;rfl
    ·cases hr
  ·cases hr
 rw [hs]
 intro R F m w g1 g2 g3 g4
 refine a6y k (fun a w'=>∃v,f v=some r/\Iv T n F0 w0 X Kz (I v) a w') (fun a w'⟨v,hv,R,F,m2,k1,k2,k3,k4,k5⟩=>h2 v hv R F m2 w' k2 k3 k4 k5 a k1) ?_
 exact h1 (fun a w'=>∃v,f v=some r/\Iv T n F0 w0 X Kz (I v) a w') (fun v a w' hv hi=>⟨v,hv,hi⟩) hm R F m w g1 g2 g3 g4
theorem gM{r:ρ}{α:Type}{x:Option α}{f:α->Option ρ}(δ:α->List (LI T.ty)){s:St T.ty}{t:Nat}{c:Code}{its:List It}{e:AE T.ty}{H:List (AO T.ty)}{I:α->Hd T.ty}(hr:evM (rn T n s)=some (t,c,its,e,H))
 (hI:∀v,hdOf T e H (δ v)=some (I v)) (h1:∀K:Act->World->Prop,Back T n F0 w0 X Kz f I r K->G T Q n F0 w0 X Kz r (x.bind f) ⟨.code c,.sem K::its,e,H⟩)
 (h2:∀v,G T Q n F0 w0 X Kz r (f v) ⟨.out .normal,its,(I v).e,(I v).H⟩):G T Q n F0 w0 X Kz r (x.bind f) s:=fun hm=>by
 refine a7m ?_
 have hs:rn T n s=⟨.code c,its,e,H⟩:=by
  revert hr
  generalize rn T n s=s'
  intro hr
  unfold evM at hr
  split at hr
  ·cases hr;rfl
  ·cases hr
 rw [hs]
 intro R F m w g1 g2 g3 g4 a ha
 refine Code.wp_mono (fun e a' w' hq=> ?_) (h1 (fun a w'=>∃v,f v=some r/\Iv T n F0 w0 X Kz (I v) a w') (fun v a w' hv hi=>⟨v,hv,hi⟩) hm R F m w g1 g2 g3 g4 a ha)
 cases e with
 |normal=>
  obtain⟨v,hv,R,F,m2,k1,k2,k3,k4,k5⟩:=hq
  exact h2 v hv R F m2 w' k2 k3 k4 k5 a' k1
 |_=>exact hq
theorem gX{r:ρ}{α:Type}{f:α->Option ρ}{I:α->Hd T.ty}{K:Act->World->Prop}(hK:Back T n F0 w0 X Kz f I r K){v:α}{s:St T.ty}{its:List It}{e:AE T.ty}{H:List (AO T.ty)}(hr:evE (rn T n s)=some (K,its,e,H))
 (hI:atHd T X (I v) e H=some (I v)):G T Q n F0 w0 X Kz r ((some v).bind f) s:=fun hm=>by
 refine a7m ?_
 revert hr
 generalize rn T n s=s'
 intro hr
 unfold evE at hr
 split at hr
 ·cases hr
  intro R F mm w h1 h2 h3 hX a ha
  exact hK v a w hm (d0n hI ha h1 h2 h3 hX)
 ·cases hr
end
end Go.Proofs.YthaegflpecbfgaaGreatDoor.Rt
namespace Go.Proofs.YthaegflpecbfgaaGreatDoor.Rt
open Go Go.RowKit
set_option linter.unusedVariables false
set_option linter.unusedSimpArgs false
def Rp.unit:Rp Unit where
 k:=0
 R:=fun _ cs _=>cs= []
 len:=by intros;simp_all
 mono:=fun _ h=>h
 one:=by intro F cs x h u hu;subst h;simp at hu
def slOf{ty:Nat->Type}(c:Nat):AV ty->Option (List (ty c))
 | .sl c' xs=>c9x c' c xs
 | .val (.slice none 0 0)=>some []
 |_=>none
theorem b1f{ty:Nat->Type}{rp:∀c,Rp (ty c)}{R:List OE}{F:Frz}{c:Nat}{y:AV ty}{xs:List (ty c)}{v:Value}(h:slOf c y=some xs)(hc:Conc rp R F y v):∃a m n,v= .slice a m n/\SlR (rp c) F a m n xs:=by
 unfold slOf at h
 split at h
 ·obtain⟨rfl,rfl⟩:=b8d h
  exact hc
 ·cases h
  simp only [Conc]at hc
  exact⟨none,0,0,hc,SlR.nil _ _⟩
 ·cases h
theorem SizeIs.of{P:Program}{t:TypeId}{k:Nat}(h:(P.info? t).map (·.size)=some k):SizeIs P t k:=by
 intro w
 cases hi:P.info? t with
 |none=>simp [hi]at h
 |some i=>
  simp only [hi,Option.map_some,Option.some.injEq]at h
  simp [sizeOf,typeInfo,hi,h]
theorem e5q{P:Program}{t:TypeId}{ps:List (Nat×Nat)}(h1:P.underlying t=some (.struct (P.fieldsOf t).toList.toArray))(h2:(P.fieldsOf t).toList.map (fun f=>(f.offset,(P.info? f.type).map (·.size)))=ps.map (fun p=>(p.1,some p.2))):
 ∃fs:List Field,P.underlying t=some (.struct fs.toArray)/\fs.map (·.offset)=ps.map (·.1)/\∀(i:Nat)f p,fs[i]?=some f->ps[i]?=some p->SizeIs P f.type p.2:=by
 refine⟨_,h1,?_,fun i f p hf hp=> ?_⟩
 ·have:=congrArg (List.map Prod.fst) h2
  rw [List.map_map,List.map_map]at this
  exact this
 ·have:=congrArg (fun l=>l[i]?) h2
  simp only [List.getElem?_map,hf,hp,Option.map_some,Option.some.injEq,Prod.mk.injEq]at this
  exact SizeIs.of this.2
end Go.Proofs.YthaegflpecbfgaaGreatDoor.Rt
namespace Go.Proofs.YthaegflpecbfgaaGreatDoor.Rt
open Go Go.RowKit
set_option linter.unusedVariables false
set_option linter.unusedSimpArgs false
section
variable{P:Program}(T:Tbl P)
def FnO(f:FuncId){ρ:Type}(az:List (AV T.ty))(m:Option ρ)(el q c:Nat)(res:ρ->List (T.ty c)):Prop:=
 Ent P f/\∀r,m=some r->∀w F,Sat F w->T.gl F->∀us,ConcL T.rp [] F az us->Calls P f us.toArray w fun e w'=>∃v F' a m n xs,e= .returned v/\HS F w [] F' [.row el q a m n xs] w'/\RowN (T.rp c) F' m xs (res r)/\v= .slice a m n
def FnL(f:FuncId){ρ:Type}(t:TypeId)(cs az:List (AV T.ty))(m:Option ρ)(cs':ρ->List (AV T.ty))(res:ρ->AV T.ty):Prop:=
 Ent P f/\∀r,m=some r->∀w F,Sat F w->T.gl F->∀b ws us,w.heap[b]?=some (.cells ws.toArray t (0,0))->F b=none->ConcL T.rp [] F cs ws->ConcL T.rp [.box b t ws] F az us->
  Calls P f us.toArray w fun e w'=>∃v F' ws',e= .returned v/\HS F w [b] F' [.box b t ws'] w'/\ConcL T.rp [] F' (cs' r) ws'/\Conc T.rp [] F' (res r) v
def b4m(i:Nat):List (AV T.ty)->List (AV T.ty)
 | []=> []
 | .bx j o::l=>match Nat.beq j i with
   |true=> .bx 0 o::b4m i l
   |false=> .bx (j+1) o::b4m i l
 |x::l=>x::b4m i l
def lentOf:List (AV T.ty)->Option Nat
 | []=>none
 | .bx j _::_=>some j
 |_::l=>lentOf l
def pureL1:List (AV T.ty)->Bool
 | []=>true
 | .bx 0 _::l=>pureL1 l
 |x::l=>match c3z x with
  |true=>pureL1 l
  |false=>false
structure LV(ty:Nat->Type)where
 f:FuncId
 t:TypeId
 cs:List (AV ty)
 az:List (AV ty)
 nx:List (AV ty)->AV ty->St ty
def evO(n:Nat)(s:St T.ty):Option (FuncId×List (AV T.ty)×(AO T.ty->St T.ty)):=match s with
 |⟨.ops all (o::l),k,e,H⟩=>match a9g all e o.guard,o.dst,o.op with
  |true,some d,.call ⟨.value c,args,_⟩=>match Nat.blt d n,opA e c,opL e args.toList with
   |true,some (.val (.func (.func f) fi ca)),some az=>match fi.toList,ca.toList,frzW T (H.length+1) az e H with
    | [],[],some (as',e',H')=>some (f,as',fun v=>⟨.ops all l,k,(d,.row H'.length)::e',snoc v H'⟩)
    |_,_,_=>none
   |_,_,_=>none
  |_,_,_=>none
 |_=>none
def evLn(n:Nat)(s:St T.ty):Option (LV T.ty):=match s with
 |⟨.ops all (o::l),k,e,H⟩=>match a9g all e o.guard,o.dst,o.op with
  |true,some d,.call ⟨.value c,args,_⟩=>match Nat.blt d n,opA e c,opL e args.toList with
   |true,some (.val (.func (.func f) fi ca)),some az=>match fi.toList,ca.toList,lentOf T az with
    | [],[],some i=>match H[i]? with
      |some (.box _ cs0)=>match frzW T (H.length+1) (.agg cs0::az) e H with
       |some (_::as',e',H')=>match H'[i]? with
        |some (.box t cs)=>some ⟨f,t,cs,b4m T i as',fun cs' v=>⟨.ops all l,k,(d,v)::e',H'.set i (.box t cs')⟩⟩
        |_=>none
       |_=>none
      |_=>none
    |_,_,_=>none
   |_,_,_=>none
  |_,_,_=>none
 |_=>none
def evRO(fn:Func)(s:St T.ty):Option ((el:Nat)×(q:Nat)×(c:Nat)×List (T.ty c)):=match s with
 |⟨.out .ret,[],e,H⟩=>match resA T e H fn.results.toList with
  |some [.row i]=>match H[i]? with
   |some (.row el q c xs)=>some ⟨el,q,c,xs⟩
   |_=>none
  |_=>none
 |_=>none
def evRg(fn:Func)(e:AE T.ty)(H:List (AO T.ty)):Option (TypeId×List (AV T.ty)×AV T.ty):=match(H[0]?:Option (AO T.ty))with
 |some (.box _ cs0)=>match resA T e H fn.results.toList with
  |some l=>match frzW T (H.length+1) (.agg cs0::l) e H with
   |some (_::l',_,H')=>match(H'[0]?:Option (AO T.ty))with
    |some (.box t cs)=>some (t,cs,oneR l')
    |_=>none
   |_=>none
  |none=>none
 |_=>none
def evRL(fn:Func)(s:St T.ty):Option (TypeId×List (AV T.ty)×AV T.ty):=match s with
 |⟨.out .ret,[],e,H⟩=>evRg T fn e H
 |⟨.out .normal,[],e,H⟩=>match fn.results.toList with
  | []=>evRg T fn e H
  |_=>none
 |_=>none
end
section
variable{P:Program}{T:Tbl P}{Q:Exit->Act->World->Prop}{n:Nat}{F0:Frz}{w0:World}{X:List Nat}{Kz:Snap}{ρ:Type}
theorem e3t{s:St T.ty}{f:FuncId}{as0:List (AV T.ty)}{nx:AO T.ty->St T.ty}(h:evO T n s=some (f,as0,nx)){α:Type}{az:List (AV T.ty)}{mr:Option α}{el q c:Nat}{res:α->List (T.ty c)}(hF:FnO T f az mr el q c res)(hc:cnvL as0 az=az)(hp:a9a az=true){r:α}(hr:mr=some r)
 (k:Sm T Q n F0 w0 X Kz (nx (.row el q c (res r)))):Sm T Q n F0 w0 X Kz s:=by
 unfold evO at h
 split at h
 ·rename_i all o l its e H
  split at h
  ·rename_i d cc args ts hg hd ho
   split at h
   ·rename_i f0 fi ca as1 hn hf hl
    split at h
    ·rename_i as' e' H' hfi hca hz
     cases h
     intro R F m w h1 h2 h3 hX
     obtain⟨us,g1,g2⟩:=c0a h1 hl
     obtain⟨R',F',k1,k2,k3,k4,k5,k6⟩:=b0t hz h1 h2 h3 hX g2
     have k7:=(k6.cnv az)
     rw [hc]at k7
     obtain⟨u,g3,g4⟩:=a1b h1 hf
     simp only [Conc]at g4
     subst g4
     have hfi:fi= #[]:=Array.toList_eq_nil_iff.1 hfi
     have hca:ca= #[]:=Array.toList_eq_nil_iff.1 hca
     subst hfi;subst hca
     obtain⟨dst,op,type,pos,after,guard⟩:=o
     dsimp only at hg hd ho
     subst hd;subst ho
     obtain⟨args⟩:=args
     refine a1s (R:=fun v F' O'=>∃a m n xs,O'= [.row el q a m n xs]/\RowN (T.rp c) F' m xs (res r)/\v= .slice a m n) hF.1 (a3d h1 hg) hn g3 g1 k4
      ((hF.2 r hr w F' k4.sat k5.2 us (k7.pure hp)).mono fun _ _⟨v,F2,a,m,n,xs,e1,e2,e3,e4⟩=>⟨v,F2,_,e1,e2,a,m,n,xs,rfl,e3,e4⟩)
      (fun v F2 O' w' hle hS⟨a,m2,n2,xs,e1,e2,e3⟩=> ?_)
     subst e1;subst e3
     have hk:Keep R' F' (R'++ [.row el q a m2 n2 xs]) F2:=Keep.more hle
     refine k _ F2 _ w' ((k2.mono hk).put ⟨el,q,a,m2,n2,xs,?_,rfl⟩) ?_ hS.addEnd (k5.keep hk)
     ·rw [k3.1];simp
     ·show RelH _ _ _ _ (snoc _ H') _
      rw [b4g]
      exact(k3.mono hk).add ⟨a,m2,n2,xs,rfl,e2⟩
    ·cases h
   ·cases h
  ·cases h
 ·cases h
theorem b8v{R:List OE}{F:Frz}{i b:Nat}{t:TypeId}{ws:List Value}(hi:R[i]?=some (.box b t ws)):∀{l:List (AV T.ty)}{us:List Value},pureL1 T (b4m T i l)=true->ConcL T.rp R F l us->ConcL T.rp [.box b t ws] F (b4m T i l) us
 | [],us,_,h=>h
 |x::l,us,p,⟨v,k,h1,h2,h3⟩=>by
  have other:(∀j o,x≠ .bx j o)->ConcL T.rp [.box b t ws] F (b4m T i (x::l)) us:=by
   intro hx
   have e:b4m T i (x::l)=x::b4m T i l:=by cases x<;>first|rfl|exact absurd rfl (hx _ _)
   rw [e]at p⊢
   have p2:c3z x=true/\pureL1 T (b4m T i l)=true:=by
    cases x<;>first|exact absurd rfl (hx _ _)|(simp only [pureL1]at p;split at p<;>first|(rename_i hp;exact⟨hp,p⟩)|cases p)
   exact⟨v,k,h1,Conc.pure p2.1 h2,b8v hi p2.2 h3⟩
  cases x with
  |bx j o=>
   unfold b4m at p⊢
   split at p
   ·rename_i hb
    obtain rfl:=Nat.eq_of_beq_eq_true hb
    obtain⟨b',t',cs,g1,g2⟩:=h2
    rw [hi]at g1;cases g1
    exact⟨v,k,h1,⟨b,t,ws,rfl,g2⟩,b8v hi (by simpa [pureL1]using p) h3⟩
   ·rename_i hb
    simp [pureL1,c3z]at p
  |_=>exact other (by intro j o e;cases e)
theorem e3d{s:St T.ty}{q:LV T.ty}(h:evLn T n s=some q){α:Type}{cs az:List (AV T.ty)}{mr:Option α}{cs':α->List (AV T.ty)}{res:α->AV T.ty}(hF:FnL T q.f q.t cs az mr cs' res)(hc:cnvL q.cs cs=cs)(hcp:a9a cs=true)(ha:cnvL q.az az=az)(hp:pureL1 T q.az=true){r:α}(hr:mr=some r)
 (k:Sm T Q n F0 w0 X Kz (q.nx (cs' r) (res r))):Sm T Q n F0 w0 X Kz s:=by
 unfold evLn at h
 split at h
 ·rename_i all o l its e H
  split at h
  ·rename_i d cc args ts hg hd ho
   split at h
   ·rename_i f0 fi ca as1 hn hf hl
    split at h
    ·rename_i i hfi hca hlent
     split at h
     ·rename_i t0 cs0 hi0
      split at h
      ·rename_i x1 as' e' H' hz
       split at h
       ·rename_i t csx hi
        cases h
        dsimp only at hF hc ha hp k
        intro R F m w h1 h2 h3 hX
        obtain⟨us,g1,g2⟩:=c0a h1 hl
        obtain⟨en,b1,b0,ws0,rfl,b2⟩:=h2.2 i _ hi0
        obtain⟨R',F',k1,k2,k3,k4,k5,v0,r0,k6,k7,k9⟩:=b0t (us:= .agg ws0.toArray::us) hz h1 h2 h3 hX ⟨_,_,rfl,⟨ws0,rfl,b2⟩,g2⟩
        obtain⟨rfl,rfl⟩:=List.cons.inj k6
        obtain⟨en,c1,b,ws,rfl,c2⟩:=k3.2 i _ hi
        have c3:=c2.cnv cs
        rw [hc]at c3
        have k10:=(b8v c1 hp k9).cnv az
        rw [ha]at k10
        obtain⟨u,g3,g4⟩:=a1b h1 hf
        simp only [Conc]at g4
        subst g4
        have hfi:fi= #[]:=Array.toList_eq_nil_iff.1 hfi
        have hca:ca= #[]:=Array.toList_eq_nil_iff.1 hca
        subst hfi;subst hca
        obtain⟨dst,op,type,pos,after,guard⟩:=o
        dsimp only at hg hd ho
        subst hd;subst ho
        obtain⟨args⟩:=args
        refine a1q (R:=fun v F2 ws' O'=>O'= []/\ConcL T.rp [] F2 (cs' r) ws'/\Conc T.rp [] F2 (res r) v) hF.1 (a3d h1 hg) hn g3 g1 k4 c1
         ((hF.2 r hr w F' k4.sat k5.2 b ws us (k4.get c1) (k4.lendable c1) (c3.pure hcp) k10).mono fun _ _⟨v,F2,ws',e1,e2,e3,e4⟩=>⟨v,F2,ws',[],e1,e2,rfl,e3,e4⟩)
         (fun v F2 ws' O' w' hle hS⟨e1,e2,e3⟩=> ?_)
        subst e1
        have hk:Keep R' F' (R'.set i (.box b t ws')) F2:=by
         refine⟨hle,fun j b' t' us' hj=> ?_,fun j e2 q a m' n' xs hj=> ?_⟩
         ·rw [List.getElem?_set]
          by_cases hij:i=j
          ·subst hij
           rw [c1]at hj;cases hj
           rw [if_pos rfl,if_pos (List.getElem?_eq_some_iff.1 c1).1]
           exact⟨_,rfl⟩
          ·rw [if_neg hij];exact⟨_,hj⟩
         ·rw [List.getElem?_set]
          by_cases hij:i=j
          ·subst hij;rw [c1]at hj;cases hj
          ·rw [if_neg hij];exact hj
        exact k _ F2 _ w' ((k2.mono hk).put (e3.mono (c8q (Frz.refl F2)))) ((k3.mono hk).set i ⟨b,ws',rfl,e2.mono (c8q (Frz.refl F2))⟩) hS (k5.keep hk)
       ·cases h
      ·cases h
     ·cases h
    ·cases h
   ·cases h
  ·cases h
 ·cases h
def c6v{P:Program}(T:Tbl P)(F0:Frz)(w0:World)(b:Nat)(t:TypeId)(cs:List (AV T.ty))(av:AV T.ty):Ending->World->Prop:=fun e w'=>∃v F' ws',e= .returned v/\HS F0 w0 [b] F' [.box b t ws'] w'/\ConcL T.rp [] F' cs ws'/\Conc T.rp [] F' av v
def d3z{P:Program}(T:Tbl P)(F0:Frz)(w0:World)(el q c:Nat)(xs:List (T.ty c)):Ending->World->Prop:=fun e w'=>∃v F' a m n us,e= .returned v/\HS F0 w0 [] F' [.row el q a m n us] w'/\RowN (T.rp c) F' m us xs/\v= .slice a m n
def retO{P:Program}(T:Tbl P)(fn:Func)(F0:Frz)(w0:World)(el q c:Nat)(res:ρ->List (T.ty c))(r:ρ):Exit->Act->World->Prop:=bodyPost P fn (d3z T F0 w0 el q c (res r))
def retL{P:Program}(T:Tbl P)(fn:Func)(F0:Frz)(w0:World)(b:Nat)(t:TypeId)(cs':ρ->List (AV T.ty))(res:ρ->AV T.ty)(r:ρ):Exit->Act->World->Prop:=bodyPost P fn (c6v T F0 w0 b t (cs' r) (res r))
theorem e0r{fn:Func}{s:St T.ty}{el q c:Nat}{xs:List (T.ty c)}(h:evRO T fn s=some ⟨el,q,c,xs⟩):Sm T (bodyPost P fn (d3z T F0 w0 el q c xs)) n F0 w0 [] Kz s:=by
 unfold evRO at h
 split at h
 ·rename_i e H
  split at h
  ·rename_i i hl
   split at h
   ·rename_i hi
    cases h
    intro R F m w h1 h2 h3 hX
    obtain⟨us,g1,g2⟩:=b9q (n:=n) h1 h2 h3 hl
    obtain⟨v,us',rfl,⟨e1,q1,a,mm,nn,xs1,g3,rfl⟩,g4⟩:=g1
    simp only [ConcL]at g4
    subst g4
    obtain⟨en,g5,a2,m2,n2,ws,rfl,g6⟩:=h2.2 i _ hi
    rw [g3]at g5;cases g5
    refine c9v (v:= .slice a mm nn) (fun a' ha=> ?_) ⟨_,F,a,mm,nn,_,rfl,h3.pick [i] (by simp) (by simp [Rt.pick,g3]),g6,rfl⟩
    have g7:=g2 a' ha
    rw [b6f,Array.mapM_eq_mapM_toList]
    simp [g7]
   ·cases h
  ·cases h
 ·cases h
theorem d5h{fn:Func}{e:AE T.ty}{H:List (AO T.ty)}{b:Nat}{t:TypeId}{cs cs':List (AV T.ty)}{x y:AV T.ty}(h:evRg T fn e H=some (t,cs,x))(hc:cnvL cs cs'=cs')(hcp:a9a cs'=true)(hy:cnv x y=y)(hp:c3z y=true){R:List OE}{F:Frz}{m:Env}{w:World}
 (h1:ConcE T.rp R F e m) (h2:RelH T.rp Kz R F H R) (h3:HS F0 w0 [b] F R w) (hX:LG T [b] R F):∃v,(∀a,Has n a m->(results fn a.tmps).run P w= .ok v w)/\c6v T F0 w0 b t cs' y (.returned v) w:=by
 unfold evRg at h
 split at h
 ·rename_i t0 cs0 hi0
  split at h
  ·rename_i l hl
   split at h
   ·rename_i x1 l' e' H' hz
    split at h
    ·rename_i t csx hi
     cases h
     obtain⟨us,g1,g2⟩:=b9q (n:=n) h1 h2 h3 hl
     obtain⟨en,b1,b0,ws0,rfl,b2⟩:=h2.2 0 _ hi0
     obtain⟨R',F',k1,k2,k3,k4,k5,v0,r0,k6,k7,k9⟩:=b0t (us:= .agg ws0.toArray::us) hz h1 h2 h3 hX ⟨_,_,rfl,⟨ws0,rfl,b2⟩,g1⟩
     obtain⟨rfl,rfl⟩:=List.cons.inj k6
     obtain⟨en,c1,b',ws,rfl,c2⟩:=k3.2 0 _ hi
     obtain⟨t2,cs2,c3⟩:=k5.1 0 b rfl
     rw [c1]at c3;cases c3
     have c4:=c2.cnv cs'
     rw [hc]at c4
     have c5:=(c8t k9).cnv y
     rw [hy]at c5
     refine⟨_,fun a ha=> ?_,_,F',ws,rfl,k4.pick [0] (by simp) (by simp [Rt.pick,c1]),c4.pure hcp,c5.pure hp⟩
     have g3:=g2 a ha
     rw [b6f,Array.mapM_eq_mapM_toList]
     simp [g3]
    ·cases h
   ·cases h
  ·cases h
 ·cases h
theorem e0y{fn:Func}{s:St T.ty}{b:Nat}{t:TypeId}{cs cs':List (AV T.ty)}{x y:AV T.ty}(h:evRL T fn s=some (t,cs,x))(hc:cnvL cs cs'=cs')(hcp:a9a cs'=true)(hy:cnv x y=y)(hp:c3z y=true):Sm T (bodyPost P fn (c6v T F0 w0 b t cs' y)) n F0 w0 [b] Kz s:=by
 unfold evRL at h
 split at h
 ·intro R F m w h1 h2 h3 hX
  obtain⟨v,g1,g2⟩:=d5h (n:=n) h hc hcp hy hp h1 h2 h3 hX
  exact c9v g1 g2
 ·split at h
  ·rename_i hres
   intro R F m w h1 h2 h3 hX
   obtain⟨v,g1,g2⟩:=d5h (n:=n) h hc hcp hy hp h1 h2 h3 hX
   exact fun a ha=>⟨ha.defers,v,g1 a ha,g2⟩
  ·cases h
 ·cases h
theorem gO{r:ρ}{α:Type}{x:Option α}{g:α->Option ρ}{f:FuncId}{as0 az:List (AV T.ty)}{el q c:Nat}{res:α->List (T.ty c)}{nx:AO T.ty->St T.ty}{s:St T.ty}(hF:FnO T f az x el q c res)(h:evO T n (rn T n s)=some (f,as0,nx))(hc:cnvL as0 az=az)(hp:a9a az=true)
 (k:∀v,G T Q n F0 w0 X Kz r (g v) (nx (.row el q c (res v)))):G T Q n F0 w0 X Kz r (x.bind g) s:=fun hm=>by
 obtain⟨v,hv,hm⟩:=bind_some hm
 exact a7m (e3t h hF hc hp hv (k v hm))
theorem gN{r:ρ}{α:Type}{x:Option α}{g:α->Option ρ}{f:FuncId}{t:TypeId}{cs0 cs as0 az:List (AV T.ty)}{cs':α->List (AV T.ty)}{res:α->AV T.ty}{nx:List (AV T.ty)->AV T.ty->St T.ty}{s:St T.ty}(hF:FnL T f t cs az x cs' res)(h:evLn T n (rn T n s)=some ⟨f,t,cs0,as0,nx⟩)(hc:cnvL cs0 cs=cs)(hcp:a9a cs=true)(ha:cnvL as0 az=az)(hp:pureL1 T as0=true)
 (k:∀v,G T Q n F0 w0 X Kz r (g v) (nx (cs' v) (res v))):G T Q n F0 w0 X Kz r (x.bind g) s:=fun hm=>by
 obtain⟨v,hv,hm⟩:=bind_some hm
 exact a7m (e3d h hF hc hcp ha hp hv (k v hm))
theorem gRO{fn:Func}{el q c:Nat}{res:ρ->List (T.ty c)}{r a:ρ}{s:St T.ty}(h:evRO T fn (rn T n s)=some ⟨el,q,c,res a⟩):G T (retO T fn F0 w0 el q c res r) n F0 w0 [] Kz r (some a) s:=fun hm=>by
 cases hm
 exact a7m (e0r h)
theorem gRL{fn:Func}{b:Nat}{t:TypeId}{cs':ρ->List (AV T.ty)}{res:ρ->AV T.ty}{r a:ρ}{s:St T.ty}{cs:List (AV T.ty)}{x:AV T.ty}(h:evRL T fn (rn T n s)=some (t,cs,x))(hc:cnvL cs (cs' a)=cs' a)(hcp:a9a (cs' a)=true)(hy:cnv x (res a)=res a)(hp:c3z (res a)=true):G T (retL T fn F0 w0 b t cs' res r) n F0 w0 [b] Kz r (some a) s:=fun hm=>by
 cases hm
 exact a7m (e0y h hc hcp hy hp)
theorem b4y{f:FuncId}{fn:Func}{co:Code}(hf:P.funcs[f]?=some fn)(hb:fn.body=some co)(hn:fn.ntmps=n){az:List (AV T.ty)}(hle:Nat.ble az.length n=true)(he:Ent P f){m:Option ρ}{el q c:Nat}{res:ρ->List (T.ty c)}
 (h:∀F0 w0 r,G T (retO T fn F0 w0 el q c res r) n F0 w0 [] Snap.nil r m ⟨.code co,[],argE 0 az,[]⟩):FnO T f az m el q c res:=by
 refine⟨he,fun r hr w F hs hg us hus=> ?_⟩
 refine a1v n hf hb hn (by rw [hus.len];exact hle) ?_
 exact h F w r hr [] F _ w (b9c 0 hus) ⟨rfl,fun i o hi=>by simp at hi⟩ (HS.init hs) ⟨fun j b hb=>(by simp at hb),hg⟩
theorem b6o{f:FuncId}{fn:Func}{co:Code}(hf:P.funcs[f]?=some fn)(hb:fn.body=some co)(hn:fn.ntmps=n){cs az:List (AV T.ty)}(hle:Nat.ble az.length n=true)(he:Ent P f){m:Option ρ}{t:TypeId}{cs':ρ->List (AV T.ty)}{res:ρ->AV T.ty}
 (h:∀F0 w0 b r,G T (retL T fn F0 w0 b t cs' res r) n F0 w0 [b] Snap.nil r m ⟨.code co,[],argE 0 az,[.box t cs]⟩):FnL T f t cs az m cs' res:=by
 refine⟨he,fun r hr w F hs hg b ws us hbx hfb hcs hus=> ?_⟩
 refine a1v n hf hb hn (by rw [hus.len];exact hle) ?_
 refine h F w b r hr [.box b t ws] F _ w (b9c 0 hus) ⟨rfl,fun i o hi=> ?_⟩ (HS.lend hs hbx hfb) ⟨fun j b' hb=> ?_,hg⟩
 ·cases i with
  |zero=>cases hi;exact⟨_,rfl,b,ws,rfl,hcs.mono (c8q (Frz.refl F))⟩
  |succ i=>simp at hi
 ·cases j with
  |zero=>cases hb;exact⟨t,ws,rfl⟩
  |succ j=>simp at hb
theorem d2n{f:FuncId}(he:Ent P f){t:TypeId}{cs az:List (AV T.ty)}{cs':ρ->List (AV T.ty)}{res:ρ->AV T.ty}:FnL T f t cs az none cs' res:=⟨he,fun r hr=>by cases hr⟩
end
end Go.Proofs.YthaegflpecbfgaaGreatDoor.Rt
namespace Go.Proofs.YthaegflpecbfgaaGreatDoor.Rt
open Go Go.RowKit
set_option linter.unusedVariables false
mutual
def e3z{ty:Nat->Type}:AV ty->List Nat
 | .agg l=>d3j l
 | .tup l=>d3j l
 | .bx i _=> [i]
 | .row i=> [i]
 | .rel i _ _ _ _=> [i]
 | .clo _ l=>d3j l
 | .sb i _ _=> [i]
 | .rw i _ _=> [i]
 |_=> []
def d3j{ty:Nat->Type}:List (AV ty)->List Nat
 | []=> []
 |x::l=>e3z x++d3j l
 end
def c9b{ty:Nat->Type}(H:List (AO ty)):List Nat->List Nat
 | []=> []
 |i::l=>match H[i]? with
  |some (.box _ cs)=>d3j cs++c9b H l
  |_=>c9b H l
def e1v(t:Nat):List Oper->Option Op
 | []=>none
 |o::l=>match o.dst with
  |some d=>match Nat.beq d t with
   |true=>some o.op
   |false=>e1v t l
  |none=>e1v t l
def d6e{ty:Nat->Type}(e:AE ty)(t:Nat):List Nat:=match e.lookup t with
 |some x=>e3z x
 |none=> []
def c0j{ty:Nat->Type}(ops:List Oper)(e:AE ty)(H:List (AO ty)):Nat->Operand->List Nat
 |0,_=> []
 |f+1,.tmp t=>match e1v t ops with
  |some (.move x)=>c0j ops e H f x
  |some (.assign x)=>c0j ops e H f x++d6e e t
  |some (.fieldAddr _ x _)=>c0j ops e H f x
  |some (.nilCheck x)=>c0j ops e H f x
  |some (.extract x _)=>c0j ops e H f x
  |some (.indexAddr _ x _)=>c0j ops e H f x
  |some (.slice _ x _ _ _)=>c0j ops e H f x
  |some (.pick _ x y)=>c0j ops e H f x++c0j ops e H f y
  |some (.load _ x)=>c9b H (c0j ops e H f x)
  |some _=> []
  |none=>d6e e t
 |_,_=> []
def d9m{ty:Nat->Type}(ops:List Oper)(e:AE ty)(H:List (AO ty))(f:Nat):List Operand->List Nat
 | []=> []
 |x::l=>c0j ops e H f x++d9m ops e H f l
def writ{ty:Nat->Type}(ops:List Oper)(e:AE ty)(H:List (AO ty))(f:Nat):List Oper->List Nat
 | []=> []
 |o::l=>match o.op with
  | .store _ x _=>c0j ops e H f x++writ ops e H f l
  | .call ⟨.builtin .len,_,_⟩=>writ ops e H f l
  | .call ⟨.builtin .min,_,_⟩=>writ ops e H f l
  | .call ⟨.builtin .max,_,_⟩=>writ ops e H f l
  | .call ⟨_,args,_⟩=>d9m ops e H f args.toList++writ ops e H f l
  |_=>writ ops e H f l
def hasN(i:Nat):List Nat->Bool
 | []=>false
 |j::l=>match Nat.beq i j with
  |true=>true
  |false=>hasN i l
def b5c{ty:Nat->Type}(ws:List Nat):Nat->List (AO ty)->List (AO ty)
 |_,[]=> [.mark]
 |i,.box t cs::l=>match hasN i ws with
  |true=> .box t cs::b5c ws (i+1) l
  |false=> .kbox i t cs::b5c ws (i+1) l
 |i,.row e q c xs::l=>match hasN i ws with
  |true=> .row e q c xs::b5c ws (i+1) l
  |false=> .krow i e q c xs::b5c ws (i+1) l
 |i,_::l=> .gone::b5c ws (i+1) l
def frc{α:Type}:List α->Option (List α)
 | []=>some []
 |x::l=>match frc l with
  |some r=>some (x::r)
  |none=>none
theorem d1x{α:Type}:∀{l r:List α},frc l=some r->l=r
 | [],_,h=>by cases h;rfl
 |x::l,_,h=>by
  simp only [frc]at h
  split at h
  ·rename_i r hr;cases h;rw [d1x hr]
  ·cases h
def frcN:List Nat->Option (List Nat)
 | []=>some []
 |x::l=>match Nat.beq x x,frcN l with
  |true,some r=>some (x::r)
  |_,_=>none
def stH{ty:Nat->Type}(ops:Array Oper)(e:AE ty)(H:List (AO ty)):Option (List Nat×List (AO ty)):=match frcN (writ ops.toList e H 12 ops.toList)with
 |some ws=>match frc (b5c ws 0 H)with
  |some H'=>match frc (b8r H')with
   |some ks=>some (ks,H')
   |none=>none
  |none=>none
 |none=>none
theorem e4n{ty:Nat->Type}{ops:Array Oper}{e:AE ty}{H H':List (AO ty)}{ks:List Nat}(h:stH ops e H=some (ks,H')):(∃ws,b5c ws 0 H=H')/\b8r H'=ks:=by
 unfold stH at h
 split at h
 ·split at h
  ·rename_i h1
   split at h
   ·rename_i h2
    cases h
    exact⟨⟨_,d1x h1⟩,d1x h2⟩
   ·cases h
  ·cases h
 ·cases h
def curO{ty:Nat->Type}:AO ty->AO ty
 | .box t cs=> .box t cs
 | .row e q c xs=> .row e q c xs
 | .gone=> .gone
 | .kbox _ t cs=> .box t cs
 | .krow _ e q c xs=> .row e q c xs
 | .mark=> .gone
def curH{ty:Nat->Type}:List (AO ty)->List (AO ty)
 | []=> []
 |o::l=>curO o::curH l
def c7c{ty:Nat->Type}:List (AO ty)->Option Nat
 | []=>none
 | .mark::_=>some 0
 |_::l=>match c7c l with
  |some i=>some (i+1)
  |none=>none
def noMix:List It->Bool
 | []=>true
 | .mixk _ _ _::_=>false
 |_::l=>noMix l
def pL:List Nat->Pl->Pl
 | [],p=>p
 |x::l,p=>match Nat.beq (x %2) 0 with
  |true=> .tk (x/2) (pL l p)
  |false=> .st (x/2) (pL l p)
def plOk(ops:Array Oper)(p:Pl):Bool:=b9a ops p (Array.replicate ops.size false)&&Nat.beq p.dep ops.size
section
variable{P:Program}{T:Tbl P}{n:Nat}{F0:Frz}{w0:World}{X:List Nat}{ρ:Type}{Q:Exit->Act->World->Prop}{Kz Ky:Snap}
theorem c8h{ws:List Nat}:∀{i:Nat}{H:List (AO T.ty)},(b5c ws i H).length=H.length+1
 |i,[]=>rfl
 |i,o::l=>by
  have:=c8h (ws:=ws) (i:=i+1) (H:=l)
  cases o<;>simp only [b5c]<;>(try split)<;>simp [this]
theorem d0v{ws:List Nat}{R:List OE}{F:Frz}:∀{i:Nat}{H:List (AO T.ty)}{S:List OE},H.length=S.length->(∀(j:Nat)o,H[j]?=some o->∃e:OE,S[j]?=some e/\RelO T.rp Kz R F o e)->(∀(j:Nat)e,S[j]?=some e->Ky.K (i+j)=e)->Ky.F.le F->
 ∀(j:Nat)o,(b5c ws i H)[j]?=some o->∃e:OE,(S++ [.row 0 0 none 0 0 []])[j]?=some e/\RelO T.rp Ky R F o e
 |i,[],S,hl,h,hK,hF,j,o,ho=>by
  obtain rfl:=List.length_eq_zero_iff.1 hl.symm
  cases j with
  |zero=>simp [b5c]at ho;subst ho;exact⟨_,rfl,hF,_,_,_,_,_,_,rfl⟩
  |succ j=>simp [b5c]at ho
 |i,x::l,[],hl,_,_,_,_,_,_=>by simp at hl
 |i,x::l,e0::S,hl,h,hK,hF,j,o,ho=>by
  have tail:∀(j:Nat)o,(b5c ws (i+1) l)[j]?=some o->∃e:OE,(S++ [.row 0 0 none 0 0 []])[j]?=some e/\RelO T.rp Ky R F o e:=
   d0v (by simpa using hl) (fun j o hj=>by simpa using h (j+1) o (by simpa using hj)) (fun j e hj=>by
    have:=hK (j+1) e (by simpa using hj)
    rwa [Nat.add_right_comm i 1 j,Nat.add_assoc]) hF
  obtain⟨e1,g1,g2⟩:=h 0 x rfl
  simp only [List.getElem?_cons_zero,Option.some.injEq]at g1
  subst g1
  have hk:Ky.K i=e0:=hK 0 e0 rfl
  have go:∀y,(y::b5c ws (i+1) l)[j]?=some o->RelO T.rp Ky R F y e0->∃e:OE,(e0::S++ [.row 0 0 none 0 0 []])[j]?=some e/\RelO T.rp Ky R F o e:=by
   intro y hy hr
   cases j with
   |zero=>simp at hy;subst hy;exact⟨e0,rfl,hr⟩
   |succ j=>simpa using tail j o (by simpa using hy)
  cases x<;>simp only [b5c]at ho
  case box t cs=>
   split at ho
   ·exact go _ ho g2
   ·exact go _ ho ⟨hk.symm,g2⟩
  case row e q c xs=>
   split at ho
   ·exact go _ ho g2
   ·exact go _ ho ⟨hk.symm,g2⟩
  all_goals exact go _ ho trivial
theorem e2q{R:List OE}{F:Frz}{H:List (AO T.ty)}{S:List OE}(h:RelH T.rp Kz R F H S):RelH T.rp Ky R F (curH H) S:=by
 have e:∀H:List (AO T.ty),curH H=H.map curO:=fun H=>by
  induction H with
  |nil=>rfl
  |cons o l ih=>rw [curH,ih];rfl
 refine⟨by rw [e];simpa using h.1,fun i o ho=> ?_⟩
 rw [e,List.getElem?_map]at ho
 obtain⟨o',h1,rfl⟩:=Option.map_eq_some_iff.1 ho
 obtain⟨en,h2,h3⟩:=h.2 i o' h1
 refine⟨en,h2,?_⟩
 cases o' with
 |box t cs=>exact h3
 |row el q c xs=>exact h3
 |gone=>trivial
 |kbox i t cs=>exact h3.2
 |krow i el q c xs=>exact h3.2
 |mark=>trivial
theorem markAt_ok:∀{H:List (AO T.ty)}{i:Nat},c7c H=some i->H[i]?=some .mark
 | [],i,h=>by cases h
 |o::l,i,h=>by
  have go:(match c7c l with|some i=>some (i+1)|none=>none)=some i->(o::l)[i]?=some .mark:=fun h=>by
   split at h
   ·rename_i j hj;cases h;simpa using markAt_ok hj
   ·cases h
  cases o<;>simp only [c7c]at h
  case mark=>cases h;rfl
  all_goals exact go h
theorem kq_any:∀{k:List It},noMix k=true->kq P Ky Q k=kq P Kz Q k
 | [],_=>rfl
 | .code y::k,h=>by simp only [kq];rw [kq_any (k:=k) h]
 | .blk id::k,h=>by simp only [kq];rw [kq_any (k:=k) h]
 | .scope::k,h=>by simp only [kq];rw [kq_any (k:=k) h]
 | .sem J::k,h=>by simp only [kq];rw [kq_any (k:=k) h]
 | .mixk _ _ _::_,h=>by cases h
theorem gH(p:Pl){r:ρ}{m:Option ρ}{s:St T.ty}{id:Nat}{ops:Array Oper}{k:List It}{e:AE T.ty}{H H':List (AO T.ty)}(h:evG (rn T n s)=some (id,ops,k,e,H))(hB:plOk ops p=true){ks:List Nat}(hH:stH ops e H=some (ks,H'))(hM:noMix k=true)
 (g:∀Ky,G T Q n F0 w0 X Ky r m ⟨.mix ops p ks true,k,e,H'⟩):G T Q n F0 w0 X Snap.nil r m s:=fun hm=>by
 refine a7m ?_
 revert h
 generalize rn T n s=s'
 intro h
 unfold evG at h
 split at h
 ·cases h
  intro R F mm w h1 h2 h3 hX
  obtain⟨⟨ws,h7⟩,h8⟩:=e4n hH
  subst h7;subst h8
  have hB:=d4g hB
  let Ky:Snap:=⟨fun i=>(R[i]?).getD (.row 0 0 none 0 0 []),F⟩
  have hk:Keep R F (R++ [.row 0 0 none 0 0 []]) F:=Keep.more (Frz.refl F)
  have g1:RelH T.rp Ky (R++ [.row 0 0 none 0 0 []]) F (b5c ws 0 H) (R++ [.row 0 0 none 0 0 []]):=by
   refine⟨by rw [c8h,h2.1];simp,?_⟩
   exact d0v (Kz:=Snap.nil) h2.1 (fun j o hj=>by
    obtain⟨en,k1,k2⟩:=h2.2 j o hj
    exact⟨en,k1,k2.mono hk⟩) (fun j e hj=>by show(R[0+j]?).getD _=e;rw [Nat.zero_add,hj];rfl) (Frz.refl F)
  have:=a6u (P:=P) (Q:=kq P Ky Q k) (id:=id) (l:=ops.toList) (env:=mm) (n:=n) (SK Ky (b8r (b5c ws 0 H))) ops.size (by simp) T.mix h3 (fun w' h4=>by
   have h5:HS F0 w0 X F (R++ [.row 0 0 none 0 0 []]) w':=(h4.nilRow 0 0).addEnd
   have h6:=g Ky hm _ F mm w' (h1.mono hk) g1 h5 (hX.keep hk) (fun _=>Frz.refl F) _ hB.1
   rw [Nat.eq_of_beq_eq_true hB.2]at h6
   simpa using h6)
  show CW P _ _ _ _ _
  have e2:kq P Ky Q k=kq P Snap.nil Q k:=kq_any hM
  rw [<-e2]
  simpa using this
 ·cases h
def plOf:List (Nat×Pl)->Nat->Pl
 | [],_=> .nil
 |(i,p)::l,j=>match Nat.beq i j with
  |true=>p
  |false=>plOf l j
theorem gHs(l:List (Nat×Pl)){r:ρ}{m:Option ρ}{s:St T.ty}{id:Nat}{ops:Array Oper}{k:List It}{e:AE T.ty}{H H':List (AO T.ty)}(h:evG (rn T n s)=some (id,ops,k,e,H))(hB:plOk ops (plOf l id)=true){ks:List Nat}(hH:stH ops e H=some (ks,H'))(hM:noMix k=true)
 (g:∀Ky,G T Q n F0 w0 X Ky r m ⟨.mix ops (plOf l id) ks true,k,e,H'⟩):G T Q n F0 w0 X Snap.nil r m s:=gH (plOf l id) h hB hH hM g
def evHe(s:St T.ty):Option (St T.ty):=match s with
 |⟨.mix _ .nil _ _,k,e,H⟩=>match noMix k,c7c H with
  |true,some j=>match frc (curH H)with
   |some H2=>match d8o j e H2 with
    |some H'=>some ⟨.out .normal,k,e,H'⟩
    |none=>some ⟨.out .normal,k,e,H2⟩
   |none=>none
  |_,_=>none
 |_=>none
theorem gHe{r:ρ}{m:Option ρ}{s s':St T.ty}(h:evHe (rn T n s)=some s')(g:G T Q n F0 w0 X Snap.nil r m s'):G T Q n F0 w0 X Ky r m s:=fun hm=>by
 refine a7m ?_
 revert h
 generalize rn T n s=s2
 intro h
 unfold evHe at h
 split at h
 ·rename_i all ks el k e H
  split at h
  ·rename_i j hM hj
   intro R F mm w h1 h2 h3 hX hF listed hp
   refine a7x (by simpa [b9a]using hp) ?_
   rw [kq_any (Ky:=Ky) (Kz:=Snap.nil) (Q:=Q) hM]
   split at h
   case h_2=>cases h
   rename_i H2 hH2
   have h4:RelH T.rp Snap.nil R F H2 R:=d1x hH2▸e2q h2
   split at h
   ·rename_i H' ht
    cases h
    obtain⟨en,k1,_,el0,q,a,mm0,nn0,us,k2⟩:=h2.2 j _ (markAt_ok hj)
    subst k2
    have hx:X.length<=j:=by
     rcases Nat.lt_or_ge j X.length with hlt|hge
     ·obtain⟨t,cs,k3⟩:=hX.1 j X[j] (List.getElem?_eq_getElem hlt)
      rw [k1]at k3;cases k3
     ·exact hge
    obtain⟨R',g1,g2,g3,g4⟩:=d1v ht h1 h4 h3 hX hx
    exact g hm R' F mm w g1 g2 g3 g4
   ·cases h
    exact g hm R F mm w h1 h4 h3 hX
  ·cases h
 ·cases h
def evH2(s:St T.ty):Option (St T.ty×St T.ty):=match s with
 |⟨.mix all (.two i j p q) ks _,k,e,H⟩=>match all[i]?,all[j]? with
  |some o,some o'=>some (⟨.ops all [o],.mixk all p ks::k,e,H⟩,⟨.ops all [o'],.mixk all q ks::k,e,H⟩)
  |_,_=>none
 |_=>none
theorem gH2{r:ρ}{m:Option ρ}{s s1 s2:St T.ty}(h:evH2 (rn T n s)=some (s1,s2))(g1:G T Q n F0 w0 X Ky r m s1)(g2:G T Q n F0 w0 X Ky r m s2):G T Q n F0 w0 X Ky r m s:=fun hm=>by
 refine a7m ?_
 revert h
 generalize rn T n s=s0
 intro h
 unfold evH2 at h
 split at h
 ·rename_i all i j p q ks el k e H
  split at h
  ·rename_i o o' hi hj
   cases h
   intro R F mm w h1 h2 h3 hX hF listed hp
   simp only [b9a,Bool.and_eq_true]at hp
   obtain⟨⟨⟨p1,p2⟩,p3⟩,p4⟩:=hp
   have p2:=Nat.eq_of_beq_eq_true p2
   intro a ha
   refine wpAnyH_all (rs:= [i,j]) (by simpa using p1) (by simp) ?_
   intro x hx
   simp only [List.mem_cons,List.not_mem_nil,or_false]at hx
   rcases hx with rfl|rfl
   ·exact e2f x hi (fun a w' g=>⟨g.1,g.2 _ p3⟩) (g1 hm R F mm w h1 h2 h3 hX) a ha
   ·refine e2f x hj (fun a w' g=>⟨g.1,?_⟩) (g2 hm R F mm w h1 h2 h3 hX) a ha
    have:=g.2 _ p4
    rwa [<-p2]at this
  ·cases h
 ·cases h
end
end Go.Proofs.YthaegflpecbfgaaGreatDoor.Rt
namespace Go.Proofs.YthaegflpecbfgaaGreatDoor.Rt
open Go Go.RowKit
set_option linter.unusedVariables false
set_option linter.unusedSimpArgs false
structure Fv{P:Program}(T:Tbl P)where
 α:Type
 ρ:Type
 az:α->List (AV T.ty)
 m:α->Option ρ
 res:ρ->AV T.ty
section
variable{P:Program}{T:Tbl P}
def FvV(T:Tbl P)(F:Frz)(u:Value)(Φ:Fv T):Prop:=∃f cap,u= .func (.func f) #[] cap/\Ent P f/\∀F',F.le F'->T.gl F'->∀(q:Φ.α)r,Φ.m q=some r->∀w us,Sat F' w->ConcL T.rp [] F' (Φ.az q) us->
 Calls P f (us.toArray++cap) w fun e w'=>∃v F2,e= .returned v/\HS F' w [] F2 [] w'/\Conc T.rp [] F2 (Φ.res r) v
theorem FvV.mono{F F':Frz}{u:Value}{Φ:Fv T}(hF:F.le F')(h:FvV T F u Φ):FvV T F' u Φ:=by
 obtain⟨f,cap,h1,h2,h3⟩:=h
 exact⟨f,cap,h1,h2,fun F2 hF2=>h3 F2 (hF.trans hF2)⟩
def Tbl.plus(T:Tbl P)(Φ:Fv T)(u:Value):Tbl P:={T with
 gl:=fun F=>T.gl F/\FvV T F u Φ
 glMono:=fun hF h=>⟨T.glMono hF h.1,h.2.mono hF⟩}
theorem FnC.up{Φ:Fv T}{u:Value}{f:FuncId}{ρ:Type}{az:List (AV T.ty)}{m:Option ρ}{res:ρ->AV T.ty}(h:FnC T f az m res):FnC (T.plus Φ u) f az m res:=
 ⟨h.1,fun r hr w F hs hg=>h.2 r hr w F hs hg.1⟩
def FnH(T:Tbl P)(f:FuncId){ρ:Type}(az:List (AV T.ty))(Φ:Fv T)(m:Option ρ)(res:ρ->AV T.ty):Prop:=
 Ent P f/\∀r,m=some r->∀w F,Sat F w->T.gl F->∀us u,ConcL T.rp [] F az us->FvV T F u Φ->Calls P f (us++ [u]).toArray w fun e w'=>∃v F',e= .returned v/\HS F w [] F' [] w'/\Conc T.rp [] F' (res r) v
theorem FnH.up{Φ Ψ:Fv T}{u:Value}{f:FuncId}{ρ:Type}{az:List (AV T.ty)}{m:Option ρ}{res:ρ->AV T.ty}(h:FnH T f az Φ m res):FnH (T.plus Ψ u) f az ⟨Φ.α,Φ.ρ,Φ.az,Φ.m,Φ.res⟩ m res:=
 ⟨h.1,fun r hr w F hs hg us u2 hu hv=>h.2 r hr w F hs hg.1 us u2 hu (by
  obtain⟨f2,cap,g1,g2,g3⟩:=hv
  exact⟨f2,cap,g1,g2,fun F' hF' hgl q r hr w us hs hc=>g3 F' hF' ⟨hgl,hg.2.mono hF'⟩ q r hr w us hs hc⟩)⟩
variable{n:Nat}{F0:Frz}{w0:World}{X:List Nat}{ρ:Type}{Q:Exit->Act->World->Prop}{Kz Ky:Snap}
theorem b3d{f:FuncId}{fn:Func}{c:Code}(hf:P.funcs[f]?=some fn)(hb:fn.body=some c)(hn:fn.ntmps=n){az:List (AV T.ty)}(hle:Nat.ble (az.length+1) n=true)(he:Ent P f){Φ:Fv T}{m:Option ρ}{res:ρ->AV T.ty}
 (h:∀F0 w0 r u,G (T.plus Φ u) (retQ (T.plus Φ u) fn F0 w0 res r) n F0 w0 [] Snap.nil r m ⟨.code c,[],argE 0 (az++ [.val u]),[]⟩):FnH T f az Φ m res:=by
 refine⟨he,fun r hr w F hs hg us u hus hv=> ?_⟩
 refine a1v n hf hb hn (by rw [List.length_append,hus.len];exact hle) ?_
 have h1:ConcL T.rp [] F (az++ [.val u]) (us++ [u]):=hus.app ⟨u,[],rfl,rfl,rfl⟩
 exact h F w r u hr [] F _ w (b9c 0 h1) ⟨rfl,fun i o hi=>by simp at hi⟩ (HS.init hs) ⟨fun j b hb=>(by simp at hb),hg,hv⟩
end
section
variable{P:Program}(T:Tbl P)
def d3q{α:Type}:List α->Option (List α×α)
 | []=>none
 | [x]=>some ([],x)
 |x::l=>match d3q l with
  |some (r,y)=>some (x::r,y)
  |none=>none
structure HV(ty:Nat->Type)where
 f:FuncId
 az:List (AV ty)
 y:AV ty
 nx:AV ty->St ty
def evKh(n:Nat)(s:St T.ty):Option (HV T.ty):=match s with
 |⟨.ops all (o::l),k,e,H⟩=>match a9g all e o.guard,o.dst,o.op with
  |true,some d,.call ⟨.value c,args,_⟩=>match Nat.blt d n,opA e c,opL e args.toList with
   |true,some y,some az=>match calA y with
    |some (f,[])=>match frzW T (H.length+1) az e H with
     |some (as',e',H')=>match d3q as' with
      |some (as2,z)=>some ⟨f,as2,z,fun v=>⟨.ops all l,k,(d,v)::e',H'⟩⟩
      |none=>none
     |none=>none
    |_=>none
   |_,_,_=>none
  |_,_,_=>none
 |_=>none
def evKf(n:Nat)(s:St T.ty):Option (AV T.ty×List (AV T.ty)×(AV T.ty->St T.ty)):=match s with
 |⟨.ops all (o::l),k,e,H⟩=>match a9g all e o.guard,o.dst,o.op with
  |true,some d,.call ⟨.value c,args,_⟩=>match Nat.blt d n,opA e c,opL e args.toList with
   |true,some y,some az=>match frzW T (H.length+1) az e H with
    |some (as',e',H')=>some (y,as',fun v=>⟨.ops all l,k,(d,v)::e',H'⟩)
    |none=>none
   |_,_,_=>none
  |_,_,_=>none
 |_=>none
end
section
variable{P:Program}{T:Tbl P}{n:Nat}{F0:Frz}{w0:World}{X:List Nat}{ρ:Type}{Q:Exit->Act->World->Prop}{Kz Ky:Snap}
theorem d1h{α:Type}:∀{l r:List α}{y:α},d3q l=some (r,y)->l=r++ [y]
 | [],_,_,h=>by cases h
 | [x],_,_,h=>by cases h;rfl
 |x::x2::l,r,y,h=>by
  simp only [d3q]at h
  split at h
  ·rename_i r' y' h'
   cases h
   rw [d1h h'];rfl
  ·cases h
theorem ConcL.split{ty:Nat->Type}{rp:∀c,Rp (ty c)}{R:List OE}{F:Frz}:∀{l l2:List (AV ty)}{us:List Value},ConcL rp R F (l++l2) us->∃a b,us=a++b/\ConcL rp R F l a/\ConcL rp R F l2 b
 | [],l2,us,h=>⟨[],us,rfl,rfl,h⟩
 |x::l,l2,us,⟨v,k,h1,h2,h3⟩=>by
  obtain⟨a,b,e,g1,g2⟩:=ConcL.split h3
  exact⟨v::a,b,by rw [h1,e];rfl,⟨v,a,rfl,h2,g1⟩,g2⟩
def FvA(T:Tbl P)(y:AV T.ty)(Φ:Fv T):Prop:=∀R F v,T.gl F->Conc T.rp R F y v->FvV T F v Φ
theorem fvA{y:AV T.ty}{Φ:Fv T}{f:FuncId}{caps:List (AV T.ty)}(hy:calA y=some (f,caps))(hp:a9a caps=true)(hF:∀q,FnC T f (Φ.az q++caps) (Φ.m q) Φ.res)(q0:Φ.α):FvA T y Φ:=by
 intro R F v hg hc
 obtain⟨cs,rfl,g⟩:=c9n hy hc
 refine⟨f,cs.toArray,rfl,(hF q0).1,fun F' hF' hgl q r hr w us hs hu=> ?_⟩
 have:=(hF q).2 r hr w F' hs hgl (us++cs) (hu.app ((g.pure hp).mono (c8q hF')))
 simpa using this
theorem b5w{Φ:Fv T}{u:Value}:FvA (T.plus Φ u) (.val u) ⟨Φ.α,Φ.ρ,Φ.az,Φ.m,Φ.res⟩:=by
 intro R F v hg hc
 simp only [Conc]at hc
 subst hc
 obtain⟨f,cap,h1,h2,h3⟩:=hg.2
 exact⟨f,cap,h1,h2,fun F' hF' hgl q r hr w us hs hu=>h3 F' hF' hgl.1 q r hr w us hs hu⟩
theorem e2h{s:St T.ty}{q:HV T.ty}(h:evKh T n s=some q){σ:Type}{az:List (AV T.ty)}{Φ:Fv T}{mr:Option σ}{res:σ->AV T.ty}(hF:FnH T q.f az Φ mr res)(hc:cnvL q.az az=az)(hp:a9a az=true)(hv:FvA T q.y Φ){r:σ}(hr:mr=some r)
 (k:Sm T Q n F0 w0 X Kz (q.nx (res r))):Sm T Q n F0 w0 X Kz s:=by
 unfold evKh at h
 split at h
 ·rename_i all o l its e H
  split at h
  ·rename_i d c args ts hg hd ho
   split at h
   ·rename_i y as0 hn hf hl
    split at h
    ·rename_i f hcal
     split at h
     ·rename_i as' e' H' hz
      split at h
      ·rename_i as2 z hla
       cases h
       dsimp only at hF hc k hv
       intro R F m w h1 h2 h3 hX
       obtain⟨us,g1,g2⟩:=c0a h1 hl
       obtain⟨u,g3,g4⟩:=a1b h1 hf
       obtain⟨cs,rfl,g5⟩:=c9n hcal g4
       simp only [ConcL]at g5
       subst g5
       obtain⟨R',F',k1,k2,k3,k4,k5,k6⟩:=b0t hz h1 h2 h3 hX g2
       rw [d1h hla]at k6
       obtain⟨us1,us2,rfl,k61,k62⟩:=k6.split
       obtain⟨uz,_,rfl,k8,k9⟩:=k62
       simp only [ConcL]at k9
       subst k9
       have k7:=(k61.cnv az)
       rw [hc]at k7
       obtain⟨dst,op,type,pos,after,guard⟩:=o
       dsimp only at hg hd ho
       subst hd;subst ho
       have:=a1s (P:=P) (Q:=kq P Kz Q its) (opr:=all) (rest:=l) (ty:=type) (pos:=pos) (es:=after) (ts:=ts) (R:=fun v F' O'=>O'= []/\Conc T.rp [] F' (res r) v) hF.1 (a3d h1 hg) hn g3 g1 k4
        ((hF.2 r hr w F' k4.sat k5.2 us1 uz (k7.pure hp) (hv R' F' uz k5.2 k8)).mono fun _ _⟨v,F2,e1,e2,e3⟩=>⟨v,F2,[],e1,e2,rfl,e3⟩)
        (fun v F2 O' w' hle hS⟨e1,e2⟩=>by
         subst e1
         exact k R' F2 ((d,v)::m) w' ((k2.mono (Keep.frz hle)).put (e2.mono (c8q (Frz.refl F2)))) (k3.mono (Keep.frz hle)) hS (k5.keep (Keep.frz hle)))
       show RW P all _ _ _ _ _
       simpa using this
      ·cases h
     ·cases h
    ·cases h
   ·cases h
  ·cases h
 ·cases h
theorem e1c{s:St T.ty}{y:AV T.ty}{as0:List (AV T.ty)}{nx:AV T.ty->St T.ty}(h:evKf T n s=some (y,as0,nx)){Φ:Fv T}(hv:FvA T y Φ){q:Φ.α}(hc:cnvL as0 (Φ.az q)=Φ.az q)(hp:a9a (Φ.az q)=true){r:Φ.ρ}(hr:Φ.m q=some r)
 (k:Sm T Q n F0 w0 X Kz (nx (Φ.res r))):Sm T Q n F0 w0 X Kz s:=by
 unfold evKf at h
 split at h
 ·rename_i all o l its e H
  split at h
  ·rename_i d c args ts hg hd ho
   split at h
   ·rename_i y' as1 hn hf hl
    split at h
    ·rename_i as' e' H' hz
     cases h
     intro R F m w h1 h2 h3 hX
     obtain⟨us,g1,g2⟩:=c0a h1 hl
     obtain⟨u,g3,g4⟩:=a1b h1 hf
     obtain⟨f,cap,rfl,hE,hC⟩:=hv R F u hX.2 g4
     obtain⟨R',F',k1,k2,k3,k4,k5,k6⟩:=b0t hz h1 h2 h3 hX g2
     have k7:=(k6.cnv (Φ.az q))
     rw [hc]at k7
     obtain⟨dst,op,type,pos,after,guard⟩:=o
     dsimp only at hg hd ho
     subst hd;subst ho
     have:=d0h (P:=P) (Q:=kq P Kz Q its) (opr:=all) (rest:=l) (ty:=type) (pos:=pos) (es:=after) (ts:=ts) (first:= #[]) (cap:=cap) (R:=fun v F' O'=>O'= []/\Conc T.rp [] F' (Φ.res r) v) hE (a3d h1 hg) hn g3 g1 k4
      (by
       have h9:=(hC F' k1 k5.2 q r hr w us k4.sat (k7.pure hp)).mono fun _ _⟨v,F2,e1,e2,e3⟩=>(⟨v,F2,[],e1,e2,rfl,e3⟩:∃v F2 O',_=Ending.returned v/\HS F' w [] F2 O' _/\O'= []/\Conc T.rp [] F2 (Φ.res r) v)
       simpa using h9)
      (fun v F2 O' w' hle hS⟨e1,e2⟩=>by
       subst e1
       exact k R' F2 ((d,v)::m) w' ((k2.mono (Keep.frz hle)).put (e2.mono (c8q (Frz.refl F2)))) (k3.mono (Keep.frz hle)) hS (k5.keep (Keep.frz hle)))
     show RW P all _ _ _ _ _
     simpa using this
    ·cases h
   ·cases h
  ·cases h
 ·cases h
theorem gKh{r:ρ}{σ:Type}{x:Option σ}{g:σ->Option ρ}{f:FuncId}{as0 az:List (AV T.ty)}{y:AV T.ty}{Φ:Fv T}{res:σ->AV T.ty}{nx:AV T.ty->St T.ty}{s:St T.ty}(hF:FnH T f az Φ x res)(h:evKh T n (rn T n s)=some ⟨f,as0,y,nx⟩)(hc:cnvL as0 az=az)(hp:a9a az=true)(hv:FvA T y Φ)
 (k:∀v,G T Q n F0 w0 X Kz r (g v) (nx (res v))):G T Q n F0 w0 X Kz r (x.bind g) s:=fun hm=>by
 obtain⟨v,hv',hm⟩:=bind_some hm
 exact a7m (e2h h hF hc hp hv hv' (k v hm))
theorem gKf{r:ρ}{y:AV T.ty}{Φ:Fv T}(hv:FvA T y Φ)(q:Φ.α){g:Φ.ρ->Option ρ}{as0:List (AV T.ty)}{nx:AV T.ty->St T.ty}{s:St T.ty}(h:evKf T n (rn T n s)=some (y,as0,nx))(hc:cnvL as0 (Φ.az q)=Φ.az q)(hp:a9a (Φ.az q)=true)
 (k:∀v,G T Q n F0 w0 X Kz r (g v) (nx (Φ.res v))):G T Q n F0 w0 X Kz r ((Φ.m q).bind g) s:=fun hm=>by
 obtain⟨v,hv',hm⟩:=bind_some hm
 exact a7m (e1c h hv hc hp hv' (k v hm))
theorem gKv{Φ:Fv T}{u:Value}{r:ρ}(q:Φ.α){g:Φ.ρ->Option ρ}{as0:List (AV T.ty)}{nx:AV T.ty->St T.ty}{s:St T.ty}(h:evKf (T.plus Φ u) n (rn (T.plus Φ u) n s)=some (.val u,as0,nx))(hc:cnvL as0 (Φ.az q)=Φ.az q)(hp:a9a (Φ.az q)=true)
 (k:∀v,G (T.plus Φ u) Q n F0 w0 X Kz r (g v) (nx (Φ.res v))):G (T.plus Φ u) Q n F0 w0 X Kz r ((Φ.m q).bind g) s:=
 gKf (T:=T.plus Φ u) (Φ:=⟨Φ.α,Φ.ρ,Φ.az,Φ.m,Φ.res⟩) b5w q h hc hp k
end
mutual
def AV.subB{ty:Nat->Type}(i:Nat)(r:Nat->AV ty)(s:Nat->Nat->AV ty):AV ty->AV ty
 | .agg l=> .agg (AV.subBL i r s l)
 | .tup l=> .tup (AV.subBL i r s l)
 | .clo f l=> .clo f (AV.subBL i r s l)
 | .fb l o=> .fb (AV.subBL i r s l) o
 | .bx j o=>bif Nat.beq j i then r o else .bx j o
 | .sb j c k=>bif Nat.beq j i then s c k else .sb j c k
 | .rel j c x p o=> .rel j c x p o
 | .row j=> .row j
 | .rw j lo hi=> .rw j lo hi
 | .int k x=> .int k x
 | .bool b=> .bool b
 | .ob b=> .ob b
 | .lb c b=> .lb c b
 | .str l=> .str l
 | .val v=> .val v
 | .sl c xs=> .sl c xs
 | .el c x o=> .el c x o
 | .any=> .any
def AV.subBL{ty:Nat->Type}(i:Nat)(r:Nat->AV ty)(s:Nat->Nat->AV ty):List (AV ty)->List (AV ty)
 | []=> []
 |x::l=>AV.subB i r s x::AV.subBL i r s l
 end
def d8d{ty:Nat->Type}(i:Nat)(r:Nat->AV ty)(s:Nat->Nat->AV ty):AE ty->AE ty
 | []=> []
 |p::l=>(p.1,AV.subB i r s p.2)::d8d i r s l
def AO.subB{ty:Nat->Type}(i:Nat)(r:Nat->AV ty)(s:Nat->Nat->AV ty):AO ty->AO ty
 | .box T cs=> .box T (AV.subBL i r s cs)
 | .row e q c xs=> .row e q c xs
 | .gone=> .gone
 | .kbox j T cs=> .kbox j T (AV.subBL i r s cs)
 | .krow j e q c xs=> .krow j e q c xs
 | .mark=> .mark
def c9e{ty:Nat->Type}(i:Nat)(r:Nat->AV ty)(s:Nat->Nat->AV ty):List (AO ty)->List (AO ty)
 | []=> []
 |o::l=>o.subB i r s::c9e i r s l
section
variable{ty:Nat->Type}{rp:∀c,Rp (ty c)}{R R':List OE}{F F':Frz}
structure TurnB(rp:∀c,Rp (ty c))(i:Nat)(r:Nat->AV ty)(s:Nat->Nat->AV ty)(R:List OE)(F:Frz)(R':List OE)(F':Frz):Prop where
 le:F.le F'
 box:∀(j b:Nat)T(cs:List Value),j≠i->R[j]?=some (.box b T cs)->R'[j]?=some (.box b T cs)
 row:∀(j:Nat)e q a m n(xs:List Value),R[j]?=some (.row e q a m n xs)->R'[j]?=some (.row e q a m n xs)
 at1:∀o v,Conc rp R F (.bx i o) v->Conc rp R' F' (r o) v
 at2:∀c k v,Conc rp R F (.sb i c k) v->Conc rp R' F' (s c k) v
variable{i:Nat}{r:Nat->AV ty}{s:Nat->Nat->AV ty}
mutual
theorem Conc.subB(t:TurnB rp i r s R F R' F'):∀{x:AV ty}{v:Value},Conc rp R F x v->Conc rp R' F' (AV.subB i r s x) v
 | .int k x,v,h=>h
 | .bool b,v,h=>h
 | .ob b,v,h=>h
 | .lb c b,v,h=>h
 | .str l,v,h=>h
 | .val u,v,h=>h
 | .agg l,v,⟨cs,h1,h2⟩=>⟨cs,h1,ConcL.subB t h2⟩
 | .tup l,v,⟨cs,h1,h2⟩=>⟨cs,h1,ConcL.subB t h2⟩
 | .sl c xs,v,⟨a,m,n,h1,h2⟩=>⟨a,m,n,h1,h2.mono t.le⟩
 | .bx j o,v,h=>by
  unfold AV.subB
  cases hb:Nat.beq j i with
  |true=>obtain rfl:=Nat.eq_of_beq_eq_true hb;exact t.at1 o v h
  |false=>
   obtain⟨b,T,cs,h1,h2⟩:=h
   exact⟨b,T,cs,t.box j b T cs (Nat.ne_of_beq_eq_false hb) h1,h2⟩
 | .sb j c k,v,h=>by
  unfold AV.subB
  cases hb:Nat.beq j i with
  |true=>obtain rfl:=Nat.eq_of_beq_eq_true hb;exact t.at2 c k v h
  |false=>
   obtain⟨b,T,cs,h1,h2⟩:=h
   exact⟨b,T,cs,t.box j b T cs (Nat.ne_of_beq_eq_false hb) h1,h2⟩
 | .el c x o,v,⟨b,p,cs,h1,h2,h3⟩=>⟨b,p,cs,h1.mono t.le,(rp c).mono t.le h2,h3⟩
 | .row j,v,⟨e,q,a,m,n,xs,h1,h2⟩=>⟨e,q,a,m,n,xs,t.row j e q a m n xs h1,h2⟩
 | .rel j c x p o,v,⟨e,b,m,n,us,cs,h1,h2,h3,h4⟩=>⟨e,b,m,n,us,cs,t.row j e _ _ m n us h1,h2,(rp c).mono t.le h3,h4⟩
 | .rw j lo hi,v,⟨e,q,b,m,n,xs,h1,h2⟩=>⟨e,q,b,m,n,xs,t.row j e q _ m n xs h1,h2⟩
 | .any,v,_=>trivial
 | .clo f l,v,⟨cs,h1,h2⟩=>⟨cs,h1,ConcL.subB t h2⟩
 | .fb l o,v,⟨b,cs,h1,h2,h3⟩=>⟨b,cs,h1,h2.mono t.le,ConcL.subB t h3⟩
theorem ConcL.subB(t:TurnB rp i r s R F R' F'):∀{l:List (AV ty)}{cs:List Value},ConcL rp R F l cs->ConcL rp R' F' (AV.subBL i r s l) cs
 | [],_,h=>h
 |_::_,_,⟨v,k,h1,h2,h3⟩=>⟨v,k,h1,Conc.subB t h2,ConcL.subB t h3⟩
 end
theorem ConcE.subB(t:TurnB rp i r s R F R' F'):∀{l:AE ty}{m:Env},ConcE rp R F l m->ConcE rp R' F' (d8d i r s l) m
 | [],_,h=>h
 |_::_,_,⟨v,k,h1,h2,h3⟩=>⟨v,k,h1,Conc.subB t h2,ConcE.subB t h3⟩
theorem RelO.subB{K:Snap}(t:TurnB rp i r s R F R' F'){o:AO ty}{e:OE}(h:RelO rp K R F o e):RelO rp K R' F' (o.subB i r s) e:=by
 cases o with
 |box T cs=>obtain⟨b,us,h1,h2⟩:=h;exact⟨b,us,h1,h2.subB t⟩
 |row el q c xs=>obtain⟨a,m,n,us,h1,h2⟩:=h;exact⟨a,m,n,us,h1,h2.mono t.le⟩
 |gone=>trivial
 |kbox j T cs=>obtain⟨h0,b,us,h1,h2⟩:=h;exact⟨h0,b,us,h1,h2.subB t⟩
 |krow j el q c xs=>obtain⟨h0,a,m,n,us,h1,h2⟩:=h;exact⟨h0,a,m,n,us,h1,h2.mono t.le⟩
 |mark=>exact⟨h.1.trans t.le,h.2⟩
theorem c2a(i:Nat)(r:Nat->AV ty)(s:Nat->Nat->AV ty):∀H:List (AO ty),c9e i r s H=H.map (AO.subB i r s)
 | []=>rfl
 |o::l=>by rw [c9e,c2a i r s l];rfl
theorem RelH.subB{K:Snap}{H:List (AO ty)}{S:List OE}(t:TurnB rp i r s R F R' F')(h:RelH rp K R F H S):RelH rp K R' F' (c9e i r s H) S:=by
 refine⟨by rw [c2a];simpa using h.1,fun j o ho=> ?_⟩
 rw [c2a,List.getElem?_map]at ho
 obtain⟨o',h1,rfl⟩:=Option.map_eq_some_iff.1 ho
 obtain⟨e,h2,h3⟩:=h.2 j o' h1
 exact⟨e,h2,h3.subB t⟩
end
theorem d3c{F0 F:Frz}{w0 w:World}{X:List Nat}{O:List OE}(h:HS F0 w0 X F O w){i b:Nat}{t:TypeId}{cs:List Value}(hi:O[i]?=some (.box b t cs))(hge:w0.heap.size<=b):
 ∃F',F.le F'/\HS F0 w0 X F' (O.set i (.row 0 0 none 0 0 [])) w/\FC F' b 0 cs:=by
 obtain⟨hlt,hget⟩:=List.getElem?_eq_some_iff.1 hi
 have hperm:HS F0 w0 X F (.box b t cs::O.eraseIdx i) w:=by
  refine⟨h.sat,h.le,h.new,fun x hx=> ?_,fun x hx=> ?_,?_,h.os,h.tape,h.output,h.size,h.old⟩
  ·rcases List.mem_cons.1 hx with rfl|hx
   ·exact h.get hi
   ·exact h.own x ((List.eraseIdx_sublist O i).subset hx)
  ·rcases List.mem_cons.1 hx with rfl|hx
   ·exact h.sep _ (List.mem_of_getElem? hi)
   ·exact h.sep x ((List.eraseIdx_sublist O i).subset hx)
  ·refine List.pairwise_cons.2 ⟨fun x hx b hb1 hb2=> ?_,h.dis.sublist (List.eraseIdx_sublist O i)⟩
   obtain⟨j,hj,hne,hxj⟩:∃j,∃hj:j<O.length,j≠i/\O[j]=x:=by
    obtain⟨p,hp,rfl⟩:=List.mem_iff_getElem.1 hx
    rw [List.getElem_eraseIdx]
    have hp':p<O.length-1:=by rw [List.length_eraseIdx]at hp;simp [hlt]at hp;exact hp
    split
    ·exact⟨p,by omega,by omega,rfl⟩
    ·exact⟨p+1,by omega,by omega,rfl⟩
   have hp:=List.pairwise_iff_getElem.1 h.dis
   rcases Nat.lt_or_ge j i with h1|h1
   ·exact hp j i hj hlt h1 b (hxj▸hb2) (hget▸hb1)
   ·exact hp i j hlt hj (by omega) b (hget▸hb1) (hxj▸hb2)
 have hown:w.heap[b]?=some (.cells cs.toArray t (0,0)):=h.get hi
 have hsep:=hperm.sep _ (List.mem_cons_self ..) b rfl
 have hle:F.le (fun k=>if k=b then some (.cells cs.toArray t (0,0))else F k):=c2n hsep.1
 exact⟨_,hle,((hperm.freeze rfl rfl hge hown).nilRow 0 0).perm (c5f _ _ _ hlt),⟨cs.toArray,t,(0,0),by simp,by simp⟩⟩
section
variable{P:Program}{T:Tbl P}{n:Nat}{F0:Frz}{w0:World}{X:List Nat}{ρ:Type}{Q:Exit->Act->World->Prop}{Kz:Snap}
def anyS{ty:Nat->Type}:Nat->Nat->AV ty:=fun _ _=> .any
theorem e0q{R:List OE}{F:Frz}{w:World}(hS:HS F0 w0 X F R w)(hX:LX X R){i b:Nat}{t:TypeId}{cs:List Value}(hi:R[i]?=some (.box b t cs))(hx:X.length<=i):w0.heap.size<=b:=by
 rcases(hS.sep _ (List.mem_of_getElem? hi) b rfl).2 with h|h
 ·exact h
 ·exfalso
  obtain⟨j,hj0⟩:=List.mem_iff_getElem?.1 h
  obtain⟨t',cs',hj⟩:=hX j b hj0
  have hjl:=(List.getElem?_eq_some_iff.1 hj0).1
  obtain⟨hj1,hj2⟩:=List.getElem?_eq_some_iff.1 hj
  obtain⟨hlt,hget⟩:=List.getElem?_eq_some_iff.1 hi
  have hp:=List.pairwise_iff_getElem.1 hS.dis
  exact hp j i hj1 hlt (by omega) b (by rw [hj2];rfl) (by rw [hget];rfl)
theorem e3w{R:List OE}{F:Frz}{w:World}{H:List (AO T.ty)}{i:Nat}{t:TypeId}{cs:List (AV T.ty)}{r:Nat->AV T.ty}{s:Nat->Nat->AV T.ty}(hH:RelH T.rp Kz R F H R)(hS:HS F0 w0 X F R w)(hX:LG T X R F)(hi:H[i]?=some (.box t cs))(hp:a9a cs=true)(hx:X.length<=i)
 (h1:∀(R':List OE)(F':Frz)(b:Nat)(us:List Value),FC F' b 0 us->ConcL T.rp R' F' cs us->(∀o,Conc T.rp R' F' (r o) (.pointer (some ⟨b,o,none⟩)))/\∀c k,Conc T.rp R' F' (s c k) (.slice (some ⟨b,0,none⟩) k k)):
 ∃R' F',TurnB T.rp i r s R F R' F'/\RelH T.rp Kz R' F' ((c9e i r s H).set i .gone) R'/\HS F0 w0 X F' R' w/\LG T X R' F':=by
 obtain⟨en,g1,b,us,rfl,g2⟩:=hH.2 i _ hi
 obtain⟨hlt,hget⟩:=List.getElem?_eq_some_iff.1 g1
 obtain⟨F',hle,g3,g4⟩:=d3c hS g1 (e0q hS hX.1 g1 hx)
 have g5:=h1 (R.set i (.row 0 0 none 0 0 [])) F' b us g4 ((g2.mono (Keep.frz hle)).pure hp)
 have hT:TurnB T.rp i r s R F (R.set i (.row 0 0 none 0 0 [])) F':=by
  refine⟨hle,fun j b' t' us' hji hj=> ?_,fun j e q a m n xs hj=> ?_,fun o v hv=> ?_,fun c k v hv=> ?_⟩
  ·rw [List.getElem?_set,if_neg (fun e=>hji e.symm)];exact hj
  ·rw [List.getElem?_set,if_neg (fun e=>by subst e;rw [g1]at hj;cases hj)];exact hj
  ·obtain⟨b',t',us',h2,rfl⟩:=hv
   rw [g1]at h2;cases h2
   exact g5.1 o
  ·obtain⟨b',t',us',h2,rfl⟩:=hv
   rw [g1]at h2;cases h2
   exact g5.2 c k
 refine⟨_,F',hT,(hH.subB hT).set i trivial,g3,fun j b' hb=> ?_,T.glMono hle hX.2⟩
 obtain⟨t',cs',hj⟩:=hX.1 j b' hb
 have hjl:=(List.getElem?_eq_some_iff.1 hb).1
 exact⟨t',cs',by rw [List.getElem?_set,if_neg (by omega)];exact hj⟩
def evFz(i:Nat)(s:St T.ty):Option (St T.ty):=match s with
 |⟨.ops all l,k,e,H⟩=>match H[i]? with
  |some (.box _ cs)=>match a9a cs,putA i .gone (c9e i (fun o=> .fb cs o) anyS H)with
   |true,some H'=>some ⟨.ops all l,k,d8d i (fun o=> .fb cs o) anyS e,H'⟩
   |_,_=>none
  |_=>none
 |_=>none
theorem gFz(i:Nat){r:ρ}{m:Option ρ}{s s':St T.ty}(h:evFz i (rn T n s)=some s')(hx:Nat.ble X.length i=true)(g:G T Q n F0 w0 X Kz r m s'):G T Q n F0 w0 X Kz r m s:=fun hm=>by
 refine a7m ?_
 revert h
 generalize rn T n s=s2
 intro h
 unfold evFz at h
 split at h
 ·rename_i all l k e H
  split at h
  ·rename_i t cs hi
   split at h
   ·rename_i H' hp hput
    cases h
    intro R F mm w h1 h2 h3 hX
    obtain⟨R',F',hT,g1,g2,g3⟩:=e3w (r:=fun o=> .fb cs o) (s:=anyS) h2 h3 hX hi hp (Nat.le_of_ble_eq_true hx) (fun R' F' b us hc hl=>⟨fun o=>⟨b,us,rfl,hc,hl⟩,fun _ _=>trivial⟩)
    rw [<-b7d hput]at g1
    exact g hm R' F' mm w (h1.subB hT) g1 g2 g3
   ·cases h
  ·cases h
 ·cases h
def evMk(n:Nat)(s:St T.ty):Option (EV T.ty):=match s with
 |⟨.ops all (o::l),k,e,H⟩=>match a9g all e o.guard,o.dst,o.op with
  |true,some d,.makeSlice t (.tmp a) (.tmp b)=>match Nat.blt d n,Nat.beq a b,e.lookup a,T.app t with
   |true,true,some (.int _ N),some (el,q,by')=>match T.zero el,Nat.beq q (T.rp (T.cod t)).k with
    |some z,true=>match T.dec (T.cod t) (z.cells.toList.map ofC)with
     |some u=>some ⟨List (T.ty (T.cod t)),mks by' u N,fun v=>⟨.ops all l,k,(d,.row H.length)::e,snoc (.row el q (T.cod t) v) H⟩⟩
     |none=>none
    |_,_=>none
   |_,_,_,_=>none
  |_,_,_=>none
 |_=>none
theorem e3e{s:St T.ty}{q:EV T.ty}(hz:∀t z,T.zero t=some z->(P.info? t).map (·.zero)=some (some z))(h:evMk n s=some q)(v:q.α)(hv:q.x=some v)(k:Sm T Q n F0 w0 X Kz (q.nx v)):Sm T Q n F0 w0 X Kz s:=by
 unfold evMk at h
 split at h
 ·rename_i all o l its e H
  split at h
  ·rename_i d t a b hg hd ho
   split at h
   ·rename_i ik N el qq by' hn hab ha happ
    split at h
    ·rename_i z hz0 hqk
     split at h
     ·rename_i u hdec
      cases h
      dsimp only at hv k
      obtain rfl:=Nat.eq_of_beq_eq_true hab
      have hqk:=Nat.eq_of_beq_eq_true hqk
      intro R F m w h1 h2 h3 hX
      obtain⟨ua,g1,g2⟩:=h1.get ha
      simp only [Conc]at g2
      subst g2
      obtain⟨dst,op,type,pos,after,guard⟩:=o
      dsimp only at hg hd ho
      subst hd;subst ho
      refine d1e (r:=T.rp (T.cod t)) (T.appOk happ) (hz _ _ hz0) (fun F=>T.decOk (R:= []) hdec (concL_ofC _)) hqk (a3d h1 hg) hn h3 (show opv m (.tmp a)=_ from g1) (show opv m (.tmp a)=_ from g1) hv ?_
      intro b w' xs hS hR
      have hk:Keep R F (R++ [.row el qq (some ⟨b,0,none⟩) N.toNat N.toNat xs]) F:=Keep.more (Frz.refl F)
      refine k _ F _ w' ((h1.mono hk).put ⟨el,qq,some ⟨b,0,none⟩,_,_,xs,?_,rfl⟩) ?_ hS.addEnd (hX.keep hk)
      ·rw [h2.1];simp
      ·show RelH _ _ _ _ (snoc _ H) _
       rw [b4g]
       exact(h2.mono hk).add ⟨_,_,_,xs,rfl,hR⟩
     ·cases h
    ·cases h
   ·cases h
  ·cases h
 ·cases h
end
mutual
def AV.subR{ty:Nat->Type}(i:Nat):AV ty->AV ty
 | .agg l=> .agg (AV.subRL i l)
 | .tup l=> .tup (AV.subRL i l)
 | .clo f l=> .clo f (AV.subRL i l)
 | .fb l o=> .fb (AV.subRL i l) o
 | .rel j c x p o=>bif Nat.beq j i then .any else .rel j c x p o
 | .bx j o=> .bx j o
 | .sb j c k=> .sb j c k
 | .row j=> .row j
 | .rw j lo hi=> .rw j lo hi
 | .int k x=> .int k x
 | .bool b=> .bool b
 | .ob b=> .ob b
 | .lb c b=> .lb c b
 | .str l=> .str l
 | .val v=> .val v
 | .sl c xs=> .sl c xs
 | .el c x o=> .el c x o
 | .any=> .any
def AV.subRL{ty:Nat->Type}(i:Nat):List (AV ty)->List (AV ty)
 | []=> []
 |x::l=>AV.subR i x::AV.subRL i l
 end
def d5k{ty:Nat->Type}(i:Nat):AE ty->AE ty
 | []=> []
 |p::l=>(p.1,AV.subR i p.2)::d5k i l
def AO.subR{ty:Nat->Type}(i:Nat):AO ty->AO ty
 | .box T cs=> .box T (AV.subRL i cs)
 | .row e q c xs=> .row e q c xs
 | .gone=> .gone
 | .kbox j T cs=> .kbox j T (AV.subRL i cs)
 | .krow j e q c xs=> .krow j e q c xs
 | .mark=> .mark
def d0g{ty:Nat->Type}(i:Nat):List (AO ty)->List (AO ty)
 | []=> []
 |o::l=>o.subR i::d0g i l
section
variable{ty:Nat->Type}{rp:∀c,Rp (ty c)}{R R':List OE}{F F':Frz}
structure TurnR(i:Nat)(R:List OE)(F:Frz)(R':List OE)(F':Frz):Prop where
 le:F.le F'
 box:∀(j b:Nat)T(cs:List Value),R[j]?=some (.box b T cs)->∃cs':List Value,R'[j]?=some (.box b T cs')
 row:∀(j:Nat)e q a m n(xs:List Value),R[j]?=some (.row e q a m n xs)->∃xs':List Value,R'[j]?=some (.row e q a m n xs')
 rel:∀(j:Nat)e q a m n(xs:List Value),j≠i->R[j]?=some (.row e q a m n xs)->R'[j]?=some (.row e q a m n xs)
variable{i:Nat}
mutual
theorem Conc.subR(t:TurnR i R F R' F'):∀{x:AV ty}{v:Value},Conc rp R F x v->Conc rp R' F' (AV.subR i x) v
 | .int k x,v,h=>h
 | .bool b,v,h=>h
 | .ob b,v,h=>h
 | .lb c b,v,h=>h
 | .str l,v,h=>h
 | .val u,v,h=>h
 | .agg l,v,⟨cs,h1,h2⟩=>⟨cs,h1,ConcL.subR t h2⟩
 | .tup l,v,⟨cs,h1,h2⟩=>⟨cs,h1,ConcL.subR t h2⟩
 | .sl c xs,v,⟨a,m,n,h1,h2⟩=>⟨a,m,n,h1,h2.mono t.le⟩
 | .bx j o,v,⟨b,T,cs,h1,h2⟩=>by
  obtain⟨cs',h3⟩:=t.box j b T cs h1
  exact⟨b,T,cs',h3,h2⟩
 | .sb j c k,v,⟨b,T,cs,h1,h2⟩=>by
  obtain⟨cs',h3⟩:=t.box j b T cs h1
  exact⟨b,T,cs',h3,h2⟩
 | .el c x o,v,⟨b,p,cs,h1,h2,h3⟩=>⟨b,p,cs,h1.mono t.le,(rp c).mono t.le h2,h3⟩
 | .row j,v,⟨e,q,a,m,n,xs,h1,h2⟩=>by
  obtain⟨xs',h3⟩:=t.row j e q a m n xs h1
  exact⟨e,q,a,m,n,xs',h3,h2⟩
 | .rel j c x p o,v,h=>by
  unfold AV.subR
  cases hb:Nat.beq j i with
  |true=>trivial
  |false=>
   obtain⟨e,b,m,n,us,cs,h1,h2,h3,h4⟩:=h
   exact⟨e,b,m,n,us,cs,t.rel j e _ _ m n us (Nat.ne_of_beq_eq_false hb) h1,h2,(rp c).mono t.le h3,h4⟩
 | .rw j lo hi,v,⟨e,q,b,m,n,xs,h1,h2⟩=>by
  obtain⟨xs',h3⟩:=t.row j e q _ m n xs h1
  exact⟨e,q,b,m,n,xs',h3,h2⟩
 | .any,v,_=>trivial
 | .clo f l,v,⟨cs,h1,h2⟩=>⟨cs,h1,ConcL.subR t h2⟩
 | .fb l o,v,⟨b,cs,h1,h2,h3⟩=>⟨b,cs,h1,h2.mono t.le,ConcL.subR t h3⟩
theorem ConcL.subR(t:TurnR i R F R' F'):∀{l:List (AV ty)}{cs:List Value},ConcL rp R F l cs->ConcL rp R' F' (AV.subRL i l) cs
 | [],_,h=>h
 |_::_,_,⟨v,k,h1,h2,h3⟩=>⟨v,k,h1,Conc.subR t h2,ConcL.subR t h3⟩
 end
theorem ConcE.subR(t:TurnR i R F R' F'):∀{l:AE ty}{m:Env},ConcE rp R F l m->ConcE rp R' F' (d5k i l) m
 | [],_,h=>h
 |_::_,_,⟨v,k,h1,h2,h3⟩=>⟨v,k,h1,Conc.subR t h2,ConcE.subR t h3⟩
theorem RelO.subR{K:Snap}(t:TurnR i R F R' F'){o:AO ty}{e:OE}(h:RelO rp K R F o e):RelO rp K R' F' (o.subR i) e:=by
 cases o with
 |box T cs=>obtain⟨b,us,h1,h2⟩:=h;exact⟨b,us,h1,h2.subR t⟩
 |row el q c xs=>obtain⟨a,m,n,us,h1,h2⟩:=h;exact⟨a,m,n,us,h1,h2.mono t.le⟩
 |gone=>trivial
 |kbox j T cs=>obtain⟨h0,b,us,h1,h2⟩:=h;exact⟨h0,b,us,h1,h2.subR t⟩
 |krow j el q c xs=>obtain⟨h0,a,m,n,us,h1,h2⟩:=h;exact⟨h0,a,m,n,us,h1,h2.mono t.le⟩
 |mark=>exact⟨h.1.trans t.le,h.2⟩
theorem c3n(i:Nat):∀H:List (AO ty),d0g i H=H.map (AO.subR i)
 | []=>rfl
 |o::l=>by rw [d0g,c3n i l];rfl
theorem RelH.subR{K:Snap}{H:List (AO ty)}{S:List OE}(t:TurnR i R F R' F')(h:RelH rp K R F H S):RelH rp K R' F' (d0g i H) S:=by
 refine⟨by rw [c3n];simpa using h.1,fun j o ho=> ?_⟩
 rw [c3n,List.getElem?_map]at ho
 obtain⟨o',h1,rfl⟩:=Option.map_eq_some_iff.1 ho
 obtain⟨e,h2,h3⟩:=h.2 j o' h1
 exact⟨e,h2,h3.subR t⟩
end
structure WV(ty:Nat->Type)where
 α:Type
 xs:List α
 j:Nat
 u:α
 nx:List α->St ty
section
variable{P:Program}{T:Tbl P}{n:Nat}{F0:Frz}{w0:World}{X:List Nat}{ρ:Type}{Q:Exit->Act->World->Prop}{Kz:Snap}
def evW(s:St T.ty):Option (WV T.ty):=match s with
 |⟨.ops all (o::l),k,e,H⟩=>match a9g all e o.guard,o.dst,o.op with
  |true,none,.store t x y=>match opA e x,opA e y,T.size t with
   |some (.rel i c x0 j oo),some z,some m=>match H[i]?,c4u z with
    |some (.row el q c' xs),some zl=>match c9x c' c xs,Nat.beq zl.length m,Nat.beq q (T.rp c).k,setA oo zl (T.en c x0)with
     |some xs',true,true,some cs'=>match T.dec c cs' with
      |some u=>some ⟨T.ty c,xs',j,u,fun v=>⟨.ops all l,k,d5k i e,(d0g i H).set i (.row el q c v)⟩⟩
      |none=>none
     |_,_,_,_=>none
    |_,_=>none
   |_,_,_=>none
  |_,_,_=>none
 |_=>none
theorem e5h{s:St T.ty}{q:WV T.ty}(h:evW s=some q){z:Int}(hz:z.toNat=q.j){v:List q.α}(hv:lset q.xs z q.u=some v)(k:Sm T Q n F0 w0 X Kz (q.nx v)):Sm T Q n F0 w0 X Kz s:=by
 unfold evW at h
 split at h
 ·rename_i all o l its e H
  split at h
  ·rename_i t x y hg hd ho
   split at h
   ·rename_i i c x0 j oo zz m hx hy hS
    split at h
    ·rename_i el qq c' xs zl hi hcell
     split at h
     ·rename_i xs' cs' hcast hlen hqk hset
      split at h
      ·rename_i u hdec
       cases h
       dsimp only at hz hv k
       obtain⟨e1,e2⟩:=b8d hcast
       subst e1
       have e2:xs'=xs:=e2
       subst e2
       have hqk:=Nat.eq_of_beq_eq_true hqk
       subst hqk
       have hlen:=Nat.eq_of_beq_eq_true hlen
       intro R F mm w h1 h2 h3 hX
       obtain⟨ux,g1,e3,b,m',n',us,cs,g2,g3,g4,g5⟩:=a1b h1 hx
       subst g5
       obtain⟨uy,y1,y2⟩:=a1b h1 hy
       obtain⟨c1,c2⟩:=b8y hcell y2
       obtain⟨en,k1,a2,m2,n2,us2,rfl,k2⟩:=h2.2 i _ hi
       rw [g2]at k1;cases k1
       obtain⟨s1,s2⟩:=c3c hset
       have henc:=T.enOk R g4
       have hel:=henc.len
       have hcl:=c1.len
       have hnew:ConcL T.rp R F cs' (cs.take oo++uy.cells.toList++cs.drop (oo+m)):=by
        rw [s2,<-hlen]
        exact((henc.take oo).app c1).app (henc.drop _)
       obtain⟨dst,op,type,pos,after,guard⟩:=o
       dsimp only at hg hd ho
       subst hd;subst ho
       subst hz
       refine d2i (r:=T.rp c') (j:=oo) (p:=i) (a:=some ⟨b,0,none⟩) (base:=0) (o:=z.toNat*(T.rp c').k) (cs:=cs) (T.sizeOk hS) (a3d h1 hg) h3 g1 y1 (by rw [<-hlen,<-hcl];simp) (List.all_eq_true.2 c2) g2 rfl rfl (by simp) g3 k2 rfl (Nat.ble_eq_true_of_le (by rw [hel,<-hlen];exact s1)) ((T.rp c').len g4) (T.decOk hdec hnew) hv ?_
       intro w' xs2 hS' hR' _
       have hlt:=(List.getElem?_eq_some_iff.1 g2).1
       have hT:TurnR i R F (R.set i ((OE.row el (T.rp c').k (some ⟨b,0,none⟩) m' n' us).withCells xs2)) F:=by
        refine⟨Frz.refl F,fun j2 b2 t2 cs2 hj=>⟨cs2,?_⟩,fun j2 e4 q2 a2 m2 n2 ys hj=> ?_,fun j2 e4 q2 a2 m2 n2 ys hne hj=> ?_⟩
        ·rw [List.getElem?_set,if_neg (fun e=>by subst e;rw [g2]at hj;cases hj)];exact hj
        ·rw [List.getElem?_set]
         by_cases hij:i=j2
         ·subst hij;rw [g2]at hj;cases hj
          rw [if_pos rfl,if_pos hlt];exact⟨xs2,rfl⟩
         ·rw [if_neg hij];exact⟨ys,hj⟩
        ·rw [List.getElem?_set,if_neg (fun e=>hne e.symm)];exact hj
       refine k _ F mm w' (h1.subR hT) ((h2.subR hT).set i ⟨_,_,_,xs2,rfl,hR'⟩) hS' ⟨fun j2 b2 hb=> ?_,hX.2⟩
       obtain⟨t2,cs2,h5⟩:=hX.1 j2 b2 hb
       obtain⟨cs3,h6⟩:=hT.box j2 b2 t2 cs2 h5
       exact⟨t2,cs3,h6⟩
      ·cases h
     ·cases h
    ·cases h
   ·cases h
  ·cases h
 ·cases h
theorem gMk{r:ρ}{α:Type}{x:Option α}{g:α->Option ρ}{nx:α->St T.ty}{s:St T.ty}(hz:∀t z,T.zero t=some z->(P.info? t).map (·.zero)=some (some z))(h:evMk n (rn T n s)=some ⟨α,x,nx⟩)
 (k:∀v,G T Q n F0 w0 X Kz r (g v) (nx v)):G T Q n F0 w0 X Kz r (x.bind g) s:=fun hm=>by
 obtain⟨v,hv,hm⟩:=bind_some hm
 exact a7m (e3e hz h v hv (k v hm))
theorem gW{r:ρ}{α:Type}{j:Nat}{xs:List α}{z:Int}{u:α}{g:List α->Option ρ}{nx:List α->St T.ty}{s:St T.ty}(h:evW (rn T n s)=some ⟨α,xs,j,u,nx⟩)(hz:z.toNat=j)
 (k:∀v,G T Q n F0 w0 X Kz r (g v) (nx v)):G T Q n F0 w0 X Kz r ((lset xs z u).bind g) s:=fun hm=>by
 obtain⟨v,hv,hm⟩:=bind_some hm
 exact a7m (e5h h hz hv (k v hm))
end
section
variable{P:Program}{T:Tbl P}{n:Nat}{F0:Frz}{w0:World}{X:List Nat}{ρ:Type}{Q:Exit->Act->World->Prop}{Kz:Snap}
theorem gNo{r:ρ}{s:St T.ty}:G T Q n F0 w0 X Kz r none s:=fun h=>by cases h
def boxL{ty:Nat->Type}:List (AV ty)->Option Nat
 | []=>none
 | .bx i _::_=>some i
 |_::l=>boxL l
def evFc(s:St T.ty):Option Nat:=match s with
 |⟨.ops _ (o::_),_,e,_⟩=>match o.op with
  | .call ⟨.value _,args,_⟩=>match opL e args.toList with
    |some az=>match d3q az with
     |some (_,.clo _ l)=>boxL l
     |_=>none
    |none=>none
  |_=>none
 |_=>none
def evFd(s:St T.ty):Option (Nat×St T.ty):=match evFc s with
 |some i=>match evFz i s with
  |some s'=>some (i,s')
  |none=>none
 |none=>none
theorem gFc{r:ρ}{m:Option ρ}{s s':St T.ty}{i:Nat}(h:evFd (rn T n s)=some (i,s'))(hx:Nat.ble X.length i=true)(g:G T Q n F0 w0 X Kz r m s'):G T Q n F0 w0 X Kz r m s:=by
 refine gFz i (s':=s') ?_ hx g
 unfold evFd at h
 split at h
 ·split at h
  ·rename_i h2;cases h;exact h2
  ·cases h
 ·cases h
end
section
variable{P:Program}{T:Tbl P}{n:Nat}{F0:Frz}{w0:World}{X:List Nat}{ρ:Type}{Q:Exit->Act->World->Prop}{Kz:Snap}
def evZ(s:St T.ty):Option (St T.ty):=match s with
 |⟨.ops all (o::l),k,e,H⟩=>match o.op with
  | .buildSlice _ _ ps=>match opL e (ps.toList.map (·.2))with
    |some az=>match rowL az with
     |some _=>match frzW T (H.length+1) az e H with
      |some (_,e',H')=>some ⟨.ops all (o::l),k,e',H'⟩
      |none=>none
     |none=>none
    |none=>none
  |_=>none
 |_=>none
theorem gZ{r:ρ}{m:Option ρ}{s s':St T.ty}(h:evZ (rn T n s)=some s')(g:G T Q n F0 w0 X Kz r m s'):G T Q n F0 w0 X Kz r m s:=fun hm=>by
 refine a7m ?_
 revert h
 generalize rn T n s=s2
 intro h
 unfold evZ at h
 split at h
 ·rename_i all o l k e H
  split at h
  ·split at h
   ·rename_i az hl
    split at h
    ·split at h
     ·rename_i as' e' H' hz
      cases h
      intro R F mm w h1 h2 h3 hX
      obtain⟨us,g1,g2⟩:=c0a h1 hl
      obtain⟨R',F',k1,k2,k3,k4,k5,k6⟩:=b0t hz h1 h2 h3 hX g2
      exact g hm R' F' mm w k2 k3 k4 k5
     ·cases h
    ·cases h
   ·cases h
  ·cases h
 ·cases h
end
section
variable{P:Program}{T:Tbl P}{n:Nat}{F0:Frz}{w0:World}{X:List Nat}{ρ:Type}{Q:Exit->Act->World->Prop}{Kz:Snap}
def calm:Ctl->Bool
 | .code _=>true
 | .ops _ _=>true
 | .out _=>true
 |_=>false
theorem c9i{R R':List OE}{F F':Frz}{c:Ctl}{k:List It}{m:Env}{w:World}(h:calm c=true):GW P Q n F0 w0 X Kz R F c k m w->GW P Q n F0 w0 X Kz R' F' c k m w:=by
 cases c<;>first|exact id|cases h
def evFr(t:Nat)(s:St T.ty):Option (St T.ty):=match s with
 |⟨c,k,e,H⟩=>match calm c,e.lookup t with
  |true,some x=>match rowA x with
   |some _=>match frzW T (H.length+1) [x] e H with
    |some (_,e',H')=>some ⟨c,k,e',H'⟩
    |none=>none
   |none=>none
  |_,_=>none
theorem gFr(t:Nat){r:ρ}{m:Option ρ}{s s':St T.ty}(h:evFr t (rn T n s)=some s')(g:G T Q n F0 w0 X Kz r m s'):G T Q n F0 w0 X Kz r m s:=fun hm=>by
 refine a7m ?_
 revert h
 generalize rn T n s=s2
 intro h
 unfold evFr at h
 split at h
 rename_i c k e H
 split at h
 ·rename_i x hc hx
  split at h
  ·split at h
   ·rename_i as' e' H' hz
    cases h
    intro R F mm w h1 h2 h3 hX
    obtain⟨u,u1,u2⟩:=h1.get hx
    obtain⟨R',F',k1,k2,k3,k4,k5,k6⟩:=b0t (us:= [u]) hz h1 h2 h3 hX ⟨u,[],rfl,u2,rfl⟩
    exact c9i hc (g hm R' F' mm w k2 k3 k4 k5)
   ·cases h
  ·cases h
 ·cases h
end
theorem frzO{F F':Frz}{w w':World}{O:List OE}{α:Type}{r:Rp α}{e:TypeId}{q m c:Nat}{a:Option Addr}{xs:List Value}{ts:List α}(h:HS F w [] F' (.row e q a m c xs::O) w')(hr:RowN r F' m xs ts):∃F2,F'.le F2/\HS F w [] F2 O w'/\SlR r F2 a m c ts:=
 b9t (i:=0) h rfl hr (fun gb hb=>by
  rcases(h.sep _ (List.mem_cons_self ..) gb hb).2 with h1|h1
  ·exact h1
  ·cases h1)
end Go.Proofs.YthaegflpecbfgaaGreatDoor.Rt
namespace Go.Proofs.YthaegflpecbfgaaGreatDoor.M
open Go Go.RowKit Rt
set_option maxRecDepth 100000
set_option maxHeartbeats 4000000
def wty:Nat->Type
 |0=>Expr
 |1=>Bs
 |2=>Int
 |3=>Frac
 |4=>(List Affine)
 |5=>Affine
 |6=>(List Int)
 |7=>Token
 |8=>Result
 |9=>(List (List Affine))
 |10=>Int
 |_=>Unit
def wrp:∀c,Rp (wty c)
 |0=>rp_Expr
 |1=>Rp.str
 |2=>Rp.int .i64
 |3=>rp_Frac
 |4=>Rp.sl rp_Affine
 |5=>rp_Affine
 |6=>Rp.sl (Rp.int .i64)
 |7=>rp_Token
 |8=>rp_Result
 |9=>Rp.sl (Rp.sl rp_Affine)
 |10=>Rp.int .u8
 |_+11=>Rp.unit
def wen:∀c,wty c->List (AV wty)
 |0,x=> [.int .i64 x.Op,.int .i64 x.N,.str x.Name,.sl 0 x.Args]
 |1,x=> [.str x]
 |2,x=> [.int .i64 x]
 |3,x=> [.int .i64 x.P.Sign,.sl 2 x.P.Digits,.int .i64 x.Q.Sign,.sl 2 x.Q.Digits]
 |4,x=> [.sl 5 x]
 |5,x=> [.int .i64 x.Const.P.Sign,.sl 2 x.Const.P.Digits,.int .i64 x.Const.Q.Sign,.sl 2 x.Const.Q.Digits,.sl 3 x.Coefs]
 |6,x=> [.sl 2 x]
 |7,x=> [.int .i64 x.Kind,.str x.Text,.int .i64 x.N,.int .i64 x.Pos]
 |8,x=> [.int .i64 x.N.P.Sign,.sl 2 x.N.P.Digits,.int .i64 x.N.Q.Sign,.sl 2 x.N.Q.Digits,.ob x.Is]
 |9,x=> [.sl 4 x]
 |10,x=> [.int .u8 x]
 |_+11,_=> []
def dec0:List (AV wty)->Option (wty 0)
 | [.int .i64 x0,.int .i64 x1,.str x2,y3]=>match slOf 0 y3 with
   |some x3=>(some ⟨x0,x1,x2,x3⟩)
   |none=>none
 |_=>none
def dec1:List (AV wty)->Option (wty 1)
 | [.str x0]=>some x0
 |_=>none
def dec2:List (AV wty)->Option (wty 2)
 | [.int .i64 x0]=>some x0
 |_=>none
def dec3:List (AV wty)->Option (wty 3)
 | [.int .i64 x0,y1,.int .i64 x2,y3]=>match slOf 2 y1 with
   |some x1=>(match slOf 2 y3 with
   |some x3=>(some ⟨⟨x0,x1⟩,⟨x2,x3⟩⟩)
   |none=>none)
   |none=>none
 |_=>none
def dec4:List (AV wty)->Option (wty 4)
 | [y0]=>match slOf 5 y0 with
   |some x0=>(some x0)
   |none=>none
 |_=>none
def dec5:List (AV wty)->Option (wty 5)
 | [.int .i64 x0,y1,.int .i64 x2,y3,y4]=>match slOf 2 y1 with
   |some x1=>(match slOf 2 y3 with
   |some x3=>(match slOf 3 y4 with
   |some x4=>(some ⟨⟨⟨x0,x1⟩,⟨x2,x3⟩⟩,x4⟩)
   |none=>none)
   |none=>none)
   |none=>none
 |_=>none
def dec6:List (AV wty)->Option (wty 6)
 | [y0]=>match slOf 2 y0 with
   |some x0=>(some x0)
   |none=>none
 |_=>none
def dec7:List (AV wty)->Option (wty 7)
 | [.int .i64 x0,.str x1,.int .i64 x2,.int .i64 x3]=>some ⟨x0,x1,x2,x3⟩
 |_=>none
def dec8:List (AV wty)->Option (wty 8)
 | [.int .i64 x0,y1,.int .i64 x2,y3,y4]=>match slOf 2 y1 with
   |some x1=>(match slOf 2 y3 with
   |some x3=>(match c8i y4 with
   |some x4=>(some ⟨⟨⟨x0,x1⟩,⟨x2,x3⟩⟩,x4⟩)
   |none=>none)
   |none=>none)
   |none=>none
 |_=>none
def dec9:List (AV wty)->Option (wty 9)
 | [y0]=>match slOf 4 y0 with
   |some x0=>(some x0)
   |none=>none
 |_=>none
def dec10:List (AV wty)->Option (wty 10)
 | [.int .u8 x0]=>some x0
 |_=>none
def wdec:∀c,List (AV wty)->Option (wty c)
 |0,l=>dec0 l
 |1,l=>dec1 l
 |2,l=>dec2 l
 |3,l=>dec3 l
 |4,l=>dec4 l
 |5,l=>dec5 l
 |6,l=>dec6 l
 |7,l=>dec7 l
 |8,l=>dec8 l
 |9,l=>dec9 l
 |10,l=>dec10 l
 |_+11,_=>none
theorem e5x(R:List OE):∀{F:Frz}{c:Nat}{cs:List Value}{x:wty c},(wrp c).R F cs x->ConcL wrp R F (wen c x) cs
 |F,0,cs,x,h0=>by
  obtain⟨_,_,_,h,hs3⟩:=(a6j.1 h0)
  exact⟨_,_,h,rfl,_,_,rfl,rfl,_,_,rfl,rfl,_,_,rfl,⟨_,_,_,rfl,hs3⟩,rfl⟩
 |F,1,cs,x,h=>⟨_,_,h,rfl,rfl⟩
 |F,2,cs,x,h=>⟨_,_,h,rfl,rfl⟩
 |F,3,cs,x,⟨_,_,_,_,_,_,h,hs1,hs3⟩=>⟨_,_,h,rfl,_,_,rfl,⟨_,_,_,rfl,hs1⟩,_,_,rfl,rfl,_,_,rfl,⟨_,_,_,rfl,hs3⟩,rfl⟩
 |F,4,cs,x,⟨_,_,_,h,hs0⟩=>⟨_,_,h,⟨_,_,_,rfl,hs0⟩,rfl⟩
 |F,5,cs,x,⟨_,_,_,_,_,_,_,_,_,h,hs1,hs3,hs4⟩=>⟨_,_,h,rfl,_,_,rfl,⟨_,_,_,rfl,hs1⟩,_,_,rfl,rfl,_,_,rfl,⟨_,_,_,rfl,hs3⟩,_,_,rfl,⟨_,_,_,rfl,hs4⟩,rfl⟩
 |F,6,cs,x,⟨_,_,_,h,hs0⟩=>⟨_,_,h,⟨_,_,_,rfl,hs0⟩,rfl⟩
 |F,7,cs,x,h=>⟨_,_,h,rfl,_,_,rfl,rfl,_,_,rfl,rfl,_,_,rfl,rfl,rfl⟩
 |F,8,cs,x,⟨_,_,_,_,_,_,h,hs1,hs3⟩=>⟨_,_,h,rfl,_,_,rfl,⟨_,_,_,rfl,hs1⟩,_,_,rfl,rfl,_,_,rfl,⟨_,_,_,rfl,hs3⟩,_,_,rfl,rfl,rfl⟩
 |F,9,cs,x,⟨_,_,_,h,hs0⟩=>⟨_,_,h,⟨_,_,_,rfl,hs0⟩,rfl⟩
 |F,10,cs,x,h=>⟨_,_,h,rfl,rfl⟩
 |F,_+11,cs,x,h=>h
theorem wdecOk:∀{R:List OE}{F:Frz}{c:Nat}{l:List (AV wty)}{cs:List Value}{x:wty c},wdec c l=some x->ConcL wrp R F l cs->(wrp c).R F cs x
 |R,F,0,l,cs,x,h,hc=>by
  have h:dec0 l=some x:=h
  unfold dec0 at h
  split at h
  ·split at h
   rotate_left
   ·cases h
   rename_i e3
   cases h
   obtain⟨v0,_,rfl,h0,⟨v1,_,rfl,h1,⟨v2,_,rfl,h2,⟨v3,_,rfl,h3,rfl⟩⟩⟩⟩:=hc
   simp only [Conc]at h0
   subst h0
   simp only [Conc]at h1
   subst h1
   simp only [Conc]at h2
   subst h2
   obtain⟨_,_,_,rfl,hs3⟩:=b1f e3 h3
   exact(a6j.2 ⟨_,_,_,rfl,hs3⟩)
  ·cases h
 |R,F,1,l,cs,x,h,hc=>by
  have h:dec1 l=some x:=h
  unfold dec1 at h
  split at h
  ·cases h
   obtain⟨v0,_,rfl,h0,rfl⟩:=hc
   simp only [Conc]at h0
   subst h0
   exact rfl
  ·cases h
 |R,F,2,l,cs,x,h,hc=>by
  have h:dec2 l=some x:=h
  unfold dec2 at h
  split at h
  ·cases h
   obtain⟨v0,_,rfl,h0,rfl⟩:=hc
   simp only [Conc]at h0
   subst h0
   exact rfl
  ·cases h
 |R,F,3,l,cs,x,h,hc=>by
  have h:dec3 l=some x:=h
  unfold dec3 at h
  split at h
  ·split at h
   rotate_left
   ·cases h
   rename_i e1
   split at h
   rotate_left
   ·cases h
   rename_i e3
   cases h
   obtain⟨v0,_,rfl,h0,⟨v1,_,rfl,h1,⟨v2,_,rfl,h2,⟨v3,_,rfl,h3,rfl⟩⟩⟩⟩:=hc
   simp only [Conc]at h0
   subst h0
   obtain⟨_,_,_,rfl,hs1⟩:=b1f e1 h1
   simp only [Conc]at h2
   subst h2
   obtain⟨_,_,_,rfl,hs3⟩:=b1f e3 h3
   exact⟨_,_,_,_,_,_,rfl,hs1,hs3⟩
  ·cases h
 |R,F,4,l,cs,x,h,hc=>by
  have h:dec4 l=some x:=h
  unfold dec4 at h
  split at h
  ·split at h
   rotate_left
   ·cases h
   rename_i e0
   cases h
   obtain⟨v0,_,rfl,h0,rfl⟩:=hc
   obtain⟨_,_,_,rfl,hs0⟩:=b1f e0 h0
   exact⟨_,_,_,rfl,hs0⟩
  ·cases h
 |R,F,5,l,cs,x,h,hc=>by
  have h:dec5 l=some x:=h
  unfold dec5 at h
  split at h
  ·split at h
   rotate_left
   ·cases h
   rename_i e1
   split at h
   rotate_left
   ·cases h
   rename_i e3
   split at h
   rotate_left
   ·cases h
   rename_i e4
   cases h
   obtain⟨v0,_,rfl,h0,⟨v1,_,rfl,h1,⟨v2,_,rfl,h2,⟨v3,_,rfl,h3,⟨v4,_,rfl,h4,rfl⟩⟩⟩⟩⟩:=hc
   simp only [Conc]at h0
   subst h0
   obtain⟨_,_,_,rfl,hs1⟩:=b1f e1 h1
   simp only [Conc]at h2
   subst h2
   obtain⟨_,_,_,rfl,hs3⟩:=b1f e3 h3
   obtain⟨_,_,_,rfl,hs4⟩:=b1f e4 h4
   exact⟨_,_,_,_,_,_,_,_,_,rfl,hs1,hs3,hs4⟩
  ·cases h
 |R,F,6,l,cs,x,h,hc=>by
  have h:dec6 l=some x:=h
  unfold dec6 at h
  split at h
  ·split at h
   rotate_left
   ·cases h
   rename_i e0
   cases h
   obtain⟨v0,_,rfl,h0,rfl⟩:=hc
   obtain⟨_,_,_,rfl,hs0⟩:=b1f e0 h0
   exact⟨_,_,_,rfl,hs0⟩
  ·cases h
 |R,F,7,l,cs,x,h,hc=>by
  have h:dec7 l=some x:=h
  unfold dec7 at h
  split at h
  ·cases h
   obtain⟨v0,_,rfl,h0,⟨v1,_,rfl,h1,⟨v2,_,rfl,h2,⟨v3,_,rfl,h3,rfl⟩⟩⟩⟩:=hc
   simp only [Conc]at h0
   subst h0
   simp only [Conc]at h1
   subst h1
   simp only [Conc]at h2
   subst h2
   simp only [Conc]at h3
   subst h3
   exact rfl
  ·cases h
 |R,F,8,l,cs,x,h,hc=>by
  have h:dec8 l=some x:=h
  unfold dec8 at h
  split at h
  ·split at h
   rotate_left
   ·cases h
   rename_i e1
   split at h
   rotate_left
   ·cases h
   rename_i e3
   split at h
   rotate_left
   ·cases h
   rename_i e4
   cases h
   obtain⟨v0,_,rfl,h0,⟨v1,_,rfl,h1,⟨v2,_,rfl,h2,⟨v3,_,rfl,h3,⟨v4,_,rfl,h4,rfl⟩⟩⟩⟩⟩:=hc
   simp only [Conc]at h0
   subst h0
   obtain⟨_,_,_,rfl,hs1⟩:=b1f e1 h1
   simp only [Conc]at h2
   subst h2
   obtain⟨_,_,_,rfl,hs3⟩:=b1f e3 h3
   have h4:=c2u e4 h4
   subst h4
   exact⟨_,_,_,_,_,_,rfl,hs1,hs3⟩
  ·cases h
 |R,F,9,l,cs,x,h,hc=>by
  have h:dec9 l=some x:=h
  unfold dec9 at h
  split at h
  ·split at h
   rotate_left
   ·cases h
   rename_i e0
   cases h
   obtain⟨v0,_,rfl,h0,rfl⟩:=hc
   obtain⟨_,_,_,rfl,hs0⟩:=b1f e0 h0
   exact⟨_,_,_,rfl,hs0⟩
  ·cases h
 |R,F,10,l,cs,x,h,hc=>by
  have h:dec10 l=some x:=h
  unfold dec10 at h
  split at h
  ·cases h
   obtain⟨v0,_,rfl,h0,rfl⟩:=hc
   simp only [Conc]at h0
   subst h0
   exact rfl
  ·cases h
 |R,F,_+11,l,cs,x,h,hc=>by cases h
def wund:TypeId->Option TypeDesc
 |2=>some (.int .i64)
 |3=>some (.int .i64)
 |4=>some .bool
 |5=>some (.int .u8)
 |6=>some (.int .u8)
 |9=>some .string
 |10=>some .string
 |11=>some .string
 |12=>some (.int .u64)
 |21=>some (.int .i32)
 |22=>some (.slice 24)
 |27=>some (.slice 9)
 |28=>some (.slice 3)
 |31=>some (.slice 44)
 |32=>some (.slice 57)
 |38=>some (.int .i64)
 |57=>some (.slice 62)
 |73=>some (.slice 28)
 |105=>some (.int .u64)
 |144=>some (.slice 152)
 |156=>some (.int .u32)
 |159=>some (.int .u64)
 |170=>some (.slice 116)
 |198=>some (.slice 32)
 |211=>some (.array 13 5)
 |213=>some (.slice 5)
 |217=>some (.array 0 16)
 |221=>some (.int .u8)
 |222=>some (.int .u8)
 |225=>some (.int .i32)
 |_=>none
def wagg:TypeId->Option Bool
 |2=>some false
 |3=>some false
 |4=>some false
 |5=>some false
 |6=>some false
 |7=>some true
 |8=>some true
 |9=>some false
 |10=>some false
 |11=>some false
 |12=>some false
 |13=>some true
 |14=>some true
 |18=>some true
 |19=>some true
 |21=>some false
 |22=>some false
 |23=>some true
 |24=>some true
 |25=>some true
 |26=>some true
 |27=>some false
 |28=>some false
 |29=>some true
 |30=>some true
 |31=>some false
 |32=>some false
 |33=>some true
 |34=>some true
 |38=>some false
 |41=>some true
 |42=>some true
 |43=>some true
 |44=>some true
 |57=>some false
 |61=>some true
 |62=>some true
 |73=>some false
 |76=>some true
 |77=>some true
 |89=>some true
 |90=>some true
 |105=>some false
 |115=>some true
 |116=>some true
 |144=>some false
 |148=>some true
 |149=>some true
 |151=>some true
 |152=>some true
 |156=>some false
 |159=>some false
 |170=>some false
 |198=>some false
 |211=>some true
 |213=>some false
 |215=>some true
 |216=>some true
 |217=>some true
 |218=>some true
 |219=>some true
 |221=>some false
 |222=>some false
 |225=>some false
 |1=>some false
 |35=>some false
 |36=>some false
 |37=>some false
 |40=>some false
 |46=>some false
 |47=>some false
 |48=>some false
 |49=>some false
 |51=>some false
 |52=>some false
 |53=>some false
 |54=>some false
 |55=>some false
 |56=>some false
 |58=>some false
 |59=>some false
 |60=>some false
 |63=>some false
 |64=>some false
 |65=>some false
 |66=>some false
 |67=>some false
 |69=>some false
 |70=>some false
 |71=>some false
 |72=>some false
 |74=>some false
 |78=>some false
 |79=>some false
 |80=>some false
 |81=>some false
 |82=>some false
 |83=>some false
 |84=>some false
 |85=>some false
 |86=>some false
 |87=>some false
 |88=>some false
 |91=>some false
 |92=>some false
 |93=>some false
 |94=>some false
 |95=>some false
 |96=>some false
 |98=>some false
 |99=>some false
 |100=>some false
 |101=>some false
 |102=>some false
 |104=>some false
 |107=>some false
 |108=>some false
 |109=>some false
 |110=>some false
 |111=>some false
 |112=>some false
 |113=>some false
 |114=>some false
 |117=>some false
 |118=>some false
 |119=>some false
 |120=>some false
 |121=>some false
 |122=>some false
 |123=>some false
 |124=>some false
 |125=>some false
 |126=>some false
 |127=>some false
 |128=>some false
 |129=>some false
 |130=>some false
 |131=>some false
 |132=>some false
 |133=>some false
 |134=>some false
 |135=>some false
 |136=>some false
 |137=>some false
 |138=>some false
 |139=>some false
 |141=>some false
 |142=>some false
 |146=>some false
 |150=>some false
 |153=>some false
 |154=>some false
 |155=>some false
 |158=>some false
 |161=>some false
 |162=>some false
 |163=>some false
 |164=>some false
 |165=>some false
 |166=>some false
 |168=>some false
 |169=>some false
 |171=>some false
 |173=>some false
 |174=>some false
 |175=>some false
 |177=>some false
 |178=>some false
 |179=>some false
 |180=>some false
 |181=>some false
 |182=>some false
 |183=>some false
 |184=>some false
 |185=>some false
 |186=>some false
 |187=>some false
 |188=>some false
 |189=>some false
 |191=>some false
 |192=>some false
 |194=>some false
 |195=>some false
 |196=>some false
 |197=>some false
 |199=>some false
 |200=>some false
 |201=>some false
 |202=>some false
 |204=>some false
 |205=>some false
 |206=>some false
 |207=>some false
 |208=>some false
 |210=>some false
 |212=>some false
 |214=>some false
 |220=>some false
 |_=>none
def wsize:TypeId->Option Nat
 |2=>some 1
 |3=>some 1
 |4=>some 1
 |5=>some 1
 |6=>some 1
 |7=>some 4
 |8=>some 4
 |9=>some 1
 |10=>some 1
 |11=>some 1
 |12=>some 1
 |13=>some 2
 |14=>some 2
 |18=>some 1
 |19=>some 1
 |21=>some 1
 |22=>some 1
 |23=>some 4
 |24=>some 4
 |25=>some 6
 |26=>some 6
 |27=>some 1
 |28=>some 1
 |29=>some 3
 |30=>some 3
 |31=>some 1
 |32=>some 1
 |33=>some 1
 |34=>some 1
 |38=>some 1
 |41=>some 2
 |42=>some 2
 |43=>some 4
 |44=>some 4
 |57=>some 1
 |61=>some 5
 |62=>some 5
 |73=>some 1
 |76=>some 5
 |77=>some 5
 |89=>some 5
 |90=>some 5
 |105=>some 1
 |115=>some 5
 |116=>some 5
 |144=>some 1
 |148=>some 3
 |149=>some 3
 |151=>some 4
 |152=>some 4
 |156=>some 1
 |159=>some 1
 |170=>some 1
 |198=>some 1
 |211=>some 13
 |213=>some 1
 |215=>some 4
 |216=>some 4
 |217=>some 0
 |218=>some 0
 |219=>some 0
 |221=>some 1
 |222=>some 1
 |225=>some 1
 |1=>some 1
 |35=>some 1
 |36=>some 1
 |37=>some 1
 |40=>some 1
 |46=>some 1
 |47=>some 1
 |48=>some 1
 |49=>some 1
 |51=>some 1
 |52=>some 1
 |53=>some 1
 |54=>some 1
 |55=>some 1
 |56=>some 1
 |58=>some 1
 |59=>some 1
 |60=>some 1
 |63=>some 1
 |64=>some 1
 |65=>some 1
 |66=>some 1
 |67=>some 1
 |69=>some 1
 |70=>some 1
 |71=>some 1
 |72=>some 1
 |74=>some 1
 |78=>some 1
 |79=>some 1
 |80=>some 1
 |81=>some 1
 |82=>some 1
 |83=>some 1
 |84=>some 1
 |85=>some 1
 |86=>some 1
 |87=>some 1
 |88=>some 1
 |91=>some 1
 |92=>some 1
 |93=>some 1
 |94=>some 1
 |95=>some 1
 |96=>some 1
 |98=>some 1
 |99=>some 1
 |100=>some 1
 |101=>some 1
 |102=>some 1
 |104=>some 1
 |107=>some 1
 |108=>some 1
 |109=>some 1
 |110=>some 1
 |111=>some 1
 |112=>some 1
 |113=>some 1
 |114=>some 1
 |117=>some 1
 |118=>some 1
 |119=>some 1
 |120=>some 1
 |121=>some 1
 |122=>some 1
 |123=>some 1
 |124=>some 1
 |125=>some 1
 |126=>some 1
 |127=>some 1
 |128=>some 1
 |129=>some 1
 |130=>some 1
 |131=>some 1
 |132=>some 1
 |133=>some 1
 |134=>some 1
 |135=>some 1
 |136=>some 1
 |137=>some 1
 |138=>some 1
 |139=>some 1
 |141=>some 1
 |142=>some 1
 |146=>some 1
 |150=>some 1
 |153=>some 1
 |154=>some 1
 |155=>some 1
 |158=>some 1
 |161=>some 1
 |162=>some 1
 |163=>some 1
 |164=>some 1
 |165=>some 1
 |166=>some 1
 |168=>some 1
 |169=>some 1
 |171=>some 1
 |173=>some 1
 |174=>some 1
 |175=>some 1
 |177=>some 1
 |178=>some 1
 |179=>some 1
 |180=>some 1
 |181=>some 1
 |182=>some 1
 |183=>some 1
 |184=>some 1
 |185=>some 1
 |186=>some 1
 |187=>some 1
 |188=>some 1
 |189=>some 1
 |191=>some 1
 |192=>some 1
 |194=>some 1
 |195=>some 1
 |196=>some 1
 |197=>some 1
 |199=>some 1
 |200=>some 1
 |201=>some 1
 |202=>some 1
 |204=>some 1
 |205=>some 1
 |206=>some 1
 |207=>some 1
 |208=>some 1
 |210=>some 1
 |212=>some 1
 |214=>some 1
 |220=>some 1
 |_=>none
def wfel:TypeId->Nat->Option (TypeId×Nat)
 |7,0=>some (2,0)
 |7,1=>some (3,1)
 |7,2=>some (4,2)
 |7,3=>some (6,3)
 |8,0=>some (2,0)
 |8,1=>some (3,1)
 |8,2=>some (4,2)
 |8,3=>some (6,3)
 |13,0=>some (9,0)
 |13,1=>some (12,1)
 |14,0=>some (9,0)
 |14,1=>some (12,1)
 |23,0=>some (3,0)
 |23,1=>some (3,1)
 |23,2=>some (9,2)
 |23,3=>some (22,3)
 |24,0=>some (3,0)
 |24,1=>some (3,1)
 |24,2=>some (9,2)
 |24,3=>some (22,3)
 |25,0=>some (9,0)
 |25,1=>some (24,1)
 |25,2=>some (3,5)
 |26,0=>some (9,0)
 |26,1=>some (24,1)
 |26,2=>some (3,5)
 |29,0=>some (28,0)
 |29,1=>some (3,1)
 |29,2=>some (3,2)
 |30,0=>some (28,0)
 |30,1=>some (3,1)
 |30,2=>some (3,2)
 |33,0=>some (32,0)
 |34,0=>some (32,0)
 |41,0=>some (3,0)
 |41,1=>some (28,1)
 |42,0=>some (3,0)
 |42,1=>some (28,1)
 |43,0=>some (42,0)
 |43,1=>some (42,2)
 |44,0=>some (42,0)
 |44,1=>some (42,2)
 |61,0=>some (44,0)
 |61,1=>some (31,4)
 |62,0=>some (44,0)
 |62,1=>some (31,4)
 |76,0=>some (27,0)
 |76,1=>some (30,1)
 |76,2=>some (4,4)
 |77,0=>some (27,0)
 |77,1=>some (30,1)
 |77,2=>some (4,4)
 |89,0=>some (27,0)
 |89,1=>some (30,1)
 |89,2=>some (31,4)
 |90,0=>some (27,0)
 |90,1=>some (30,1)
 |90,2=>some (31,4)
 |115,0=>some (44,0)
 |115,1=>some (4,4)
 |116,0=>some (44,0)
 |116,1=>some (4,4)
 |148,0=>some (144,0)
 |148,1=>some (3,1)
 |148,2=>some (38,2)
 |149,0=>some (144,0)
 |149,1=>some (3,1)
 |149,2=>some (38,2)
 |151,0=>some (3,0)
 |151,1=>some (9,1)
 |151,2=>some (3,2)
 |151,3=>some (3,3)
 |152,0=>some (3,0)
 |152,1=>some (9,1)
 |152,2=>some (3,2)
 |152,3=>some (3,3)
 |_,_=>none
def wfld:TypeId->Nat->Option Nat
 |7,0=>some 0
 |7,1=>some 1
 |7,2=>some 2
 |7,3=>some 3
 |8,0=>some 0
 |8,1=>some 1
 |8,2=>some 2
 |8,3=>some 3
 |13,0=>some 0
 |13,1=>some 1
 |14,0=>some 0
 |14,1=>some 1
 |23,0=>some 0
 |23,1=>some 1
 |23,2=>some 2
 |23,3=>some 3
 |24,0=>some 0
 |24,1=>some 1
 |24,2=>some 2
 |24,3=>some 3
 |25,0=>some 0
 |25,1=>some 1
 |25,2=>some 5
 |26,0=>some 0
 |26,1=>some 1
 |26,2=>some 5
 |29,0=>some 0
 |29,1=>some 1
 |29,2=>some 2
 |30,0=>some 0
 |30,1=>some 1
 |30,2=>some 2
 |33,0=>some 0
 |34,0=>some 0
 |41,0=>some 0
 |41,1=>some 1
 |42,0=>some 0
 |42,1=>some 1
 |43,0=>some 0
 |43,1=>some 2
 |44,0=>some 0
 |44,1=>some 2
 |61,0=>some 0
 |61,1=>some 4
 |62,0=>some 0
 |62,1=>some 4
 |76,0=>some 0
 |76,1=>some 1
 |76,2=>some 4
 |77,0=>some 0
 |77,1=>some 1
 |77,2=>some 4
 |89,0=>some 0
 |89,1=>some 1
 |89,2=>some 4
 |90,0=>some 0
 |90,1=>some 1
 |90,2=>some 4
 |115,0=>some 0
 |115,1=>some 4
 |116,0=>some 0
 |116,1=>some 4
 |148,0=>some 0
 |148,1=>some 1
 |148,2=>some 2
 |149,0=>some 0
 |149,1=>some 1
 |149,2=>some 2
 |151,0=>some 0
 |151,1=>some 1
 |151,2=>some 2
 |151,3=>some 3
 |152,0=>some 0
 |152,1=>some 1
 |152,2=>some 2
 |152,3=>some 3
 |_,_=>none
def wzero:TypeId->Option Value
 |2=>some (.int .i64 0)
 |3=>some (.int .i64 0)
 |4=>some (.bool false)
 |5=>some (.int .u8 0)
 |6=>some (.int .u8 0)
 |7=>some (.agg #[.int .i64 0,.int .i64 0,.bool false,.int .u8 0])
 |8=>some (.agg #[.int .i64 0,.int .i64 0,.bool false,.int .u8 0])
 |9=>some (vs [])
 |10=>some (vs [])
 |11=>some (vs [])
 |12=>some (.int .u64 0)
 |13=>some (.agg #[vs [],.int .u64 0])
 |14=>some (.agg #[vs [],.int .u64 0])
 |18=>some (.agg #[.pointer none])
 |19=>some (.agg #[.pointer none])
 |21=>some (.int .i32 0)
 |22=>some (.slice none 0 0)
 |23=>some (.agg #[.int .i64 0,.int .i64 0,vs [],.slice none 0 0])
 |24=>some (.agg #[.int .i64 0,.int .i64 0,vs [],.slice none 0 0])
 |25=>some (.agg #[vs [],.int .i64 0,.int .i64 0,vs [],.slice none 0 0,.int .i64 0])
 |26=>some (.agg #[vs [],.int .i64 0,.int .i64 0,vs [],.slice none 0 0,.int .i64 0])
 |27=>some (.slice none 0 0)
 |28=>some (.slice none 0 0)
 |29=>some (.agg #[.slice none 0 0,.int .i64 0,.int .i64 0])
 |30=>some (.agg #[.slice none 0 0,.int .i64 0,.int .i64 0])
 |31=>some (.slice none 0 0)
 |32=>some (.slice none 0 0)
 |33=>some (.agg #[.slice none 0 0])
 |34=>some (.agg #[.slice none 0 0])
 |38=>some (.int .i64 0)
 |41=>some (.agg #[.int .i64 0,.slice none 0 0])
 |42=>some (.agg #[.int .i64 0,.slice none 0 0])
 |43=>some (.agg #[.int .i64 0,.slice none 0 0,.int .i64 0,.slice none 0 0])
 |44=>some (.agg #[.int .i64 0,.slice none 0 0,.int .i64 0,.slice none 0 0])
 |57=>some (.slice none 0 0)
 |61=>some (.agg #[.int .i64 0,.slice none 0 0,.int .i64 0,.slice none 0 0,.slice none 0 0])
 |62=>some (.agg #[.int .i64 0,.slice none 0 0,.int .i64 0,.slice none 0 0,.slice none 0 0])
 |73=>some (.slice none 0 0)
 |76=>some (.agg #[.slice none 0 0,.slice none 0 0,.int .i64 0,.int .i64 0,.bool false])
 |77=>some (.agg #[.slice none 0 0,.slice none 0 0,.int .i64 0,.int .i64 0,.bool false])
 |89=>some (.agg #[.slice none 0 0,.slice none 0 0,.int .i64 0,.int .i64 0,.slice none 0 0])
 |90=>some (.agg #[.slice none 0 0,.slice none 0 0,.int .i64 0,.int .i64 0,.slice none 0 0])
 |105=>some (.int .u64 0)
 |115=>some (.agg #[.int .i64 0,.slice none 0 0,.int .i64 0,.slice none 0 0,.bool false])
 |116=>some (.agg #[.int .i64 0,.slice none 0 0,.int .i64 0,.slice none 0 0,.bool false])
 |144=>some (.slice none 0 0)
 |148=>some (.agg #[.slice none 0 0,.int .i64 0,.int .i64 0])
 |149=>some (.agg #[.slice none 0 0,.int .i64 0,.int .i64 0])
 |151=>some (.agg #[.int .i64 0,vs [],.int .i64 0,.int .i64 0])
 |152=>some (.agg #[.int .i64 0,vs [],.int .i64 0,.int .i64 0])
 |156=>some (.int .u32 0)
 |159=>some (.int .u64 0)
 |170=>some (.slice none 0 0)
 |198=>some (.slice none 0 0)
 |211=>some (.agg #[.int .u8 0,.int .u8 0,.int .u8 0,.int .u8 0,.int .u8 0,.int .u8 0,.int .u8 0,.int .u8 0,.int .u8 0,.int .u8 0,.int .u8 0,.int .u8 0,.int .u8 0])
 |213=>some (.slice none 0 0)
 |215=>some (.agg #[.pointer none,.pointer none,.pointer none,vs []])
 |216=>some (.agg #[.pointer none,.pointer none,.pointer none,vs []])
 |217=>some (.agg #[])
 |218=>some (.agg #[])
 |219=>some (.agg #[])
 |221=>some (.int .u8 0)
 |222=>some (.int .u8 0)
 |225=>some (.int .i32 0)
 |1=>some (.nilFunc)
 |35=>some (.nilFunc)
 |36=>some (.nilFunc)
 |37=>some (.nilFunc)
 |40=>some (.nilFunc)
 |46=>some (.nilFunc)
 |47=>some (.nilFunc)
 |48=>some (.nilFunc)
 |49=>some (.nilFunc)
 |51=>some (.nilFunc)
 |52=>some (.nilFunc)
 |53=>some (.nilFunc)
 |54=>some (.nilFunc)
 |55=>some (.nilFunc)
 |56=>some (.nilFunc)
 |58=>some (.nilFunc)
 |59=>some (.nilFunc)
 |60=>some (.nilFunc)
 |63=>some (.nilFunc)
 |64=>some (.nilFunc)
 |65=>some (.nilFunc)
 |66=>some (.nilFunc)
 |67=>some (.nilFunc)
 |69=>some (.nilFunc)
 |70=>some (.nilFunc)
 |71=>some (.nilFunc)
 |72=>some (.nilFunc)
 |74=>some (.nilFunc)
 |78=>some (.nilFunc)
 |79=>some (.nilFunc)
 |80=>some (.nilFunc)
 |81=>some (.nilFunc)
 |82=>some (.nilFunc)
 |83=>some (.nilFunc)
 |84=>some (.nilFunc)
 |85=>some (.nilFunc)
 |86=>some (.nilFunc)
 |87=>some (.nilFunc)
 |88=>some (.nilFunc)
 |91=>some (.nilFunc)
 |92=>some (.nilFunc)
 |93=>some (.nilFunc)
 |94=>some (.nilFunc)
 |95=>some (.nilFunc)
 |96=>some (.nilFunc)
 |98=>some (.nilFunc)
 |99=>some (.nilFunc)
 |100=>some (.nilFunc)
 |101=>some (.nilFunc)
 |102=>some (.nilFunc)
 |104=>some (.nilFunc)
 |107=>some (.nilFunc)
 |108=>some (.nilFunc)
 |109=>some (.nilFunc)
 |110=>some (.nilFunc)
 |111=>some (.nilFunc)
 |112=>some (.nilFunc)
 |113=>some (.nilFunc)
 |114=>some (.nilFunc)
 |117=>some (.nilFunc)
 |118=>some (.nilFunc)
 |119=>some (.nilFunc)
 |120=>some (.nilFunc)
 |121=>some (.nilFunc)
 |122=>some (.nilFunc)
 |123=>some (.nilFunc)
 |124=>some (.nilFunc)
 |125=>some (.nilFunc)
 |126=>some (.nilFunc)
 |127=>some (.nilFunc)
 |128=>some (.nilFunc)
 |129=>some (.nilFunc)
 |130=>some (.nilFunc)
 |131=>some (.nilFunc)
 |132=>some (.nilFunc)
 |133=>some (.nilFunc)
 |134=>some (.nilFunc)
 |135=>some (.nilFunc)
 |136=>some (.nilFunc)
 |137=>some (.nilFunc)
 |138=>some (.nilFunc)
 |139=>some (.nilFunc)
 |141=>some (.nilFunc)
 |142=>some (.nilFunc)
 |146=>some (.nilFunc)
 |150=>some (.nilFunc)
 |153=>some (.nilFunc)
 |154=>some (.nilFunc)
 |155=>some (.nilFunc)
 |158=>some (.nilFunc)
 |161=>some (.nilFunc)
 |162=>some (.nilFunc)
 |163=>some (.nilFunc)
 |164=>some (.nilFunc)
 |165=>some (.nilFunc)
 |166=>some (.nilFunc)
 |168=>some (.nilFunc)
 |169=>some (.nilFunc)
 |171=>some (.nilFunc)
 |173=>some (.nilFunc)
 |174=>some (.nilFunc)
 |175=>some (.nilFunc)
 |177=>some (.nilFunc)
 |178=>some (.nilFunc)
 |179=>some (.nilFunc)
 |180=>some (.nilFunc)
 |181=>some (.nilFunc)
 |182=>some (.nilFunc)
 |183=>some (.nilFunc)
 |184=>some (.nilFunc)
 |185=>some (.nilFunc)
 |186=>some (.nilFunc)
 |187=>some (.nilFunc)
 |188=>some (.nilFunc)
 |189=>some (.nilFunc)
 |191=>some (.nilFunc)
 |192=>some (.nilFunc)
 |194=>some (.nilFunc)
 |195=>some (.nilFunc)
 |196=>some (.nilFunc)
 |197=>some (.nilFunc)
 |199=>some (.nilFunc)
 |200=>some (.nilFunc)
 |201=>some (.nilFunc)
 |202=>some (.nilFunc)
 |204=>some (.nilFunc)
 |205=>some (.nilFunc)
 |206=>some (.nilFunc)
 |207=>some (.nilFunc)
 |208=>some (.nilFunc)
 |210=>some (.nilFunc)
 |212=>some (.nilFunc)
 |214=>some (.nilFunc)
 |220=>some (.nilFunc)
 |_=>none
def wbld:TypeId->Option (List (Nat×Nat))
 |7=>some [(0,1),(1,1),(2,1),(3,1)]
 |8=>some [(0,1),(1,1),(2,1),(3,1)]
 |13=>some [(0,1),(1,1)]
 |14=>some [(0,1),(1,1)]
 |23=>some [(0,1),(1,1),(2,1),(3,1)]
 |24=>some [(0,1),(1,1),(2,1),(3,1)]
 |25=>some [(0,1),(1,4),(5,1)]
 |26=>some [(0,1),(1,4),(5,1)]
 |29=>some [(0,1),(1,1),(2,1)]
 |30=>some [(0,1),(1,1),(2,1)]
 |33=>some [(0,1)]
 |34=>some [(0,1)]
 |41=>some [(0,1),(1,1)]
 |42=>some [(0,1),(1,1)]
 |43=>some [(0,2),(2,2)]
 |44=>some [(0,2),(2,2)]
 |61=>some [(0,4),(4,1)]
 |62=>some [(0,4),(4,1)]
 |76=>some [(0,1),(1,3),(4,1)]
 |77=>some [(0,1),(1,3),(4,1)]
 |89=>some [(0,1),(1,3),(4,1)]
 |90=>some [(0,1),(1,3),(4,1)]
 |115=>some [(0,4),(4,1)]
 |116=>some [(0,4),(4,1)]
 |148=>some [(0,1),(1,1),(2,1)]
 |149=>some [(0,1),(1,1),(2,1)]
 |151=>some [(0,1),(1,1),(2,1),(3,1)]
 |152=>some [(0,1),(1,1),(2,1),(3,1)]
 |_=>none
def wcod:TypeId->Nat
 |22=>0
 |27=>1
 |28=>2
 |31=>3
 |32=>4
 |57=>5
 |73=>6
 |144=>7
 |170=>8
 |198=>9
 |213=>10
 |_=>0
def welt:Nat->TypeId
 |0=>24
 |1=>9
 |2=>3
 |3=>44
 |4=>57
 |5=>62
 |6=>28
 |7=>152
 |8=>116
 |9=>32
 |10=>5
 |_=>0
def wapp:TypeId->Option (TypeId×Nat×Nat)
 |22=>some (24,4,56)
 |27=>some (9,1,16)
 |28=>some (3,1,8)
 |31=>some (44,4,64)
 |32=>some (57,1,24)
 |57=>some (62,5,88)
 |73=>some (28,1,24)
 |144=>some (152,4,40)
 |170=>some (116,5,72)
 |198=>some (32,1,24)
 |213=>some (5,1,1)
 |_=>none
theorem wappOk:∀{t el q b},wapp t=some (el,q,b)->AppIs Tryz.prog t el q b:=by
 intro t el q b h
 unfold wapp at h
 split at h
 ·cases h;exact AppIs.of (z:= .agg #[.int .i64 0,.int .i64 0,vs [],.slice none 0 0]) (by kernel_rfl) (by kernel_rfl) rfl (by decide) (by decide)
 ·cases h;exact AppIs.of (z:=vs []) (by kernel_rfl) (by kernel_rfl) rfl (by decide) (by decide)
 ·cases h;exact AppIs.of (z:= .int .i64 0) (by kernel_rfl) (by kernel_rfl) rfl (by decide) (by decide)
 ·cases h;exact AppIs.of (z:= .agg #[.int .i64 0,.slice none 0 0,.int .i64 0,.slice none 0 0]) (by kernel_rfl) (by kernel_rfl) rfl (by decide) (by decide)
 ·cases h;exact AppIs.of (z:= .slice none 0 0) (by kernel_rfl) (by kernel_rfl) rfl (by decide) (by decide)
 ·cases h;exact AppIs.of (z:= .agg #[.int .i64 0,.slice none 0 0,.int .i64 0,.slice none 0 0,.slice none 0 0]) (by kernel_rfl) (by kernel_rfl) rfl (by decide) (by decide)
 ·cases h;exact AppIs.of (z:= .slice none 0 0) (by kernel_rfl) (by kernel_rfl) rfl (by decide) (by decide)
 ·cases h;exact AppIs.of (z:= .agg #[.int .i64 0,vs [],.int .i64 0,.int .i64 0]) (by kernel_rfl) (by kernel_rfl) rfl (by decide) (by decide)
 ·cases h;exact AppIs.of (z:= .agg #[.int .i64 0,.slice none 0 0,.int .i64 0,.slice none 0 0,.bool false]) (by kernel_rfl) (by kernel_rfl) rfl (by decide) (by decide)
 ·cases h;exact AppIs.of (z:= .slice none 0 0) (by kernel_rfl) (by kernel_rfl) rfl (by decide) (by decide)
 ·cases h;exact AppIs.of (z:= .int .u8 0) (by kernel_rfl) (by kernel_rfl) rfl (by decide) (by decide)
 ·cases h
def Wt:Tbl Tryz.prog where
 ty:=wty
 rp:=wrp
 en:=wen
 dec:=wdec
 enOk:=e5x
 decOk:=wdecOk
 und:=wund
 undOk:=by intro t D h;unfold wund at h;split at h<;>cases h<;>kernel_rfl
 agg:=wagg
 aggOk:=by intro t b h;unfold wagg at h;split at h<;>cases h<;>(intro w;kernel_rfl)
 size:=wsize
 sizeOk:=by intro t k h;unfold wsize at h;split at h<;>cases h<;>(intro w;kernel_rfl)
 fel:=wfel
 felOk:=by
  intro t j e o h;unfold wfel at h
  split at h<;>first|cases h;done|(injection h with h;injection h with h1 h2;subst h1;subst h2;kernel_rfl)
 fld:=wfld
 fldOk:=by
  intro t j o h;unfold wfld at h
  split at h<;>first|cases h;done|(injection h with h;subst h;intro b p w;kernel_rfl)
 zero:=wzero
 zeroOk:=by intro t z h;unfold wzero at h;split at h<;>cases h<;>(intro w;kernel_rfl)
 cod:=wcod
 elt:=welt
 app:=wapp
 appOk:=wappOk
 mix:=rfl
 gl:=fun F=>FX F 0 [.int .u8 40,.int .u8 41,.int .u8 44,.int .u8 59,.int .u8 58,.int .u8 61,.int .u8 60,.int .u8 43,.int .u8 45,.int .u8 42,.int .u8 47,.int .u8 123,.int .u8 125]
 glMono:=fun hF h=>h.mono hF
 bld:=wbld
 bldOk:=by intro t ps h;unfold wbld at h;split at h<;>cases h<;>exact e5q (by kernel_rfl) (by kernel_rfl)
theorem wzOk:∀t z,Wt.zero t=some z->(Tryz.prog.info? t).map (·.zero)=some (some z):=by
 intro t z h;change wzero t=some z at h;unfold wzero at h;split at h<;>cases h<;>kernel_rfl
end Go.Proofs.YthaegflpecbfgaaGreatDoor.M
namespace Go.Proofs.YthaegflpecbfgaaGreatDoor.M
open Go Go.RowKit Rt
set_option maxRecDepth 1000000
set_option maxHeartbeats 40000000
theorem b6p(n:Nat)(c1:Int):FnC Wt 175 [.int .u8 c1] (a5f n c1) (fun r=> .ob r):=by
 refine a1i (n:=17) Tryz.func175 rfl rfl rfl (fun _ _=>by kernel_rfl) fun F0 w0 r=> ?_
 unfold a5f
 refine gJ 3 (fun v1=> [.v 8 (.ob v1)]) rfl (fun _=>rfl) (fun J1 hJ1=> ?_) (fun v1=> ?_)
 ·
  refine gD rfl (fun _=> ?_) (fun _=> ?_)
  ·
   exact gX hJ1 rfl (by kernel_rfl)
  ·
   exact gX hJ1 rfl (by kernel_rfl)
 refine gJ 7 (fun v2=> [.v 16 (.ob v2)]) rfl (fun _=>rfl) (fun J2 hJ2=> ?_) (fun v2=> ?_)
 ·
  refine gD rfl (fun _=> ?_) (fun _=> ?_)
  ·
   exact gX hJ2 rfl (by kernel_rfl)
  ·
   refine gA ?_
   refine gD rfl (fun _=> ?_) (fun _=> ?_)
   ·
    refine gB ?_
    exact gX hJ2 rfl (by kernel_rfl)
   ·
    refine gB ?_
    exact gX hJ2 rfl (by kernel_rfl)
 exact gR rfl rfl rfl
theorem c6w(n:Nat)(c1:Int):FnC Wt 213 [.int .u8 c1] (a6m n c1) (fun r=> .ob r):=by
 refine a1i (n:=9) Tryz.func213 rfl rfl rfl (fun _ _=>by kernel_rfl) fun F0 w0 r=> ?_
 unfold a6m
 refine gJ 3 (fun v1=> [.v 8 (.ob v1)]) rfl (fun _=>rfl) (fun J1 hJ1=> ?_) (fun v1=> ?_)
 ·
  refine gD rfl (fun _=> ?_) (fun _=> ?_)
  ·
   exact gX hJ1 rfl (by kernel_rfl)
  ·
   exact gX hJ1 rfl (by kernel_rfl)
 exact gR rfl rfl rfl
theorem c6n(n:Nat)(c1:Int):FnC Wt 177 [.int .u8 c1] (a5m n c1) (fun r=> .ob r):=by
 refine a1i (n:=13) Tryz.func177 rfl rfl rfl (fun _ _=>by kernel_rfl) fun F0 w0 r=> ?_
 unfold a5m
 refine gK (b6p _ _) rfl rfl rfl fun v1=> ?_
 refine gJ 3 (fun v2=> [.v 8 (.ob v2)]) rfl (fun _=>rfl) (fun J1 hJ1=> ?_) (fun v2=> ?_)
 ·
  refine gD rfl (fun _=> ?_) (fun _=> ?_)
  ·
   exact gX hJ1 rfl (by kernel_rfl)
  ·
   refine gA ?_
   refine gK (c6w _ _) rfl rfl rfl fun v4=> ?_
   exact gX hJ1 rfl (by kernel_rfl)
 refine gJ 3 (fun v3=> [.v 12 (.ob v3)]) rfl (fun _=>rfl) (fun J2 hJ2=> ?_) (fun v3=> ?_)
 ·
  refine gD rfl (fun _=> ?_) (fun _=> ?_)
  ·
   exact gX hJ2 rfl (by kernel_rfl)
  ·
   exact gX hJ2 rfl (by kernel_rfl)
 exact gR rfl rfl rfl
theorem c7t(n:Nat)(s1:Bs)(isx1:(Int->Option Bool)):FnH Wt 176 [.str s1] ⟨Int,Bool,fun q=> [.int .u8 q],fun q=>isx1 q,fun r=> .ob r⟩ (a4t n s1 isx1) (fun r=> .int .i64 r):=by
 refine b3d (n:=20) Tryz.func176 rfl rfl rfl (fun _ _=>by kernel_rfl) fun F0 w0 r u=> ?_
 unfold a4t
 refine a3c ((fun k0 m(s:Int)=>lexer_span_L1 n s1 isx1 k0 m s) _) (fun(s:Int)=> [.v 5 (.int .i64 s)]) (fun _=>rfl) _ rfl rfl (fun _=>rfl) rfl fun K1 m1 hK1 nx1=> ?_
 refine gJ 6 (fun v1=> [.v 16 (.ob v1)]) rfl (fun _=>rfl) (fun J2 hJ2=> ?_) (fun v1=> ?_)
 ·
  refine gD rfl (fun _=> ?_) (fun _=> ?_)
  ·
   refine gA ?_
   refine gV rfl fun c1=> ?_
   refine gA ?_
   refine gKv (T:=Wt) (Φ:=⟨Int,Bool,fun q=> [.int .u8 q],fun q=>isx1 q,fun r=> .ob r⟩) (u:=u) c1 rfl rfl rfl fun v2=> ?_
   exact gX hJ2 rfl (by kernel_rfl)
  ·
   exact gX hJ2 rfl (by kernel_rfl)
 refine gC rfl (fun _=> ?_) (fun _=> ?_)
 ·
  exact gE hK1 _ rfl (by kernel_rfl)
 ·
  exact gR rfl rfl rfl
theorem b2k(n:Nat)(s1:Bs):FnC Wt 113 [.str s1] (a4q n s1) (fun r=> .ob r):=by
 refine a1i (n:=22) Tryz.func113 rfl rfl rfl (fun _ _=>by kernel_rfl) fun F0 w0 r=> ?_
 unfold a4q
 refine gJ 4 (fun v1=> [.v 9 (.ob v1)]) rfl (fun _=>rfl) (fun J1 hJ1=> ?_) (fun v1=> ?_)
 ·
  refine gD rfl (fun _=> ?_) (fun _=> ?_)
  ·
   refine gA ?_
   refine gV rfl fun c1=> ?_
   refine gA ?_
   refine gK (b6p _ _) rfl rfl rfl fun v5=> ?_
   exact gX hJ1 rfl (by kernel_rfl)
  ·
   exact gX hJ1 rfl (by kernel_rfl)
 refine gJ 4 (fun v2=> [.v 14 (.ob v2)]) rfl (fun _=>rfl) (fun J2 hJ2=> ?_) (fun v2=> ?_)
 ·
  refine gD rfl (fun _=> ?_) (fun _=> ?_)
  ·
   exact gX hJ2 rfl (by kernel_rfl)
  ·
   exact gX hJ2 rfl (by kernel_rfl)
 refine gJ 6 (fun v3=> [.v 21 (.ob v3)]) rfl (fun _=>rfl) (fun J3 hJ3=> ?_) (fun v3=> ?_)
 ·
  refine gD rfl (fun _=> ?_) (fun _=> ?_)
  ·
   refine gA ?_
   refine gKh (c7t n _ (a5m n)) rfl rfl rfl (fvA rfl rfl (fun q=>c6n n q) default) fun v4=> ?_
   exact gX hJ3 rfl (by kernel_rfl)
  ·
   exact gX hJ3 rfl (by kernel_rfl)
 exact gR rfl rfl rfl
theorem b6g(n:Nat)(l1:(List Int)):FnC Wt 191 [.sl 2 l1] (a2r n l1) (fun r=> .sl 2 r):=by
 refine a1i (n:=21) Tryz.func191 rfl rfl rfl (fun _ _=>by kernel_rfl) fun F0 w0 r=> ?_
 unfold a2r
 refine a3c ((fun k0 m(s:Int)=>big_trim_L1 n l1 k0 m s) _) (fun(s:Int)=> [.v 3 (.int .i64 s)]) (fun _=>rfl) _ rfl rfl (fun _=>rfl) rfl fun K1 m1 hK1 nx1=> ?_
 refine gJ 7 (fun v1=> [.v 15 (.ob v1)]) rfl (fun _=>rfl) (fun J2 hJ2=> ?_) (fun v1=> ?_)
 ·
  refine gD rfl (fun _=> ?_) (fun _=> ?_)
  ·
   refine gA ?_
   refine gV rfl fun ex1=> ?_
   exact gX hJ2 rfl (by kernel_rfl)
  ·
   exact gX hJ2 rfl (by kernel_rfl)
 refine gC rfl (fun _=> ?_) (fun _=> ?_)
 ·
  exact gE hK1 _ rfl (by kernel_rfl)
 ·
  refine gV rfl fun l2=> ?_
  exact gR rfl rfl rfl
theorem a4b(n:Nat)(sign1:Int)(l1:(List Int)):FnC Wt 140 [.int .i64 sign1,.sl 2 l1] (a3x n sign1 l1) (fun r=> .agg [.int .i64 r.Sign,.sl 2 r.Digits]):=by
 refine a1i (n:=14) Tryz.func140 rfl rfl rfl (fun _ _=>by kernel_rfl) fun F0 w0 r=> ?_
 unfold a3x
 refine gK (b6g _ _) rfl rfl rfl fun v1=> ?_
 refine gC rfl (fun _=> ?_) (fun _=> ?_)
 ·
  exact gR rfl rfl rfl
 ·
  exact gR rfl rfl rfl
theorem a2z(n:Nat)(ax1:Big):FnC Wt 91 [.agg [.int .i64 ax1.Sign,.sl 2 ax1.Digits]] (a2x n ax1) (fun r=> .ob r):=by
 refine a1i (n:=45) Tryz.func91 rfl rfl rfl (fun _ _=>by kernel_rfl) fun F0 w0 r=> ?_
 unfold a2x
 refine a3c ((fun k0 m(s:Int)=>big_Right_L1 n ax1 k0 m s) _) (fun(s:Int)=> [.v 12 (.int .i64 s)]) (fun _=>rfl) _ rfl rfl (fun _=>rfl) rfl fun K1 m1 hK1 i1=> ?_
 refine gC rfl (fun _=> ?_) (fun _=> ?_)
 ·
  refine gV rfl fun ex2=> ?_
  refine gJ 3 (fun v3=> [.v 21 (.ob v3)]) rfl (fun _=>rfl) (fun J2 hJ2=> ?_) (fun v3=> ?_)
  ·
   refine gD rfl (fun _=> ?_) (fun _=> ?_)
   ·
    exact gX hJ2 rfl (by kernel_rfl)
   ·
    exact gX hJ2 rfl (by kernel_rfl)
  refine gC rfl (fun _=> ?_) (fun _=> ?_)
  ·
   exact gR rfl rfl rfl
  ·
   exact gE hK1 _ rfl (by kernel_rfl)
 ·
  refine gC rfl (fun _=> ?_) (fun _=> ?_)
  ·
   exact gR rfl rfl rfl
  ·
   refine gJ 4 (fun v1=> [.v 35 (.ob v1)]) rfl (fun _=>rfl) (fun J3 hJ3=> ?_) (fun v1=> ?_)
   ·
    refine gD rfl (fun _=> ?_) (fun _=> ?_)
    ·
     exact gX hJ3 rfl (by kernel_rfl)
    ·
     exact gX hJ3 rfl (by kernel_rfl)
   refine gJ 8 (fun v2=> [.v 44 (.ob v2)]) rfl (fun _=>rfl) (fun J4 hJ4=> ?_) (fun v2=> ?_)
   ·
    refine gD rfl (fun _=> ?_) (fun _=> ?_)
    ·
     refine gA ?_
     refine gV rfl fun ex1=> ?_
     exact gX hJ4 rfl (by kernel_rfl)
    ·
     exact gX hJ4 rfl (by kernel_rfl)
   exact gR rfl rfl rfl
theorem b5a(n:Nat)(x1:Int):FnC Wt 212 [.int .i64 x1] (a8z n x1) (fun r=> .ob r):=by
 refine a1i (n:=6) Tryz.func212 rfl rfl rfl (fun _ _=>by kernel_rfl) fun F0 w0 r=> ?_
 unfold a8z
 exact gR rfl rfl rfl
theorem b0f(n:Nat)(x1:Int)(y1:Int):FnC Wt 168 [.int .i64 x1,.int .i64 y1] (a4v n x1 y1) (fun r=> .int .i64 r):=by
 refine a1i (n:=20) Tryz.func168 rfl rfl rfl (fun _ _=>by kernel_rfl) fun F0 w0 r=> ?_
 unfold a4v
 refine gK (b5a _ _) rfl rfl rfl fun v1=> ?_
 refine gK (b5a _ _) rfl rfl rfl fun v2=> ?_
 refine gC rfl (fun _=> ?_) (fun _=> ?_)
 ·
  refine gC rfl (fun _=> ?_) (fun _=> ?_)
  ·
   exact gR rfl rfl rfl
  ·
   exact gR rfl rfl rfl
 ·
  refine gC rfl (fun _=> ?_) (fun _=> ?_)
  ·
   exact gR rfl rfl rfl
  ·
   refine gC rfl (fun _=> ?_) (fun _=> ?_)
   ·
    exact gR rfl rfl rfl
   ·
    refine gC rfl (fun _=> ?_) (fun _=> ?_)
    ·
     exact gR rfl rfl rfl
    ·
     exact gR rfl rfl rfl
theorem b3n(n:Nat)(ax1:(List Int))(b1:(List Int)):FnC Wt 169 [.sl 2 ax1,.sl 2 b1] (a6l n ax1 b1) (fun r=> .int .i64 r):=by
 refine a1i (n:=41) Tryz.func169 rfl rfl rfl (fun _ _=>by kernel_rfl) fun F0 w0 r=> ?_
 unfold a6l
 refine gC rfl (fun _=> ?_) (fun _=> ?_)
 ·
  refine gK (b0f _ _ _) rfl rfl rfl fun v1=> ?_
  exact gR rfl rfl rfl
 ·
  refine a3c ((fun k0 m(s:Int)=>big_compare_L1 n ax1 b1 k0 m s) _) (fun(s:Int)=> [.v 5 (.int .i64 s)]) (fun _=>rfl) _ rfl rfl (fun _=>rfl) rfl fun K1 m1 hK1 i1=> ?_
  refine gC rfl (fun _=> ?_) (fun _=> ?_)
  ·
   refine gG rfl (by kernel_rfl) ?_
   refine gV rfl fun ex1=> ?_
   refine gV rfl fun ex2=> ?_
   refine gC rfl (fun _=> ?_) (fun _=> ?_)
   ·
    refine gG rfl (by kernel_rfl) ?_
    refine gV rfl fun ex3=> ?_
    refine gV rfl fun ex4=> ?_
    refine gQ (b0f _ _ _) rfl rfl rfl (fun _=>rfl) fun v2=> ?_
    exact gR rfl rfl rfl
   ·
    exact gE hK1 _ rfl (by kernel_rfl)
  ·
   exact gR rfl rfl rfl
theorem c5j(n:Nat)(ax1:Big)(b1:Big):FnC Wt 103 [.agg [.int .i64 ax1.Sign,.sl 2 ax1.Digits],.agg [.int .i64 b1.Sign,.sl 2 b1.Digits]] (b1v n ax1 b1) (fun r=> .int .i64 r):=by
 refine a1i (n:=31) Tryz.func103 rfl rfl rfl (fun _ _=>by kernel_rfl) fun F0 w0 r=> ?_
 unfold b1v
 refine gK (a2z _ _) rfl rfl rfl fun v1=> ?_
 refine gJ 4 (fun v2=> [.v 12 (.ob v2)]) rfl (fun _=>rfl) (fun J1 hJ1=> ?_) (fun v2=> ?_)
 ·
  refine gD rfl (fun _=> ?_) (fun _=> ?_)
  ·
   exact gX hJ1 rfl (by kernel_rfl)
  ·
   refine gA ?_
   refine gK (a2z _ _) rfl rfl rfl fun v5=> ?_
   exact gX hJ1 rfl (by kernel_rfl)
 refine gC rfl (fun _=> ?_) (fun _=> ?_)
 ·
  exact gR rfl rfl rfl
 ·
  refine gC rfl (fun _=> ?_) (fun _=> ?_)
  ·
   refine gK (b0f _ _ _) rfl rfl rfl fun v3=> ?_
   exact gR rfl rfl rfl
  ·
   refine gG rfl (by kernel_rfl) ?_
   refine gQ (b3n _ _ _) rfl rfl rfl (fun _=>rfl) fun v4=> ?_
   exact gR rfl rfl rfl
theorem a3f(n:Nat)(s1:(List Int)):FnO Wt 110 [.sl 2 s1] (a0u n s1) 3 1 2 (fun r=>r):=⟨fun _ _=>by kernel_rfl,fun r hm w F hs hg us hu=>by
 obtain⟨_,_,rfl,⟨_,_,_,rfl,hs0⟩,rfl⟩:=hu
 exact(a9o n s1 r hm hs hs0).mono fun e w'⟨v,F',O',e1,e2,⟨a,m,n,xs,e3,e4,e5⟩⟩=>⟨v,F',a,m,n,xs,e1,e4▸e2,e5,e3⟩⟩
theorem b3g(n:Nat)(ax1:Big):FnC Wt 192 [.agg [.int .i64 ax1.Sign,.sl 2 ax1.Digits]] (b2u n ax1) (fun r=> .agg [.int .i64 r.Sign,.sl 2 r.Digits]):=by
 refine a1i (n:=14) Tryz.func192 rfl rfl rfl (fun _ _=>by kernel_rfl) fun F0 w0 r=> ?_
 unfold b2u
 refine gK (a2z _ _) rfl rfl rfl fun v1=> ?_
 refine gC rfl (fun _=> ?_) (fun _=> ?_)
 ·
  exact gR rfl rfl rfl
 ·
  refine gHs [(3,(pL [0,2,4,6,8,11,13,15] .nil))] rfl (by kernel_rfl) rfl rfl fun Ky=> ?_
  refine gO (a3f _ _) rfl rfl rfl fun v2=> ?_
  refine gK (a4b _ _ _) rfl rfl rfl fun v3=> ?_
  refine gHe rfl ?_
  exact gR rfl rfl rfl
theorem c8b(n:Nat)(ax1:(List Int))(b1:(List Int)):FnC Wt 210 [.sl 2 ax1,.sl 2 b1] (b6x n ax1 b1) (fun r=> .sl 2 r):=by
 refine a1i (n:=55) Tryz.func210 rfl rfl rfl (fun _ _=>by kernel_rfl) fun F0 w0 r=> ?_
 unfold b6x
 refine gM (fun j1=> [.v 0 (.sl 2 j1.1),.v 1 (.sl 2 j1.2)]) rfl (fun _=>rfl) (fun J1 hJ1=> ?_) (fun j1=> ?_)
 ·
  refine gD rfl (fun _=> ?_) (fun _=> ?_)
  ·
   exact gX hJ1 rfl (by kernel_rfl)
  ·
   exact gX hJ1 rfl (by kernel_rfl)
 obtain⟨ax2,b2⟩:=j1;dsimp only
 refine gMk wzOk rfl fun l1=> ?_
 refine a3c ((fun k0 m(s:Int×Int×List Int)=>big_add_L1 n ax2 b2 k0 m s.1 s.2.1 s.2.2) _) (fun(s:Int×Int×List Int)=> [.r 5 2 s.2.2,.v 6 (.int .i64 s.1),.v 22 (.int .i64 s.2.1)]) (fun _=>rfl) (_,_,_) rfl rfl (fun _=>rfl) rfl fun K2 m2 hK2 z2=> ?_
 obtain⟨carry1,i1,l2⟩:=z2;dsimp only
 refine gC rfl (fun _=> ?_) (fun _=> ?_)
 ·
  refine gV rfl fun ex2=> ?_
  refine gD rfl (fun _=> ?_) (fun _=> ?_)
  ·
   refine gA ?_
   refine gV rfl fun ex4=> ?_
   refine gB ?_
   refine gV rfl fun _=> ?_
   refine gW rfl rfl fun l5=> ?_
   refine gV rfl fun q1=> ?_
   exact gE hK2 (_,_,_) rfl (by kernel_rfl)
  ·
   refine gB ?_
   refine gV rfl fun _=> ?_
   refine gW rfl rfl fun l5=> ?_
   refine gV rfl fun q1=> ?_
   exact gE hK2 (_,_,_) rfl (by kernel_rfl)
 ·
  refine gV rfl fun _=> ?_
  refine gW rfl rfl fun l4=> ?_
  refine gK (b6g _ _) rfl rfl rfl fun v1=> ?_
  exact gR rfl rfl rfl
theorem c1t(n:Nat)(ax1:(List Int))(b1:(List Int)):FnC Wt 211 [.sl 2 ax1,.sl 2 b1] (b5k n ax1 b1) (fun r=> .sl 2 r):=by
 refine a1i (n:=43) Tryz.func211 rfl rfl rfl (fun _ _=>by kernel_rfl) fun F0 w0 r=> ?_
 unfold b5k
 refine gO (a3f _ _) rfl rfl rfl fun v1=> ?_
 refine a3c ((fun k0 m(s:Int×Int×List Int)=>big_sub_L1 n b1 v1 k0 m s.1 s.2.1 s.2.2) _) (fun(s:Int×Int×List Int)=> [.r 5 2 s.2.2,.v 6 (.int .i64 s.1),.v 13 (.int .i64 s.2.1)]) (fun _=>rfl) (_,_,_) rfl rfl (fun _=>rfl) rfl fun K1 m1 hK1 z1=> ?_
 obtain⟨borrow1,i1,l1⟩:=z1;dsimp only
 refine gC rfl (fun _=> ?_) (fun _=> ?_)
 ·
  refine gV rfl fun ex1=> ?_
  refine gD rfl (fun _=> ?_) (fun _=> ?_)
  ·
   refine gA ?_
   refine gV rfl fun ex3=> ?_
   refine gB ?_
   refine gV rfl fun q1=> ?_
   refine gV rfl fun _=> ?_
   refine gW rfl rfl fun l3=> ?_
   exact gE hK1 (_,_,_) rfl (by kernel_rfl)
  ·
   refine gB ?_
   refine gV rfl fun q1=> ?_
   refine gV rfl fun _=> ?_
   refine gW rfl rfl fun l3=> ?_
   exact gE hK1 (_,_,_) rfl (by kernel_rfl)
 ·
  refine gK (b6g _ _) rfl rfl rfl fun v2=> ?_
  exact gR rfl rfl rfl
theorem d6q(n:Nat)(ax1:(List Int))(b1:(List Int)):FnC Wt 207 [.sl 2 ax1,.sl 2 b1] (b0v n ax1 b1) (fun r=> .sl 2 r):=by
 refine a1i (n:=67) Tryz.func207 rfl rfl rfl (fun _ _=>by kernel_rfl) fun F0 w0 r=> ?_
 unfold b0v
 refine gMk wzOk rfl fun l1=> ?_
 refine a3c ((fun k0 m(s:Int×List Int)=>big_mul_L1 n ax1 b1 k0 m s.1 s.2) _) (fun(s:Int×List Int)=> [.r 5 2 s.2,.v 20 (.int .i64 s.1)]) (fun _=>rfl) (_,_) rfl rfl (fun _=>rfl) rfl fun K1 m1 hK1 z1=> ?_
 obtain⟨i1,l2⟩:=z1;dsimp only
 refine gC rfl (fun _=> ?_) (fun _=> ?_)
 ·
  refine gV rfl fun ex1=> ?_
  refine a3c ((fun k0 m(s:Int×Int×List Int)=>big_mul_L2 n b1 i1 ex1 k0 m s.1 s.2.1 s.2.2) _) (fun(s:Int×Int×List Int)=> [.r 5 2 s.2.2,.v 8 (.int .i64 s.1),.v 27 (.int .i64 s.2.1)]) (fun _=>rfl) (_,_,_) rfl rfl (fun _=>rfl) rfl fun K2 m2 hK2 z2=> ?_
  obtain⟨carry1,i2,l4⟩:=z2;dsimp only
  refine gC rfl (fun _=> ?_) (fun _=> ?_)
  ·
   refine gV rfl fun ex4=> ?_
   refine gV rfl fun ex5=> ?_
   refine gV rfl fun q1=> ?_
   refine gV rfl fun _=> ?_
   refine gW rfl rfl fun l7=> ?_
   exact gE hK2 (_,_,_) rfl (by kernel_rfl)
  ·
   refine gV rfl fun ex2=> ?_
   refine gV rfl fun _=> ?_
   refine gW rfl rfl fun l6=> ?_
   exact gE hK1 (_,_) rfl (by kernel_rfl)
 ·
  refine gK (b6g _ _) rfl rfl rfl fun v1=> ?_
  exact gR rfl rfl rfl
end Go.Proofs.YthaegflpecbfgaaGreatDoor.M
