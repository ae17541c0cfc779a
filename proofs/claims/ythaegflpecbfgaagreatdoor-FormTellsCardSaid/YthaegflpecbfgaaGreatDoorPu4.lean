/- Several texts in one, for FormTells.card: what the theorem leans on. -/
import Derived.Test.YthaegflpecbfgaaGreatDoorRows
import Derived.Test.YthaegflpecbfgaaGreatDoorPu3
set_option maxHeartbeats 1000000
set_option maxRecDepth 1000000
set_option linter.unusedVariables false
set_option linter.unusedSimpArgs false
namespace Go.Proofs.YthaegflpecbfgaaGreatDoor
namespace Rt
open Go Go.RowKit
set_option linter.unusedVariables false
mutual
def f4l{ty:Nat->Type}:AV ty->List Nat | .agg l=>e0s l | .tup l=>e0s l | .bx i _=> [i] | .row i=> [i] | .rel i _ _ _ _=> [i] | .clo _ l=>e0s l | .sb i _ _=> [i] | .rw i _ _=> [i] |_=> []
def e0s{ty:Nat->Type}:List (AV ty)->List Nat | []=> [] |x::l=>f4l x++e0s l end
def d4i{ty:Nat->Type}(H:List (AO ty)):List Nat->List Nat
 | []=> []
 |i::l=>match H[i]? with
  |some (.box _ cs)=>e0s cs++d4i H l
  |_=>d4i H l
def f0d(t:Nat):List Oper->Option Op
 | []=>none
 |o::l=>match o.dst with
  |some d=>match Nat.beq d t with
   |true=>some o.op
   |false=>f0d t l
  |none=>f0d t l
def d9h{ty:Nat->Type}(e:AE ty)(t:Nat):List Nat:=match e.lookup t with
 |some x=>f4l x
 |none=> []
def c3k{ty:Nat->Type}(ops:List Oper)(e:AE ty)(H:List (AO ty)):Nat->Operand->List Nat
 |0,_=> []
 |f+1,.tmp t=>match f0d t ops with
  |some (.move x)=>c3k ops e H f x
  |some (.assign x)=>c3k ops e H f x++d9h e t
  |some (.fieldAddr _ x _)=>c3k ops e H f x
  |some (.nilCheck x)=>c3k ops e H f x
  |some (.extract x _)=>c3k ops e H f x
  |some (.indexAddr _ x _)=>c3k ops e H f x
  |some (.slice _ x _ _ _)=>c3k ops e H f x
  |some (.pick _ x y)=>c3k ops e H f x++c3k ops e H f y
  |some (.load _ x)=>d4i H (c3k ops e H f x)
  |some _=> []
  |none=>d9h e t
 |_,_=> []
def e7a{ty:Nat->Type}(ops:List Oper)(e:AE ty)(H:List (AO ty))(f:Nat):List Operand->List Nat | []=> [] |x::l=>c3k ops e H f x++e7a ops e H f l
def writ{ty:Nat->Type}(ops:List Oper)(e:AE ty)(H:List (AO ty))(f:Nat):List Oper->List Nat
 | []=> []
 |o::l=>match o.op with
  | .store _ x _=>c3k ops e H f x++writ ops e H f l
  | .call ⟨.builtin .len,_,_⟩=>writ ops e H f l
  | .call ⟨.builtin .min,_,_⟩=>writ ops e H f l
  | .call ⟨.builtin .max,_,_⟩=>writ ops e H f l
  | .call ⟨_,args,_⟩=>e7a ops e H f args.toList++writ ops e H f l
  |_=>writ ops e H f l
def hasN(i:Nat):List Nat->Bool
 | []=>false
 |j::l=>match Nat.beq i j with
  |true=>true
  |false=>hasN i l
def b7m{ty:Nat->Type}(ws:List Nat):Nat->List (AO ty)->List (AO ty)
 |_,[]=> [.mark]
 |i,.box t cs::l=>match hasN i ws with
  |true=> .box t cs::b7m ws (i+1) l
  |false=> .kbox i t cs::b7m ws (i+1) l
 |i,.row e q c xs::l=>match hasN i ws with
  |true=> .row e q c xs::b7m ws (i+1) l
  |false=> .krow i e q c xs::b7m ws (i+1) l
 |i,_::l=> .gone::b7m ws (i+1) l
def frc{α:Type}:List α->Option (List α)
 | []=>some []
 |x::l=>match frc l with
  |some r=>some (x::r)
  |none=>none
theorem d7k{α:Type}:∀{l r:List α},frc l=some r->l=r
 | [],_,h=>by cases h;rfl
 |x::l,_,h=>by
  simp only [frc]at h;split at h
  ·rename_i r hr;cases h;rw [d7k hr]
  cases h
def frcN:List Nat->Option (List Nat)
 | []=>some []
 |x::l=>match Nat.beq x x,frcN l with
  |true,some r=>some (x::r)
  |_,_=>none
def stH{ty:Nat->Type}(ops:Array Oper)(e:AE ty)(H:List (AO ty)):Option (List Nat×List (AO ty)):=match frcN (writ ops.toList e H 12 ops.toList)with
 |some ws=>match frc (b7m ws 0 H)with
  |some H'=>match frc (b9y H')with
   |some ks=>some (ks,H')
   |none=>none
  |none=>none
 |none=>none
theorem f3b{ty:Nat->Type}{ops:Array Oper}{e:AE ty}{H H':List (AO ty)}{ks:List Nat}(h:stH ops e H=some (ks,H')):(∃ws,b7m ws 0 H=H')/\b9y H'=ks:=by
 unfold stH at h;split at h
 ·split at h
  ·rename_i h1;split at h
   ·rename_i h2;cases h;exact⟨⟨_,d7k h1⟩,d7k h2⟩
   cases h
  cases h
 cases h
def curO{ty:Nat->Type}:AO ty->AO ty | .box t cs=> .box t cs | .row e q c xs=> .row e q c xs | .gone=> .gone | .kbox _ t cs=> .box t cs | .krow _ e q c xs=> .row e q c xs | .mark=> .gone
def curH{ty:Nat->Type}:List (AO ty)->List (AO ty) | []=> [] |o::l=>curO o::curH l
def d2i{ty:Nat->Type}:List (AO ty)->Option Nat
 | []=>none
 | .mark::_=>some 0
 |_::l=>match d2i l with
  |some i=>some (i+1)
  |none=>none
def noMix:List It->Bool | []=>true | .mixk _ _ _::_=>false |_::l=>noMix l
def pL:List Nat->Pl->Pl
 | [],p=>p
 |x::l,p=>match Nat.beq (x %2) 0 with
  |true=> .tk (x/2) (pL l p)
  |false=> .st (x/2) (pL l p)
def plOk(ops:Array Oper)(p:Pl):Bool:=b8v ops p (Array.replicate ops.size false)&&Nat.beq p.dep ops.size
section
variable{P:Program}{T:Tbl P}{n:Nat}{F0:Frz}{w0:World}{X:List Nat}{ρ:Type}{Q:Exit->Act->World->Prop}{Kz Ky:Snap}
theorem d2q{ws:List Nat}:∀{i:Nat}{H:List (AO T.ty)},(b7m ws i H).length=H.length+1
 |i,[]=>rfl
 |i,o::l=>by
  have:=d2q (ws:=ws) (i:=i+1) (H:=l);cases o<;>simp only [b7m]<;>(try split)<;>simp [this]
theorem d7d{ws:List Nat}{R:List OE}{F:Frz}:∀{i:Nat}{H:List (AO T.ty)}{S:List OE},H.length=S.length->(∀(j:Nat)o,H[j]?=some o->∃e:OE,S[j]?=some e/\RelO T.rp Kz R F o e)->(∀(j:Nat)e,S[j]?=some e->Ky.K (i+j)=e)->Ky.F.le F->
 ∀(j:Nat)o,(b7m ws i H)[j]?=some o->∃e:OE,(S++ [.row 0 0 none 0 0 []])[j]?=some e/\RelO T.rp Ky R F o e
 |i,[],S,hl,h,hK,hF,j,o,ho=>by
  obtain rfl:=List.length_eq_zero_iff.1 hl.symm;cases j with
  |zero=>simp [b7m]at ho;subst ho;exact⟨_,rfl,hF,_,_,_,_,_,_,rfl⟩
  |succ j=>simp [b7m]at ho
 |i,x::l,[],hl,_,_,_,_,_,_=>by simp at hl
 |i,x::l,e0::S,hl,h,hK,hF,j,o,ho=>by
  have tail:∀(j:Nat)o,(b7m ws (i+1) l)[j]?=some o->∃e:OE,(S++ [.row 0 0 none 0 0 []])[j]?=some e/\RelO T.rp Ky R F o e:=
   d7d (by simpa using hl) (fun j o hj=>by simpa using h (j+1) o (by simpa using hj)) (fun j e hj=>by
    have:=hK (j+1) e (by simpa using hj)
    rwa [Nat.add_right_comm i 1 j,Nat.add_assoc]) hF
  obtain⟨e1,g1,g2⟩:=h 0 x rfl;simp only [List.getElem?_cons_zero,Option.some.injEq]at g1;subst g1;have hk:Ky.K i=e0:=hK 0 e0 rfl;have go:∀y,(y::b7m ws (i+1) l)[j]?=some o->RelO T.rp Ky R F y e0->∃e:OE,(e0::S++ [.row 0 0 none 0 0 []])[j]?=some e/\RelO T.rp Ky R F o e:=by
   intro y hy hr;cases j with
   |zero=>simp at hy;subst hy;exact⟨e0,rfl,hr⟩
   |succ j=>simpa using tail j o (by simpa using hy)
  cases x<;>simp only [b7m]at ho
  case box t cs=>
   split at ho
   ·exact go _ ho g2
   exact go _ ho ⟨hk.symm,g2⟩
  case row e q c xs=>
   split at ho
   ·exact go _ ho g2
   exact go _ ho ⟨hk.symm,g2⟩
  all_goals exact go _ ho trivial
theorem f1o{R:List OE}{F:Frz}{H:List (AO T.ty)}{S:List OE}(h:RelH T.rp Kz R F H S):RelH T.rp Ky R F (curH H) S:=by
 have e:∀H:List (AO T.ty),curH H=H.map curO:=fun H=>by
  induction H with
  |nil=>rfl
  |cons o l ih=>rw [curH,ih];rfl
 refine⟨by rw [e];simpa using h.1,fun i o ho=> ?_⟩;rw [e,List.getElem?_map]at ho;obtain⟨o',h1,rfl⟩:=Option.map_eq_some_iff.1 ho;obtain⟨en,h2,h3⟩:=h.2 i o' h1;refine⟨en,h2,?_⟩;cases o' with
 |box t cs=>exact h3
 |row el q c xs=>exact h3
 |gone=>trivial
 |kbox i t cs=>exact h3.2
 |krow i el q c xs=>exact h3.2
 |mark=>trivial
theorem markAt_ok:∀{H:List (AO T.ty)}{i:Nat},d2i H=some i->H[i]?=some .mark
 | [],i,h=>by cases h
 |o::l,i,h=>by
  have go:(match d2i l with|some i=>some (i+1)|none=>none)=some i->(o::l)[i]?=some .mark:=fun h=>by
   split at h
   ·rename_i j hj;cases h;simpa using markAt_ok hj
   cases h
  cases o<;>simp only [d2i]at h
  case mark=>cases h;rfl
  all_goals exact go h
theorem kq_any:∀{k:List It},noMix k=true->kq P Ky Q k=kq P Kz Q k
 | [],_=>rfl
 | .code y::k,h=>by simp only [kq];rw [kq_any (k:=k) h]
 | .blk id::k,h=>by simp only [kq];rw [kq_any (k:=k) h]
 | .scope::k,h=>by simp only [kq];rw [kq_any (k:=k) h]
 | .sem J::k,h=>by simp only [kq];rw [kq_any (k:=k) h]
 | .mixk _ _ _::_,h=>by cases h
theorem gH(p:Pl){r:ρ}{m:Option ρ}{s:St T.ty}{id:Nat}{ops:Array Oper}{k:List It}{e:AE T.ty}{H H':List (AO T.ty)}(h:evG (rn T n s)=some (id,ops,k,e,H))(hB:plOk ops p=true){ks:List Nat}(hH:stH ops e H=some (ks,H'))(hM:noMix k=true)
 (g:∀Ky,G T Q n F0 w0 X Ky r m ⟨.mix ops p ks true,k,e,H'⟩):G T Q n F0 w0 X Snap.nil r m s:=fun hm=>by
 refine a7h ?_;revert h;generalize rn T n s=s';intro h;unfold evG at h;split at h
 ·cases h;intro R F mm w h1 h2 h3 hX;obtain⟨⟨ws,h7⟩,h8⟩:=f3b hH;subst h7;subst h8;have hB:=d8a hB
  let Ky:Snap:=⟨fun i=>(R[i]?).getD (.row 0 0 none 0 0 []),F⟩
  have hk:Keep R F (R++ [.row 0 0 none 0 0 []]) F:=Keep.more (Frz.refl F);have g1:RelH T.rp Ky (R++ [.row 0 0 none 0 0 []]) F (b7m ws 0 H) (R++ [.row 0 0 none 0 0 []]):=by
   refine⟨by rw [d2q,h2.1];simp,?_⟩;exact d7d (Kz:=Snap.nil) h2.1 (fun j o hj=>by
    obtain⟨en,k1,k2⟩:=h2.2 j o hj;exact⟨en,k1,k2.mono hk⟩) (fun j e hj=>by show(R[0+j]?).getD _=e;rw [Nat.zero_add,hj];rfl) (Frz.refl F)
  have:=c0j (P:=P) (Q:=kq P Ky Q k) (id:=id) (l:=ops.toList) (env:=mm) (n:=n) (SK Ky (b9y (b7m ws 0 H))) ops.size (by simp) T.mix h3 (fun w' h4=>by
   have h5:HS F0 w0 X F (R++ [.row 0 0 none 0 0 []]) w':=(h4.nilRow 0 0).addEnd;have h6:=g Ky hm _ F mm w' (h1.mono hk) g1 h5 (hX.keep hk) (fun _=>Frz.refl F) _ hB.1;rw [Nat.eq_of_beq_eq_true hB.2]at h6;simpa using h6)
  show CW P _ _ _ _ _;have e2:kq P Ky Q k=kq P Snap.nil Q k:=kq_any hM;rw [<-e2];simpa using this
 cases h
def plOf:List (Nat×Pl)->Nat->Pl
 | [],_=> .nil
 |(i,p)::l,j=>match Nat.beq i j with
  |true=>p
  |false=>plOf l j
theorem gHs(l:List (Nat×Pl)){r:ρ}{m:Option ρ}{s:St T.ty}{id:Nat}{ops:Array Oper}{k:List It}{e:AE T.ty}{H H':List (AO T.ty)}(h:evG (rn T n s)=some (id,ops,k,e,H))(hB:plOk ops (plOf l id)=true){ks:List Nat}(hH:stH ops e H=some (ks,H'))(hM:noMix k=true)
 (g:∀Ky,G T Q n F0 w0 X Ky r m ⟨.mix ops (plOf l id) ks true,k,e,H'⟩):G T Q n F0 w0 X Snap.nil r m s:=gH (plOf l id) h hB hH hM g
def evHe(s:St T.ty):Option (St T.ty):=match s with
 |⟨.mix _ .nil _ _,k,e,H⟩=>match noMix k,d2i H with
  |true,some j=>match frc (curH H)with
   |some H2=>match e6u j e H2 with
    |some H'=>some ⟨.out .normal,k,e,H'⟩
    |none=>some ⟨.out .normal,k,e,H2⟩
   |none=>none
  |_,_=>none
 |_=>none
theorem gHe{r:ρ}{m:Option ρ}{s s':St T.ty}(h:evHe (rn T n s)=some s')(g:G T Q n F0 w0 X Snap.nil r m s'):G T Q n F0 w0 X Ky r m s:=fun hm=>by
 refine a7h ?_;revert h;generalize rn T n s=s2;intro h;unfold evHe at h;split at h
 ·rename_i all ks el k e H;split at h
  ·rename_i j hM hj;intro R F mm w h1 h2 h3 hX hF listed hp;refine b8l (by simpa [b8v]using hp) ?_;rw [kq_any (Ky:=Ky) (Kz:=Snap.nil) (Q:=Q) hM];split at h
   case h_2=>cases h
   rename_i H2 hH2;have h4:RelH T.rp Snap.nil R F H2 R:=d7k hH2▸f1o h2;split at h
   ·rename_i H' ht;cases h;obtain⟨en,k1,_,el0,q,a,mm0,nn0,us,k2⟩:=h2.2 j _ (markAt_ok hj);subst k2;have hx:X.length<=j:=by
     rcases Nat.lt_or_ge j X.length with hlt|hge
     ·obtain⟨t,cs,k3⟩:=hX.1 j X[j] (List.getElem?_eq_getElem hlt);rw [k1]at k3;cases k3
     exact hge
    obtain⟨R',g1,g2,g3,g4⟩:=d7h ht h1 h4 h3 hX hx;exact g hm R' F mm w g1 g2 g3 g4
   cases h;exact g hm R F mm w h1 h4 h3 hX
  cases h
 cases h
def evH2(s:St T.ty):Option (St T.ty×St T.ty):=match s with
 |⟨.mix all (.two i j p q) ks _,k,e,H⟩=>match all[i]?,all[j]? with
  |some o,some o'=>some (⟨.ops all [o],.mixk all p ks::k,e,H⟩,⟨.ops all [o'],.mixk all q ks::k,e,H⟩)
  |_,_=>none
 |_=>none
theorem gH2{r:ρ}{m:Option ρ}{s s1 s2:St T.ty}(h:evH2 (rn T n s)=some (s1,s2))(g1:G T Q n F0 w0 X Ky r m s1)(g2:G T Q n F0 w0 X Ky r m s2):G T Q n F0 w0 X Ky r m s:=fun hm=>by
 refine a7h ?_;revert h;generalize rn T n s=s0;intro h;unfold evH2 at h;split at h
 ·rename_i all i j p q ks el k e H;split at h
  ·rename_i o o' hi hj;cases h;intro R F mm w h1 h2 h3 hX hF listed hp;simp only [b8v,Bool.and_eq_true]at hp;obtain⟨⟨⟨p1,p2⟩,p3⟩,p4⟩:=hp;have p2:=Nat.eq_of_beq_eq_true p2;intro a ha;refine wpAnyH_all (rs:= [i,j]) (by simpa using p1) (by simp) ?_;intro x hx;simp only [List.mem_cons,List.not_mem_nil,or_false]at hx;rcases hx with rfl|rfl
   ·exact e5w x hi (fun a w' g=>⟨g.1,g.2 _ p3⟩) (g1 hm R F mm w h1 h2 h3 hX) a ha
   refine e5w x hj (fun a w' g=>⟨g.1,?_⟩) (g2 hm R F mm w h1 h2 h3 hX) a ha;have:=g.2 _ p4
   rwa [<-p2]at this
  cases h
 cases h
end
set_option linter.unusedVariables false
set_option linter.unusedSimpArgs false
structure Fv{P:Program}(T:Tbl P)where
 α:Type
 ρ:Type
 az:α->List (AV T.ty)
 m:α->Option ρ
 res:ρ->AV T.ty
section
variable{P:Program}{T:Tbl P}
def FvV(T:Tbl P)(F:Frz)(u:Value)(Φ:Fv T):Prop:=∃f cap,u= .func (.func f) #[] cap/\Ent P f/\∀F',F.le F'->T.gl F'->∀(q:Φ.α)r,Φ.m q=some r->∀w us,Sat F' w->ConcL T.rp [] F' (Φ.az q) us-> Calls P f (us.toArray++cap) w fun e w'=>∃v F2,e= .returned v/\HS F' w [] F2 [] w'/\Conc T.rp [] F2 (Φ.res r) v
theorem FvV.mono{F F':Frz}{u:Value}{Φ:Fv T}(hF:F.le F')(h:FvV T F u Φ):FvV T F' u Φ:=by
 obtain⟨f,cap,h1,h2,h3⟩:=h;exact⟨f,cap,h1,h2,fun F2 hF2=>h3 F2 (hF.trans hF2)⟩
def Tbl.plus(T:Tbl P)(Φ:Fv T)(u:Value):Tbl P:={T with
 gl:=fun F=>T.gl F/\FvV T F u Φ
 glMono:=fun hF h=>⟨T.glMono hF h.1,h.2.mono hF⟩}
theorem FnC.up{Φ:Fv T}{u:Value}{f:FuncId}{ρ:Type}{az:List (AV T.ty)}{m:Option ρ}{res:ρ->AV T.ty}(h:FnC T f az m res):FnC (T.plus Φ u) f az m res:=
 ⟨h.1,fun r hr w F hs hg=>h.2 r hr w F hs hg.1⟩
def FnH(T:Tbl P)(f:FuncId){ρ:Type}(az:List (AV T.ty))(Φ:Fv T)(m:Option ρ)(res:ρ->AV T.ty):Prop:= Ent P f/\∀r,m=some r->∀w F,Sat F w->T.gl F->∀us u,ConcL T.rp [] F az us->FvV T F u Φ->Calls P f (us++ [u]).toArray w fun e w'=>∃v F',e= .returned v/\HS F w [] F' [] w'/\Conc T.rp [] F' (res r) v
theorem FnH.up{Φ Ψ:Fv T}{u:Value}{f:FuncId}{ρ:Type}{az:List (AV T.ty)}{m:Option ρ}{res:ρ->AV T.ty}(h:FnH T f az Φ m res):FnH (T.plus Ψ u) f az ⟨Φ.α,Φ.ρ,Φ.az,Φ.m,Φ.res⟩ m res:=
 ⟨h.1,fun r hr w F hs hg us u2 hu hv=>h.2 r hr w F hs hg.1 us u2 hu (by
  obtain⟨f2,cap,g1,g2,g3⟩:=hv;exact⟨f2,cap,g1,g2,fun F' hF' hgl q r hr w us hs hc=>g3 F' hF' ⟨hgl,hg.2.mono hF'⟩ q r hr w us hs hc⟩)⟩
variable{n:Nat}{F0:Frz}{w0:World}{X:List Nat}{ρ:Type}{Q:Exit->Act->World->Prop}{Kz Ky:Snap}
theorem b4d{f:FuncId}{fn:Func}{c:Code}(hf:P.funcs[f]?=some fn)(hb:fn.body=some c)(hn:fn.ntmps=n){az:List (AV T.ty)}(hle:Nat.ble (az.length+1) n=true)(he:Ent P f){Φ:Fv T}{m:Option ρ}{res:ρ->AV T.ty}
 (h:∀F0 w0 r u,G (T.plus Φ u) (retQ (T.plus Φ u) fn F0 w0 res r) n F0 w0 [] Snap.nil r m ⟨.code c,[],argE 0 (az++ [.val u]),[]⟩):FnH T f az Φ m res:=by
 refine⟨he,fun r hr w F hs hg us u hus hv=> ?_⟩;refine a3c n hf hb hn (by rw [List.length_append,hus.len];exact hle) ?_;have h1:ConcL T.rp [] F (az++ [.val u]) (us++ [u]):=hus.app ⟨u,[],rfl,rfl,rfl⟩;exact h F w r u hr [] F _ w (b9i 0 h1) ⟨rfl,fun i o hi=>by simp at hi⟩ (HS.init hs) ⟨fun j b hb=>(by simp at hb),hg,hv⟩
end
section
variable{P:Program}(T:Tbl P)
def e3s{α:Type}:List α->Option (List α×α)
 | []=>none
 | [x]=>some ([],x)
 |x::l=>match e3s l with
  |some (r,y)=>some (x::r,y)
  |none=>none
structure HV(ty:Nat->Type)where
 f:FuncId
 az:List (AV ty)
 y:AV ty
 nx:AV ty->St ty
def evKh(n:Nat)(s:St T.ty):Option (HV T.ty):=match s with
 |⟨.ops all (o::l),k,e,H⟩=>match a9a all e o.guard,o.dst,o.op with
  |true,some d,.call ⟨.value c,args,_⟩=>match Nat.blt d n,opA e c,opL e args.toList with
   |true,some y,some az=>match calA y with
    |some (f,[])=>match frzW T (H.length+1) az e H with
     |some (as',e',H')=>match e3s as' with
      |some (as2,z)=>some ⟨f,as2,z,fun v=>⟨.ops all l,k,(d,v)::e',H'⟩⟩
      |none=>none
     |none=>none
    |_=>none
   |_,_,_=>none
  |_,_,_=>none
 |_=>none
def evKf(n:Nat)(s:St T.ty):Option (AV T.ty×List (AV T.ty)×(AV T.ty->St T.ty)):=match s with
 |⟨.ops all (o::l),k,e,H⟩=>match a9a all e o.guard,o.dst,o.op with
  |true,some d,.call ⟨.value c,args,_⟩=>match Nat.blt d n,opA e c,opL e args.toList with
   |true,some y,some az=>match frzW T (H.length+1) az e H with
    |some (as',e',H')=>some (y,as',fun v=>⟨.ops all l,k,(d,v)::e',H'⟩)
    |none=>none
   |_,_,_=>none
  |_,_,_=>none
 |_=>none
end
section
variable{P:Program}{T:Tbl P}{n:Nat}{F0:Frz}{w0:World}{X:List Nat}{ρ:Type}{Q:Exit->Act->World->Prop}{Kz Ky:Snap}
theorem d5p{α:Type}:∀{l r:List α}{y:α},e3s l=some (r,y)->l=r++ [y]
 | [],_,_,h=>by cases h
 | [x],_,_,h=>by cases h;rfl
 |x::x2::l,r,y,h=>by
  simp only [e3s]at h;split at h
  ·rename_i r' y' h';cases h;rw [d5p h'];rfl
  cases h
theorem ConcL.split{ty:Nat->Type}{rp:∀c,Rp (ty c)}{R:List OE}{F:Frz}:∀{l l2:List (AV ty)}{us:List Value},ConcL rp R F (l++l2) us->∃a b,us=a++b/\ConcL rp R F l a/\ConcL rp R F l2 b
 | [],l2,us,h=>⟨[],us,rfl,rfl,h⟩
 |x::l,l2,us,⟨v,k,h1,h2,h3⟩=>by
  obtain⟨a,b,e,g1,g2⟩:=ConcL.split h3;exact⟨v::a,b,by rw [h1,e];rfl,⟨v,a,rfl,h2,g1⟩,g2⟩
def FvA(T:Tbl P)(y:AV T.ty)(Φ:Fv T):Prop:=∀R F v,T.gl F->Conc T.rp R F y v->FvV T F v Φ
theorem fvA{y:AV T.ty}{Φ:Fv T}{f:FuncId}{caps:List (AV T.ty)}(hy:calA y=some (f,caps))(hp:a9d caps=true)(hF:∀q,FnC T f (Φ.az q++caps) (Φ.m q) Φ.res)(q0:Φ.α):FvA T y Φ:=by
 intro R F v hg hc;obtain⟨cs,rfl,g⟩:=d3j hy hc;refine⟨f,cs.toArray,rfl,(hF q0).1,fun F' hF' hgl q r hr w us hs hu=> ?_⟩;have:=(hF q).2 r hr w F' hs hgl (us++cs) (hu.app ((g.pure hp).mono (d2f hF')));simpa using this
theorem b8a{Φ:Fv T}{u:Value}:FvA (T.plus Φ u) (.val u) ⟨Φ.α,Φ.ρ,Φ.az,Φ.m,Φ.res⟩:=by
 intro R F v hg hc;simp only [Conc]at hc;subst hc;obtain⟨f,cap,h1,h2,h3⟩:=hg.2;exact⟨f,cap,h1,h2,fun F' hF' hgl q r hr w us hs hu=>h3 F' hF' hgl.1 q r hr w us hs hu⟩
theorem e8t{s:St T.ty}{q:HV T.ty}(h:evKh T n s=some q){σ:Type}{az:List (AV T.ty)}{Φ:Fv T}{mr:Option σ}{res:σ->AV T.ty}(hF:FnH T q.f az Φ mr res)(hc:cnvL q.az az=az)(hp:a9d az=true)(hv:FvA T q.y Φ){r:σ}(hr:mr=some r)
 (k:Sm T Q n F0 w0 X Kz (q.nx (res r))):Sm T Q n F0 w0 X Kz s:=by
 unfold evKh at h;split at h
 ·rename_i all o l its e H;split at h
  ·rename_i d c args ts hg hd ho;split at h
   ·rename_i y as0 hn hf hl;split at h
    ·rename_i f hcal;split at h
     ·rename_i as' e' H' hz;split at h
      ·rename_i as2 z hla;cases h;dsimp only at hF hc k hv;intro R F m w h1 h2 h3 hX;obtain⟨us,g1,g2⟩:=c1a h1 hl;obtain⟨u,g3,g4⟩:=a0r h1 hf;obtain⟨cs,rfl,g5⟩:=d3j hcal g4;simp only [ConcL]at g5;subst g5;obtain⟨R',F',k1,k2,k3,k4,k5,k6⟩:=b0q hz h1 h2 h3 hX g2;rw [d5p hla]at k6;obtain⟨us1,us2,rfl,k61,k62⟩:=k6.split;obtain⟨uz,_,rfl,k8,k9⟩:=k62;simp only [ConcL]at k9;subst k9;have k7:=(k61.cnv az)
       rw [hc]at k7;obtain⟨dst,op,type,pos,after,guard⟩:=o;dsimp only at hg hd ho;subst hd;subst ho;have:=a1q (P:=P) (Q:=kq P Kz Q its) (opr:=all) (rest:=l) (ty:=type) (pos:=pos) (es:=after) (ts:=ts) (R:=fun v F' O'=>O'= []/\Conc T.rp [] F' (res r) v) hF.1 (a2g h1 hg) hn g3 g1 k4
        ((hF.2 r hr w F' k4.sat k5.2 us1 uz (k7.pure hp) (hv R' F' uz k5.2 k8)).mono fun _ _⟨v,F2,e1,e2,e3⟩=>⟨v,F2,[],e1,e2,rfl,e3⟩)
        (fun v F2 O' w' hle hS⟨e1,e2⟩=>by
         subst e1;exact k R' F2 ((d,v)::m) w' ((k2.mono (Keep.frz hle)).put (e2.mono (d2f (Frz.refl F2)))) (k3.mono (Keep.frz hle)) hS (k5.keep (Keep.frz hle)))
       show RW P all _ _ _ _ _;simpa using this
      cases h
     cases h
    cases h
   cases h
  cases h
 cases h
theorem f1j{s:St T.ty}{y:AV T.ty}{as0:List (AV T.ty)}{nx:AV T.ty->St T.ty}(h:evKf T n s=some (y,as0,nx)){Φ:Fv T}(hv:FvA T y Φ){q:Φ.α}(hc:cnvL as0 (Φ.az q)=Φ.az q)(hp:a9d (Φ.az q)=true){r:Φ.ρ}(hr:Φ.m q=some r)
 (k:Sm T Q n F0 w0 X Kz (nx (Φ.res r))):Sm T Q n F0 w0 X Kz s:=by
 unfold evKf at h;split at h
 ·rename_i all o l its e H;split at h
  ·rename_i d c args ts hg hd ho;split at h
   ·rename_i y' as1 hn hf hl;split at h
    ·rename_i as' e' H' hz;cases h;intro R F m w h1 h2 h3 hX;obtain⟨us,g1,g2⟩:=c1a h1 hl;obtain⟨u,g3,g4⟩:=a0r h1 hf;obtain⟨f,cap,rfl,hE,hC⟩:=hv R F u hX.2 g4;obtain⟨R',F',k1,k2,k3,k4,k5,k6⟩:=b0q hz h1 h2 h3 hX g2;have k7:=(k6.cnv (Φ.az q))
     rw [hc]at k7;obtain⟨dst,op,type,pos,after,guard⟩:=o;dsimp only at hg hd ho;subst hd;subst ho;have:=d4o (P:=P) (Q:=kq P Kz Q its) (opr:=all) (rest:=l) (ty:=type) (pos:=pos) (es:=after) (ts:=ts) (first:= #[]) (cap:=cap) (R:=fun v F' O'=>O'= []/\Conc T.rp [] F' (Φ.res r) v) hE (a2g h1 hg) hn g3 g1 k4
      (by
       have h9:=(hC F' k1 k5.2 q r hr w us k4.sat (k7.pure hp)).mono fun _ _⟨v,F2,e1,e2,e3⟩=>(⟨v,F2,[],e1,e2,rfl,e3⟩:∃v F2 O',_=Ending.returned v/\HS F' w [] F2 O' _/\O'= []/\Conc T.rp [] F2 (Φ.res r) v)
       simpa using h9)
      (fun v F2 O' w' hle hS⟨e1,e2⟩=>by
       subst e1;exact k R' F2 ((d,v)::m) w' ((k2.mono (Keep.frz hle)).put (e2.mono (d2f (Frz.refl F2)))) (k3.mono (Keep.frz hle)) hS (k5.keep (Keep.frz hle)))
     show RW P all _ _ _ _ _;simpa using this
    cases h
   cases h
  cases h
 cases h
theorem gKh{r:ρ}{σ:Type}{x:Option σ}{g:σ->Option ρ}{f:FuncId}{as0 az:List (AV T.ty)}{y:AV T.ty}{Φ:Fv T}{res:σ->AV T.ty}{nx:AV T.ty->St T.ty}{s:St T.ty}(hF:FnH T f az Φ x res)(h:evKh T n (rn T n s)=some ⟨f,as0,y,nx⟩)(hc:cnvL as0 az=az)(hp:a9d az=true)(hv:FvA T y Φ)
 (k:∀v,G T Q n F0 w0 X Kz r (g v) (nx (res v))):G T Q n F0 w0 X Kz r (x.bind g) s:=fun hm=>by
 obtain⟨v,hv',hm⟩:=bind_some hm;exact a7h (e8t h hF hc hp hv hv' (k v hm))
theorem gKf{r:ρ}{y:AV T.ty}{Φ:Fv T}(hv:FvA T y Φ)(q:Φ.α){g:Φ.ρ->Option ρ}{as0:List (AV T.ty)}{nx:AV T.ty->St T.ty}{s:St T.ty}(h:evKf T n (rn T n s)=some (y,as0,nx))(hc:cnvL as0 (Φ.az q)=Φ.az q)(hp:a9d (Φ.az q)=true)
 (k:∀v,G T Q n F0 w0 X Kz r (g v) (nx (Φ.res v))):G T Q n F0 w0 X Kz r ((Φ.m q).bind g) s:=fun hm=>by
 obtain⟨v,hv',hm⟩:=bind_some hm;exact a7h (f1j h hv hc hp hv' (k v hm))
theorem gKv{Φ:Fv T}{u:Value}{r:ρ}(q:Φ.α){g:Φ.ρ->Option ρ}{as0:List (AV T.ty)}{nx:AV T.ty->St T.ty}{s:St T.ty}(h:evKf (T.plus Φ u) n (rn (T.plus Φ u) n s)=some (.val u,as0,nx))(hc:cnvL as0 (Φ.az q)=Φ.az q)(hp:a9d (Φ.az q)=true)
 (k:∀v,G (T.plus Φ u) Q n F0 w0 X Kz r (g v) (nx (Φ.res v))):G (T.plus Φ u) Q n F0 w0 X Kz r ((Φ.m q).bind g) s:=
 gKf (T:=T.plus Φ u) (Φ:=⟨Φ.α,Φ.ρ,Φ.az,Φ.m,Φ.res⟩) b8a q h hc hp k
end
mutual
def AV.subB{ty:Nat->Type}(i:Nat)(r:Nat->AV ty)(s:Nat->Nat->AV ty):AV ty->AV ty | .agg l=> .agg (AV.subBL i r s l) | .tup l=> .tup (AV.subBL i r s l) | .clo f l=> .clo f (AV.subBL i r s l) | .fb l o=> .fb (AV.subBL i r s l) o | .bx j o=>bif Nat.beq j i then r o else .bx j o | .sb j c k=>bif Nat.beq j i then s c k else .sb j c k | .rel j c x p o=> .rel j c x p o | .row j=> .row j | .rw j lo hi=> .rw j lo hi | .int k x=> .int k x | .bool b=> .bool b | .ob b=> .ob b | .lb c b=> .lb c b | .str l=> .str l | .val v=> .val v | .sl c xs=> .sl c xs | .el c x o=> .el c x o | .any=> .any
def AV.subBL{ty:Nat->Type}(i:Nat)(r:Nat->AV ty)(s:Nat->Nat->AV ty):List (AV ty)->List (AV ty) | []=> [] |x::l=>AV.subB i r s x::AV.subBL i r s l end
def e4p{ty:Nat->Type}(i:Nat)(r:Nat->AV ty)(s:Nat->Nat->AV ty):AE ty->AE ty | []=> [] |p::l=>(p.1,AV.subB i r s p.2)::e4p i r s l
def AO.subB{ty:Nat->Type}(i:Nat)(r:Nat->AV ty)(s:Nat->Nat->AV ty):AO ty->AO ty | .box T cs=> .box T (AV.subBL i r s cs) | .row e q c xs=> .row e q c xs | .gone=> .gone | .kbox j T cs=> .kbox j T (AV.subBL i r s cs) | .krow j e q c xs=> .krow j e q c xs | .mark=> .mark
def d4l{ty:Nat->Type}(i:Nat)(r:Nat->AV ty)(s:Nat->Nat->AV ty):List (AO ty)->List (AO ty) | []=> [] |o::l=>o.subB i r s::d4l i r s l
section
variable{ty:Nat->Type}{rp:∀c,Rp (ty c)}{R R':List OE}{F F':Frz}
structure TurnB(rp:∀c,Rp (ty c))(i:Nat)(r:Nat->AV ty)(s:Nat->Nat->AV ty)(R:List OE)(F:Frz)(R':List OE)(F':Frz):Prop where
 le:F.le F'
 box:∀(j b:Nat)T(cs:List Value),j≠i->R[j]?=some (.box b T cs)->R'[j]?=some (.box b T cs)
 row:∀(j:Nat)e q a m n(xs:List Value),R[j]?=some (.row e q a m n xs)->R'[j]?=some (.row e q a m n xs)
 at1:∀o v,Conc rp R F (.bx i o) v->Conc rp R' F' (r o) v
 at2:∀c k v,Conc rp R F (.sb i c k) v->Conc rp R' F' (s c k) v
variable{i:Nat}{r:Nat->AV ty}{s:Nat->Nat->AV ty}
mutual
theorem Conc.subB(t:TurnB rp i r s R F R' F'):∀{x:AV ty}{v:Value},Conc rp R F x v->Conc rp R' F' (AV.subB i r s x) v
 | .int k x,v,h=>h
 | .bool b,v,h=>h
 | .ob b,v,h=>h
 | .lb c b,v,h=>h
 | .str l,v,h=>h
 | .val u,v,h=>h
 | .agg l,v,⟨cs,h1,h2⟩=>⟨cs,h1,ConcL.subB t h2⟩
 | .tup l,v,⟨cs,h1,h2⟩=>⟨cs,h1,ConcL.subB t h2⟩
 | .sl c xs,v,⟨a,m,n,h1,h2⟩=>⟨a,m,n,h1,h2.mono t.le⟩
 | .bx j o,v,h=>by
  unfold AV.subB;cases hb:Nat.beq j i with
  |true=>obtain rfl:=Nat.eq_of_beq_eq_true hb;exact t.at1 o v h
  |false=>
   obtain⟨b,T,cs,h1,h2⟩:=h;exact⟨b,T,cs,t.box j b T cs (Nat.ne_of_beq_eq_false hb) h1,h2⟩
 | .sb j c k,v,h=>by
  unfold AV.subB;cases hb:Nat.beq j i with
  |true=>obtain rfl:=Nat.eq_of_beq_eq_true hb;exact t.at2 c k v h
  |false=>
   obtain⟨b,T,cs,h1,h2⟩:=h;exact⟨b,T,cs,t.box j b T cs (Nat.ne_of_beq_eq_false hb) h1,h2⟩
 | .el c x o,v,⟨b,p,cs,h1,h2,h3⟩=>⟨b,p,cs,h1.mono t.le,(rp c).mono t.le h2,h3⟩
 | .row j,v,⟨e,q,a,m,n,xs,h1,h2⟩=>⟨e,q,a,m,n,xs,t.row j e q a m n xs h1,h2⟩
 | .rel j c x p o,v,⟨e,b,m,n,us,cs,h1,h2,h3,h4⟩=>⟨e,b,m,n,us,cs,t.row j e _ _ m n us h1,h2,(rp c).mono t.le h3,h4⟩
 | .rw j lo hi,v,⟨e,q,b,m,n,xs,h1,h2⟩=>⟨e,q,b,m,n,xs,t.row j e q _ m n xs h1,h2⟩
 | .any,v,_=>trivial
 | .clo f l,v,⟨cs,h1,h2⟩=>⟨cs,h1,ConcL.subB t h2⟩
 | .fb l o,v,⟨b,cs,h1,h2,h3⟩=>⟨b,cs,h1,h2.mono t.le,ConcL.subB t h3⟩
theorem ConcL.subB(t:TurnB rp i r s R F R' F'):∀{l:List (AV ty)}{cs:List Value},ConcL rp R F l cs->ConcL rp R' F' (AV.subBL i r s l) cs
 | [],_,h=>h
 |_::_,_,⟨v,k,h1,h2,h3⟩=>⟨v,k,h1,Conc.subB t h2,ConcL.subB t h3⟩
 end
theorem ConcE.subB(t:TurnB rp i r s R F R' F'):∀{l:AE ty}{m:Env},ConcE rp R F l m->ConcE rp R' F' (e4p i r s l) m
 | [],_,h=>h
 |_::_,_,⟨v,k,h1,h2,h3⟩=>⟨v,k,h1,Conc.subB t h2,ConcE.subB t h3⟩
theorem RelO.subB{K:Snap}(t:TurnB rp i r s R F R' F'){o:AO ty}{e:OE}(h:RelO rp K R F o e):RelO rp K R' F' (o.subB i r s) e:=by
 cases o with
 |box T cs=>obtain⟨b,us,h1,h2⟩:=h;exact⟨b,us,h1,h2.subB t⟩
 |row el q c xs=>obtain⟨a,m,n,us,h1,h2⟩:=h;exact⟨a,m,n,us,h1,h2.mono t.le⟩
 |gone=>trivial
 |kbox j T cs=>obtain⟨h0,b,us,h1,h2⟩:=h;exact⟨h0,b,us,h1,h2.subB t⟩
 |krow j el q c xs=>obtain⟨h0,a,m,n,us,h1,h2⟩:=h;exact⟨h0,a,m,n,us,h1,h2.mono t.le⟩
 |mark=>exact⟨h.1.trans t.le,h.2⟩
theorem c4y(i:Nat)(r:Nat->AV ty)(s:Nat->Nat->AV ty):∀H:List (AO ty),d4l i r s H=H.map (AO.subB i r s)
 | []=>rfl
 |o::l=>by rw [d4l,c4y i r s l];rfl
theorem RelH.subB{K:Snap}{H:List (AO ty)}{S:List OE}(t:TurnB rp i r s R F R' F')(h:RelH rp K R F H S):RelH rp K R' F' (d4l i r s H) S:=by
 refine⟨by rw [c4y];simpa using h.1,fun j o ho=> ?_⟩;rw [c4y,List.getElem?_map]at ho;obtain⟨o',h1,rfl⟩:=Option.map_eq_some_iff.1 ho;obtain⟨e,h2,h3⟩:=h.2 j o' h1;exact⟨e,h2,h3.subB t⟩
end
theorem d8k{F0 F:Frz}{w0 w:World}{X:List Nat}{O:List OE}(h:HS F0 w0 X F O w){i b:Nat}{t:TypeId}{cs:List Value}(hi:O[i]?=some (.box b t cs))(hge:w0.heap.size<=b):
 ∃F',F.le F'/\HS F0 w0 X F' (O.set i (.row 0 0 none 0 0 [])) w/\FC F' b 0 cs:=by
 obtain⟨hlt,hget⟩:=List.getElem?_eq_some_iff.1 hi;have hperm:HS F0 w0 X F (.box b t cs::O.eraseIdx i) w:=by
  refine⟨h.sat,h.le,h.new,fun x hx=> ?_,fun x hx=> ?_,?_,h.os,h.tape,h.output,h.size,h.old⟩
  ·rcases List.mem_cons.1 hx with rfl|hx
   ·exact h.get hi
   exact h.own x ((List.eraseIdx_sublist O i).subset hx)
  ·rcases List.mem_cons.1 hx with rfl|hx
   ·exact h.sep _ (List.mem_of_getElem? hi)
   exact h.sep x ((List.eraseIdx_sublist O i).subset hx)
  refine List.pairwise_cons.2 ⟨fun x hx b hb1 hb2=> ?_,h.dis.sublist (List.eraseIdx_sublist O i)⟩;obtain⟨j,hj,hne,hxj⟩:∃j,∃hj:j<O.length,j≠i/\O[j]=x:=by
   obtain⟨p,hp,rfl⟩:=List.mem_iff_getElem.1 hx;rw [List.getElem_eraseIdx];have hp':p<O.length-1:=by rw [List.length_eraseIdx]at hp;simp [hlt]at hp;exact hp
   split
   ·exact⟨p,by omega,by omega,rfl⟩
   exact⟨p+1,by omega,by omega,rfl⟩
  have hp:=List.pairwise_iff_getElem.1 h.dis;rcases Nat.lt_or_ge j i with h1|h1
  ·exact hp j i hj hlt h1 b (hxj▸hb2) (hget▸hb1)
  exact hp i j hlt hj (by omega) b (hget▸hb1) (hxj▸hb2)
 have hown:w.heap[b]?=some (.cells cs.toArray t (0,0)):=h.get hi;have hsep:=hperm.sep _ (List.mem_cons_self ..) b rfl;have hle:F.le (fun k=>if k=b then some (.cells cs.toArray t (0,0))else F k):=c6h hsep.1;exact⟨_,hle,((hperm.freeze rfl rfl hge hown).nilRow 0 0).perm (c9q _ _ _ hlt),⟨cs.toArray,t,(0,0),by simp,by simp⟩⟩
section
variable{P:Program}{T:Tbl P}{n:Nat}{F0:Frz}{w0:World}{X:List Nat}{ρ:Type}{Q:Exit->Act->World->Prop}{Kz:Snap}
def anyS{ty:Nat->Type}:Nat->Nat->AV ty:=fun _ _=> .any
theorem e9k{R:List OE}{F:Frz}{w:World}(hS:HS F0 w0 X F R w)(hX:LX X R){i b:Nat}{t:TypeId}{cs:List Value}(hi:R[i]?=some (.box b t cs))(hx:X.length<=i):w0.heap.size<=b:=by
 rcases(hS.sep _ (List.mem_of_getElem? hi) b rfl).2 with h|h
 ·exact h
 exfalso;obtain⟨j,hj0⟩:=List.mem_iff_getElem?.1 h;obtain⟨t',cs',hj⟩:=hX j b hj0;have hjl:=(List.getElem?_eq_some_iff.1 hj0).1;obtain⟨hj1,hj2⟩:=List.getElem?_eq_some_iff.1 hj;obtain⟨hlt,hget⟩:=List.getElem?_eq_some_iff.1 hi;have hp:=List.pairwise_iff_getElem.1 hS.dis;exact hp j i hj1 hlt (by omega) b (by rw [hj2];rfl) (by rw [hget];rfl)
theorem f3j{R:List OE}{F:Frz}{w:World}{H:List (AO T.ty)}{i:Nat}{t:TypeId}{cs:List (AV T.ty)}{r:Nat->AV T.ty}{s:Nat->Nat->AV T.ty}(hH:RelH T.rp Kz R F H R)(hS:HS F0 w0 X F R w)(hX:LG T X R F)(hi:H[i]?=some (.box t cs))(hp:a9d cs=true)(hx:X.length<=i)
 (h1:∀(R':List OE)(F':Frz)(b:Nat)(us:List Value),FC F' b 0 us->ConcL T.rp R' F' cs us->(∀o,Conc T.rp R' F' (r o) (.pointer (some ⟨b,o,none⟩)))/\∀c k,Conc T.rp R' F' (s c k) (.slice (some ⟨b,0,none⟩) k k)):
 ∃R' F',TurnB T.rp i r s R F R' F'/\RelH T.rp Kz R' F' ((d4l i r s H).set i .gone) R'/\HS F0 w0 X F' R' w/\LG T X R' F':=by
 obtain⟨en,g1,b,us,rfl,g2⟩:=hH.2 i _ hi;obtain⟨hlt,hget⟩:=List.getElem?_eq_some_iff.1 g1;obtain⟨F',hle,g3,g4⟩:=d8k hS g1 (e9k hS hX.1 g1 hx);have g5:=h1 (R.set i (.row 0 0 none 0 0 [])) F' b us g4 ((g2.mono (Keep.frz hle)).pure hp);have hT:TurnB T.rp i r s R F (R.set i (.row 0 0 none 0 0 [])) F':=by
  refine⟨hle,fun j b' t' us' hji hj=> ?_,fun j e q a m n xs hj=> ?_,fun o v hv=> ?_,fun c k v hv=> ?_⟩
  ·rw [List.getElem?_set,if_neg (fun e=>hji e.symm)];exact hj
  ·rw [List.getElem?_set,if_neg (fun e=>by subst e;rw [g1]at hj;cases hj)];exact hj
  ·obtain⟨b',t',us',h2,rfl⟩:=hv;rw [g1]at h2;cases h2;exact g5.1 o
  obtain⟨b',t',us',h2,rfl⟩:=hv;rw [g1]at h2;cases h2;exact g5.2 c k
 refine⟨_,F',hT,(hH.subB hT).set i trivial,g3,fun j b' hb=> ?_,T.glMono hle hX.2⟩;obtain⟨t',cs',hj⟩:=hX.1 j b' hb;have hjl:=(List.getElem?_eq_some_iff.1 hb).1;exact⟨t',cs',by rw [List.getElem?_set,if_neg (by omega)];exact hj⟩
def evFz(i:Nat)(s:St T.ty):Option (St T.ty):=match s with
 |⟨.ops all l,k,e,H⟩=>match H[i]? with
  |some (.box _ cs)=>match a9d cs,putA i .gone (d4l i (fun o=> .fb cs o) anyS H)with
   |true,some H'=>some ⟨.ops all l,k,e4p i (fun o=> .fb cs o) anyS e,H'⟩
   |_,_=>none
  |_=>none
 |_=>none
theorem gFz(i:Nat){r:ρ}{m:Option ρ}{s s':St T.ty}(h:evFz i (rn T n s)=some s')(hx:Nat.ble X.length i=true)(g:G T Q n F0 w0 X Kz r m s'):G T Q n F0 w0 X Kz r m s:=fun hm=>by
 refine a7h ?_;revert h;generalize rn T n s=s2;intro h;unfold evFz at h;split at h
 ·rename_i all l k e H;split at h
  ·rename_i t cs hi;split at h
   ·rename_i H' hp hput;cases h;intro R F mm w h1 h2 h3 hX;obtain⟨R',F',hT,g1,g2,g3⟩:=f3j (r:=fun o=> .fb cs o) (s:=anyS) h2 h3 hX hi hp (Nat.le_of_ble_eq_true hx) (fun R' F' b us hc hl=>⟨fun o=>⟨b,us,rfl,hc,hl⟩,fun _ _=>trivial⟩);rw [<-b9n hput]at g1;exact g hm R' F' mm w (h1.subB hT) g1 g2 g3
   cases h
  cases h
 cases h
def evMk(n:Nat)(s:St T.ty):Option (EV T.ty):=match s with
 |⟨.ops all (o::l),k,e,H⟩=>match a9a all e o.guard,o.dst,o.op with
  |true,some d,.makeSlice t (.tmp a) (.tmp b)=>match Nat.blt d n,Nat.beq a b,e.lookup a,T.app t with
   |true,true,some (.int _ N),some (el,q,by')=>match T.zero el,Nat.beq q (T.rp (T.cod t)).k with
    |some z,true=>match T.dec (T.cod t) (z.cells.toList.map ofC)with
     |some u=>some ⟨List (T.ty (T.cod t)),mks by' u N,fun v=>lenK H fun h=>⟨.ops all l,k,(d,.row h)::e,snoc (.row el q (T.cod t) v) H⟩⟩
     |none=>none
    |_,_=>none
   |_,_,_,_=>none
  |_,_,_=>none
 |_=>none
theorem e8m{s:St T.ty}{q:EV T.ty}(hz:∀t z,T.zero t=some z->(P.info? t).map (·.zero)=some (some z))(h:evMk n s=some q)(v:q.α)(hv:q.x=some v)(k:Sm T Q n F0 w0 X Kz (q.nx v)):Sm T Q n F0 w0 X Kz s:=by
 unfold evMk at h;simp only [b9w]at h;split at h
 ·rename_i all o l its e H;split at h
  ·rename_i d t a b hg hd ho;split at h
   ·rename_i ik N el qq by' hn hab ha happ
    split at h
    ·rename_i z hz0 hqk;split at h
     ·rename_i u hdec;cases h;dsimp only at hv k;obtain rfl:=Nat.eq_of_beq_eq_true hab;have hqk:=Nat.eq_of_beq_eq_true hqk;intro R F m w h1 h2 h3 hX;obtain⟨ua,g1,g2⟩:=h1.get ha;simp only [Conc]at g2;subst g2;obtain⟨dst,op,type,pos,after,guard⟩:=o;dsimp only at hg hd ho;subst hd;subst ho;refine d7f (r:=T.rp (T.cod t)) (T.appOk happ) (hz _ _ hz0) (fun F=>T.decOk (R:= []) hdec (concL_ofC _)) hqk (a2g h1 hg) hn h3 (show opv m (.tmp a)=_ from g1) (show opv m (.tmp a)=_ from g1) hv ?_;intro b w' xs hS hR;have hk:Keep R F (R++ [.row el qq (some ⟨b,0,none⟩) N.toNat N.toNat xs]) F:=Keep.more (Frz.refl F);refine k _ F _ w' ((h1.mono hk).put ⟨el,qq,some ⟨b,0,none⟩,_,_,xs,?_,rfl⟩) ?_ hS.addEnd (hX.keep hk)
      ·rw [h2.1];simp
      show RelH _ _ _ _ (snoc _ H) _;rw [b3m];exact(h2.mono hk).add ⟨_,_,_,xs,rfl,hR⟩
     cases h
    cases h
   cases h
  cases h
 cases h
end
mutual
def AV.subR{ty:Nat->Type}(i:Nat):AV ty->AV ty | .agg l=> .agg (AV.subRL i l) | .tup l=> .tup (AV.subRL i l) | .clo f l=> .clo f (AV.subRL i l) | .fb l o=> .fb (AV.subRL i l) o | .rel j c x p o=>bif Nat.beq j i then .any else .rel j c x p o | .bx j o=> .bx j o | .sb j c k=> .sb j c k | .row j=> .row j | .rw j lo hi=> .rw j lo hi | .int k x=> .int k x | .bool b=> .bool b | .ob b=> .ob b | .lb c b=> .lb c b | .str l=> .str l | .val v=> .val v | .sl c xs=> .sl c xs | .el c x o=> .el c x o | .any=> .any
def AV.subRL{ty:Nat->Type}(i:Nat):List (AV ty)->List (AV ty) | []=> [] |x::l=>AV.subR i x::AV.subRL i l end
def d8z{ty:Nat->Type}(i:Nat):AE ty->AE ty | []=> [] |p::l=>(p.1,AV.subR i p.2)::d8z i l
def AO.subR{ty:Nat->Type}(i:Nat):AO ty->AO ty | .box T cs=> .box T (AV.subRL i cs) | .row e q c xs=> .row e q c xs | .gone=> .gone | .kbox j T cs=> .kbox j T (AV.subRL i cs) | .krow j e q c xs=> .krow j e q c xs | .mark=> .mark
def d4j{ty:Nat->Type}(i:Nat):List (AO ty)->List (AO ty) | []=> [] |o::l=>o.subR i::d4j i l
section
variable{ty:Nat->Type}{rp:∀c,Rp (ty c)}{R R':List OE}{F F':Frz}
structure TurnR(i:Nat)(R:List OE)(F:Frz)(R':List OE)(F':Frz):Prop where
 le:F.le F'
 box:∀(j b:Nat)T(cs:List Value),R[j]?=some (.box b T cs)->∃cs':List Value,R'[j]?=some (.box b T cs')
 row:∀(j:Nat)e q a m n(xs:List Value),R[j]?=some (.row e q a m n xs)->∃xs':List Value,R'[j]?=some (.row e q a m n xs')
 rel:∀(j:Nat)e q a m n(xs:List Value),j≠i->R[j]?=some (.row e q a m n xs)->R'[j]?=some (.row e q a m n xs)
variable{i:Nat}
mutual
theorem Conc.subR(t:TurnR i R F R' F'):∀{x:AV ty}{v:Value},Conc rp R F x v->Conc rp R' F' (AV.subR i x) v
 | .int k x,v,h=>h
 | .bool b,v,h=>h
 | .ob b,v,h=>h
 | .lb c b,v,h=>h
 | .str l,v,h=>h
 | .val u,v,h=>h
 | .agg l,v,⟨cs,h1,h2⟩=>⟨cs,h1,ConcL.subR t h2⟩
 | .tup l,v,⟨cs,h1,h2⟩=>⟨cs,h1,ConcL.subR t h2⟩
 | .sl c xs,v,⟨a,m,n,h1,h2⟩=>⟨a,m,n,h1,h2.mono t.le⟩
 | .bx j o,v,⟨b,T,cs,h1,h2⟩=>by
  obtain⟨cs',h3⟩:=t.box j b T cs h1;exact⟨b,T,cs',h3,h2⟩
 | .sb j c k,v,⟨b,T,cs,h1,h2⟩=>by
  obtain⟨cs',h3⟩:=t.box j b T cs h1;exact⟨b,T,cs',h3,h2⟩
 | .el c x o,v,⟨b,p,cs,h1,h2,h3⟩=>⟨b,p,cs,h1.mono t.le,(rp c).mono t.le h2,h3⟩
 | .row j,v,⟨e,q,a,m,n,xs,h1,h2⟩=>by
  obtain⟨xs',h3⟩:=t.row j e q a m n xs h1;exact⟨e,q,a,m,n,xs',h3,h2⟩
 | .rel j c x p o,v,h=>by
  unfold AV.subR;cases hb:Nat.beq j i with
  |true=>trivial
  |false=>
   obtain⟨e,b,m,n,us,cs,h1,h2,h3,h4⟩:=h;exact⟨e,b,m,n,us,cs,t.rel j e _ _ m n us (Nat.ne_of_beq_eq_false hb) h1,h2,(rp c).mono t.le h3,h4⟩
 | .rw j lo hi,v,⟨e,q,b,m,n,xs,h1,h2⟩=>by
  obtain⟨xs',h3⟩:=t.row j e q _ m n xs h1;exact⟨e,q,b,m,n,xs',h3,h2⟩
 | .any,v,_=>trivial
 | .clo f l,v,⟨cs,h1,h2⟩=>⟨cs,h1,ConcL.subR t h2⟩
 | .fb l o,v,⟨b,cs,h1,h2,h3⟩=>⟨b,cs,h1,h2.mono t.le,ConcL.subR t h3⟩
theorem ConcL.subR(t:TurnR i R F R' F'):∀{l:List (AV ty)}{cs:List Value},ConcL rp R F l cs->ConcL rp R' F' (AV.subRL i l) cs
 | [],_,h=>h
 |_::_,_,⟨v,k,h1,h2,h3⟩=>⟨v,k,h1,Conc.subR t h2,ConcL.subR t h3⟩
 end
theorem ConcE.subR(t:TurnR i R F R' F'):∀{l:AE ty}{m:Env},ConcE rp R F l m->ConcE rp R' F' (d8z i l) m
 | [],_,h=>h
 |_::_,_,⟨v,k,h1,h2,h3⟩=>⟨v,k,h1,Conc.subR t h2,ConcE.subR t h3⟩
theorem RelO.subR{K:Snap}(t:TurnR i R F R' F'){o:AO ty}{e:OE}(h:RelO rp K R F o e):RelO rp K R' F' (o.subR i) e:=by
 cases o with
 |box T cs=>obtain⟨b,us,h1,h2⟩:=h;exact⟨b,us,h1,h2.subR t⟩
 |row el q c xs=>obtain⟨a,m,n,us,h1,h2⟩:=h;exact⟨a,m,n,us,h1,h2.mono t.le⟩
 |gone=>trivial
 |kbox j T cs=>obtain⟨h0,b,us,h1,h2⟩:=h;exact⟨h0,b,us,h1,h2.subR t⟩
 |krow j el q c xs=>obtain⟨h0,a,m,n,us,h1,h2⟩:=h;exact⟨h0,a,m,n,us,h1,h2.mono t.le⟩
 |mark=>exact⟨h.1.trans t.le,h.2⟩
theorem c7g(i:Nat):∀H:List (AO ty),d4j i H=H.map (AO.subR i)
 | []=>rfl
 |o::l=>by rw [d4j,c7g i l];rfl
theorem RelH.subR{K:Snap}{H:List (AO ty)}{S:List OE}(t:TurnR i R F R' F')(h:RelH rp K R F H S):RelH rp K R' F' (d4j i H) S:=by
 refine⟨by rw [c7g];simpa using h.1,fun j o ho=> ?_⟩;rw [c7g,List.getElem?_map]at ho;obtain⟨o',h1,rfl⟩:=Option.map_eq_some_iff.1 ho;obtain⟨e,h2,h3⟩:=h.2 j o' h1;exact⟨e,h2,h3.subR t⟩
end
structure WV(ty:Nat->Type)where
 α:Type
 xs:List α
 j:Nat
 u:α
 nx:List α->St ty
section
variable{P:Program}{T:Tbl P}{n:Nat}{F0:Frz}{w0:World}{X:List Nat}{ρ:Type}{Q:Exit->Act->World->Prop}{Kz:Snap}
def evW(s:St T.ty):Option (WV T.ty):=match s with
 |⟨.ops all (o::l),k,e,H⟩=>match a9a all e o.guard,o.dst,o.op with
  |true,none,.store t x y=>match opA e x,opA e y,T.size t with
   |some (.rel i c x0 j oo),some z,some m=>match H[i]?,c7v z with
    |some (.row el q c' xs),some zl=>match d4d c' c xs,Nat.beq zl.length m,Nat.beq q (T.rp c).k,setA oo zl (T.en c x0)with
     |some xs',true,true,some cs'=>match T.dec c cs' with
      |some u=>some ⟨T.ty c,xs',j,u,fun v=>⟨.ops all l,k,d8z i e,(d4j i H).set i (.row el q c v)⟩⟩
      |none=>none
     |_,_,_,_=>none
    |_,_=>none
   |_,_,_=>none
  |_,_,_=>none
 |_=>none
theorem f4b{s:St T.ty}{q:WV T.ty}(h:evW s=some q){z:Int}(hz:z.toNat=q.j){v:List q.α}(hv:lset q.xs z q.u=some v)(k:Sm T Q n F0 w0 X Kz (q.nx v)):Sm T Q n F0 w0 X Kz s:=by
 unfold evW at h;split at h
 ·rename_i all o l its e H;split at h
  ·rename_i t x y hg hd ho;split at h
   ·rename_i i c x0 j oo zz m hx hy hS;split at h
    ·rename_i el qq c' xs zl hi hcell;split at h
     ·rename_i xs' cs' hcast hlen hqk hset;split at h
      ·rename_i u hdec;cases h;dsimp only at hz hv k;obtain⟨e1,e2⟩:=c1j hcast;subst e1;have e2:xs'=xs:=e2;subst e2;have hqk:=Nat.eq_of_beq_eq_true hqk;subst hqk;have hlen:=Nat.eq_of_beq_eq_true hlen;intro R F mm w h1 h2 h3 hX;obtain⟨ux,g1,e3,b,m',n',us,cs,g2,g3,g4,g5⟩:=a0r h1 hx;subst g5;obtain⟨uy,y1,y2⟩:=a0r h1 hy;obtain⟨c1,c2⟩:=c0s hcell y2;obtain⟨en,k1,a2,m2,n2,us2,rfl,k2⟩:=h2.2 i _ hi;rw [g2]at k1;cases k1;obtain⟨s1,s2⟩:=c5m hset;have henc:=T.enOk R g4;have hel:=henc.len;have hcl:=c1.len;have hnew:ConcL T.rp R F cs' (cs.take oo++uy.cells.toList++cs.drop (oo+m)):=by
        rw [s2,<-hlen];exact((henc.take oo).app c1).app (henc.drop _)
       obtain⟨dst,op,type,pos,after,guard⟩:=o;dsimp only at hg hd ho;subst hd;subst ho;subst hz;refine d6o (r:=T.rp c') (j:=oo) (p:=i) (a:=some ⟨b,0,none⟩) (base:=0) (o:=z.toNat*(T.rp c').k) (cs:=cs) (T.sizeOk hS) (a2g h1 hg) h3 g1 y1 (by rw [<-hlen,<-hcl];simp) (List.all_eq_true.2 c2) g2 rfl rfl (by simp) g3 k2 rfl (Nat.ble_eq_true_of_le (by rw [hel,<-hlen];exact s1)) ((T.rp c').len g4) (T.decOk hdec hnew) hv ?_;intro w' xs2 hS' hR' _;have hlt:=(List.getElem?_eq_some_iff.1 g2).1;have hT:TurnR i R F (R.set i ((OE.row el (T.rp c').k (some ⟨b,0,none⟩) m' n' us).withCells xs2)) F:=by
        refine⟨Frz.refl F,fun j2 b2 t2 cs2 hj=>⟨cs2,?_⟩,fun j2 e4 q2 a2 m2 n2 ys hj=> ?_,fun j2 e4 q2 a2 m2 n2 ys hne hj=> ?_⟩
        ·rw [List.getElem?_set,if_neg (fun e=>by subst e;rw [g2]at hj;cases hj)];exact hj
        ·rw [List.getElem?_set]
         by_cases hij:i=j2
         ·subst hij;rw [g2]at hj;cases hj;rw [if_pos rfl,if_pos hlt];exact⟨xs2,rfl⟩
         rw [if_neg hij];exact⟨ys,hj⟩
        rw [List.getElem?_set,if_neg (fun e=>hne e.symm)];exact hj
       refine k _ F mm w' (h1.subR hT) ((h2.subR hT).set i ⟨_,_,_,xs2,rfl,hR'⟩) hS' ⟨fun j2 b2 hb=> ?_,hX.2⟩;obtain⟨t2,cs2,h5⟩:=hX.1 j2 b2 hb;obtain⟨cs3,h6⟩:=hT.box j2 b2 t2 cs2 h5;exact⟨t2,cs3,h6⟩
      cases h
     cases h
    cases h
   cases h
  cases h
 cases h
theorem gMk{r:ρ}{α:Type}{x:Option α}{g:α->Option ρ}{nx:α->St T.ty}{s:St T.ty}(hz:∀t z,T.zero t=some z->(P.info? t).map (·.zero)=some (some z))(h:evMk n (rn T n s)=some ⟨α,x,nx⟩)
 (k:∀v,G T Q n F0 w0 X Kz r (g v) (nx v)):G T Q n F0 w0 X Kz r (x.bind g) s:=fun hm=>by
 obtain⟨v,hv,hm⟩:=bind_some hm;exact a7h (e8m hz h v hv (k v hm))
theorem gW{r:ρ}{α:Type}{j:Nat}{xs:List α}{z:Int}{u:α}{g:List α->Option ρ}{nx:List α->St T.ty}{s:St T.ty}(h:evW (rn T n s)=some ⟨α,xs,j,u,nx⟩)(hz:z.toNat=j)
 (k:∀v,G T Q n F0 w0 X Kz r (g v) (nx v)):G T Q n F0 w0 X Kz r ((lset xs z u).bind g) s:=fun hm=>by
 obtain⟨v,hv,hm⟩:=bind_some hm;exact a7h (f4b h hz hv (k v hm))
end
section
variable{P:Program}{T:Tbl P}{n:Nat}{F0:Frz}{w0:World}{X:List Nat}{ρ:Type}{Q:Exit->Act->World->Prop}{Kz:Snap}
theorem gNo{r:ρ}{s:St T.ty}:G T Q n F0 w0 X Kz r none s:=fun h=>by cases h
def boxL{ty:Nat->Type}:List (AV ty)->Option Nat | []=>none | .bx i _::_=>some i |_::l=>boxL l
def evFc(s:St T.ty):Option Nat:=match s with
 |⟨.ops _ (o::_),_,e,_⟩=>match o.op with
  | .call ⟨.value _,args,_⟩=>match opL e args.toList with
    |some az=>match e3s az with
     |some (_,.clo _ l)=>boxL l
     |_=>none
    |none=>none
  |_=>none
 |_=>none
def evFd(s:St T.ty):Option (Nat×St T.ty):=match evFc s with
 |some i=>match evFz i s with
  |some s'=>some (i,s')
  |none=>none
 |none=>none
theorem gFc{r:ρ}{m:Option ρ}{s s':St T.ty}{i:Nat}(h:evFd (rn T n s)=some (i,s'))(hx:Nat.ble X.length i=true)(g:G T Q n F0 w0 X Kz r m s'):G T Q n F0 w0 X Kz r m s:=by
 refine gFz i (s':=s') ?_ hx g;unfold evFd at h;split at h
 ·split at h
  ·rename_i h2;cases h;exact h2
  cases h
 cases h
end
section
variable{P:Program}{T:Tbl P}{n:Nat}{F0:Frz}{w0:World}{X:List Nat}{ρ:Type}{Q:Exit->Act->World->Prop}{Kz:Snap}
def evZ(s:St T.ty):Option (St T.ty):=match s with
 |⟨.ops all (o::l),k,e,H⟩=>match o.op with
  | .buildSlice _ _ ps=>match opL e (ps.toList.map (·.2))with
    |some az=>match rowL az with
     |some _=>match frzW T (H.length+1) az e H with
      |some (_,e',H')=>some ⟨.ops all (o::l),k,e',H'⟩
      |none=>none
     |none=>none
    |none=>none
  |_=>none
 |_=>none
theorem gZ{r:ρ}{m:Option ρ}{s s':St T.ty}(h:evZ (rn T n s)=some s')(g:G T Q n F0 w0 X Kz r m s'):G T Q n F0 w0 X Kz r m s:=fun hm=>by
 refine a7h ?_;revert h;generalize rn T n s=s2;intro h;unfold evZ at h;split at h
 ·rename_i all o l k e H;split at h
  ·split at h
   ·rename_i az hl;split at h
    ·split at h
     ·rename_i as' e' H' hz;cases h;intro R F mm w h1 h2 h3 hX;obtain⟨us,g1,g2⟩:=c1a h1 hl;obtain⟨R',F',k1,k2,k3,k4,k5,k6⟩:=b0q hz h1 h2 h3 hX g2;exact g hm R' F' mm w k2 k3 k4 k5
     cases h
    cases h
   cases h
  cases h
 cases h
end
section
variable{P:Program}{T:Tbl P}{n:Nat}{F0:Frz}{w0:World}{X:List Nat}{ρ:Type}{Q:Exit->Act->World->Prop}{Kz:Snap}
def calm:Ctl->Bool | .code _=>true | .ops _ _=>true | .out _=>true |_=>false
theorem d3s{R R':List OE}{F F':Frz}{c:Ctl}{k:List It}{m:Env}{w:World}(h:calm c=true):GW P Q n F0 w0 X Kz R F c k m w->GW P Q n F0 w0 X Kz R' F' c k m w:=by
 cases c<;>first|exact id|cases h
def evFr(t:Nat)(s:St T.ty):Option (St T.ty):=match s with
 |⟨c,k,e,H⟩=>match calm c,e.lookup t with
  |true,some x=>match rowA x with
   |some _=>match frzW T (H.length+1) [x] e H with
    |some (_,e',H')=>some ⟨c,k,e',H'⟩
    |none=>none
   |none=>none
  |_,_=>none
theorem gFr(t:Nat){r:ρ}{m:Option ρ}{s s':St T.ty}(h:evFr t (rn T n s)=some s')(g:G T Q n F0 w0 X Kz r m s'):G T Q n F0 w0 X Kz r m s:=fun hm=>by
 refine a7h ?_;revert h;generalize rn T n s=s2;intro h;unfold evFr at h;split at h;rename_i c k e H;split at h
 ·rename_i x hc hx;split at h
  ·split at h
   ·rename_i as' e' H' hz;cases h;intro R F mm w h1 h2 h3 hX;obtain⟨u,u1,u2⟩:=h1.get hx;obtain⟨R',F',k1,k2,k3,k4,k5,k6⟩:=b0q (us:= [u]) hz h1 h2 h3 hX ⟨u,[],rfl,u2,rfl⟩;exact d3s hc (g hm R' F' mm w k2 k3 k4 k5)
   cases h
  cases h
 cases h
end
theorem frzO{F F':Frz}{w w':World}{O:List OE}{α:Type}{r:Rp α}{e:TypeId}{q m c:Nat}{a:Option Addr}{xs:List Value}{ts:List α}(h:HS F w [] F' (.row e q a m c xs::O) w')(hr:RowN r F' m xs ts):∃F2,F'.le F2/\HS F w [] F2 O w'/\SlR r F2 a m c ts:=
 c8j (i:=0) h rfl hr (fun gb hb=>by
  rcases(h.sep _ (List.mem_cons_self ..) gb hb).2 with h1|h1
  ·exact h1
  cases h1)
end Rt
namespace M
open Go Go.RowKit Rt
set_option maxRecDepth 100000
set_option maxHeartbeats 4000000
def wty:Nat->Type |0=>Expr |1=>Bs |2=>Int |3=>Frac |4=>(List Afn) |5=>Afn |6=>(List Int) |7=>Token |8=>Result |9=>(List (List Afn)) |10=>Int |_=>Unit
def wrp:∀c,Rp (wty c) |0=>rp_Expr |1=>Rp.str |2=>Rp.int .i64 |3=>rp_Frac |4=>Rp.sl rp_Affine |5=>rp_Affine |6=>Rp.sl (Rp.int .i64) |7=>rp_Token |8=>rp_Result |9=>Rp.sl (Rp.sl rp_Affine) |10=>Rp.int .u8 |_+11=>Rp.unit
def wen:∀c,wty c->List (AV wty) |0,x=> [.int .i64 x.Op,.int .i64 x.N,.str x.Name,.sl 0 x.Args] |1,x=> [.str x] |2,x=> [.int .i64 x] |3,x=> [.int .i64 x.P.Sign,.sl 2 x.P.Digits,.int .i64 x.Q.Sign,.sl 2 x.Q.Digits] |4,x=> [.sl 5 x] |5,x=> [.int .i64 x.Const.P.Sign,.sl 2 x.Const.P.Digits,.int .i64 x.Const.Q.Sign,.sl 2 x.Const.Q.Digits,.sl 3 x.Coefs] |6,x=> [.sl 2 x] |7,x=> [.int .i64 x.Kind,.str x.Text,.int .i64 x.N,.int .i64 x.Pos] |8,x=> [.int .i64 x.N.P.Sign,.sl 2 x.N.P.Digits,.int .i64 x.N.Q.Sign,.sl 2 x.N.Q.Digits,.ob x.Is] |9,x=> [.sl 4 x] |10,x=> [.int .u8 x] |_+11,_=> []
def dec0:List (AV wty)->Option (wty 0)
 | [.int .i64 x0,.int .i64 x1,.str x2,y3]=>match slOf 0 y3 with
   |some x3=>(some ⟨x0,x1,x2,x3⟩)
   |none=>none
 |_=>none
def dec1:List (AV wty)->Option (wty 1) | [.str x0]=>some x0 |_=>none
def dec2:List (AV wty)->Option (wty 2) | [.int .i64 x0]=>some x0 |_=>none
def dec3:List (AV wty)->Option (wty 3)
 | [.int .i64 x0,y1,.int .i64 x2,y3]=>match slOf 2 y1 with
   |some x1=>(match slOf 2 y3 with
   |some x3=>(some ⟨⟨x0,x1⟩,⟨x2,x3⟩⟩)
   |none=>none)
   |none=>none
 |_=>none
def dec4:List (AV wty)->Option (wty 4)
 | [y0]=>match slOf 5 y0 with
   |some x0=>(some x0)
   |none=>none
 |_=>none
def dec5:List (AV wty)->Option (wty 5)
 | [.int .i64 x0,y1,.int .i64 x2,y3,y4]=>match slOf 2 y1 with
   |some x1=>(match slOf 2 y3 with
   |some x3=>(match slOf 3 y4 with
   |some x4=>(some ⟨⟨⟨x0,x1⟩,⟨x2,x3⟩⟩,x4⟩)
   |none=>none)
   |none=>none)
   |none=>none
 |_=>none
def dec6:List (AV wty)->Option (wty 6)
 | [y0]=>match slOf 2 y0 with
   |some x0=>(some x0)
   |none=>none
 |_=>none
def dec7:List (AV wty)->Option (wty 7) | [.int .i64 x0,.str x1,.int .i64 x2,.int .i64 x3]=>some ⟨x0,x1,x2,x3⟩ |_=>none
def dec8:List (AV wty)->Option (wty 8)
 | [.int .i64 x0,y1,.int .i64 x2,y3,y4]=>match slOf 2 y1 with
   |some x1=>(match slOf 2 y3 with
   |some x3=>(match d1p y4 with
   |some x4=>(some ⟨⟨⟨x0,x1⟩,⟨x2,x3⟩⟩,x4⟩)
   |none=>none)
   |none=>none)
   |none=>none
 |_=>none
def dec9:List (AV wty)->Option (wty 9)
 | [y0]=>match slOf 4 y0 with
   |some x0=>(some x0)
   |none=>none
 |_=>none
def dec10:List (AV wty)->Option (wty 10) | [.int .u8 x0]=>some x0 |_=>none
def wdec:∀c,List (AV wty)->Option (wty c) |0,l=>dec0 l |1,l=>dec1 l |2,l=>dec2 l |3,l=>dec3 l |4,l=>dec4 l |5,l=>dec5 l |6,l=>dec6 l |7,l=>dec7 l |8,l=>dec8 l |9,l=>dec9 l |10,l=>dec10 l |_+11,_=>none
theorem f5r(R:List OE):∀{F:Frz}{c:Nat}{cs:List Value}{x:wty c},(wrp c).R F cs x->ConcL wrp R F (wen c x) cs
 |F,0,cs,x,h0=>by
  obtain⟨_,_,_,h,hs3⟩:=(expr_iff.1 h0)
  exact⟨_,_,h,rfl,_,_,rfl,rfl,_,_,rfl,rfl,_,_,rfl,⟨_,_,_,rfl,hs3⟩,rfl⟩
 |F,1,cs,x,h=>⟨_,_,h,rfl,rfl⟩
 |F,2,cs,x,h=>⟨_,_,h,rfl,rfl⟩
 |F,3,cs,x,⟨_,_,_,_,_,_,h,hs1,hs3⟩=>⟨_,_,h,rfl,_,_,rfl,⟨_,_,_,rfl,hs1⟩,_,_,rfl,rfl,_,_,rfl,⟨_,_,_,rfl,hs3⟩,rfl⟩
 |F,4,cs,x,⟨_,_,_,h,hs0⟩=>⟨_,_,h,⟨_,_,_,rfl,hs0⟩,rfl⟩
 |F,5,cs,x,⟨_,_,_,_,_,_,_,_,_,h,hs1,hs3,hs4⟩=>⟨_,_,h,rfl,_,_,rfl,⟨_,_,_,rfl,hs1⟩,_,_,rfl,rfl,_,_,rfl,⟨_,_,_,rfl,hs3⟩,_,_,rfl,⟨_,_,_,rfl,hs4⟩,rfl⟩
 |F,6,cs,x,⟨_,_,_,h,hs0⟩=>⟨_,_,h,⟨_,_,_,rfl,hs0⟩,rfl⟩
 |F,7,cs,x,h=>⟨_,_,h,rfl,_,_,rfl,rfl,_,_,rfl,rfl,_,_,rfl,rfl,rfl⟩
 |F,8,cs,x,⟨_,_,_,_,_,_,h,hs1,hs3⟩=>⟨_,_,h,rfl,_,_,rfl,⟨_,_,_,rfl,hs1⟩,_,_,rfl,rfl,_,_,rfl,⟨_,_,_,rfl,hs3⟩,_,_,rfl,rfl,rfl⟩
 |F,9,cs,x,⟨_,_,_,h,hs0⟩=>⟨_,_,h,⟨_,_,_,rfl,hs0⟩,rfl⟩
 |F,10,cs,x,h=>⟨_,_,h,rfl,rfl⟩
 |F,_+11,cs,x,h=>h
theorem wdecOk:∀{R:List OE}{F:Frz}{c:Nat}{l:List (AV wty)}{cs:List Value}{x:wty c},wdec c l=some x->ConcL wrp R F l cs->(wrp c).R F cs x
 |R,F,0,l,cs,x,h,hc=>by
  have h:dec0 l=some x:=h;unfold dec0 at h;split at h
  ·split at h
   rotate_left
   ·cases h
   rename_i e3;cases h;obtain⟨v0,_,rfl,h0,⟨v1,_,rfl,h1,⟨v2,_,rfl,h2,⟨v3,_,rfl,h3,rfl⟩⟩⟩⟩:=hc;simp only [Conc]at h0;subst h0;simp only [Conc]at h1;subst h1;simp only [Conc]at h2;subst h2;obtain⟨_,_,_,rfl,hs3⟩:=b2a e3 h3;exact(expr_iff.2 ⟨_,_,_,rfl,hs3⟩)
  cases h
 |R,F,1,l,cs,x,h,hc=>by
  have h:dec1 l=some x:=h;unfold dec1 at h;split at h
  ·cases h;obtain⟨v0,_,rfl,h0,rfl⟩:=hc;simp only [Conc]at h0;subst h0;exact rfl
  cases h
 |R,F,2,l,cs,x,h,hc=>by
  have h:dec2 l=some x:=h;unfold dec2 at h;split at h
  ·cases h;obtain⟨v0,_,rfl,h0,rfl⟩:=hc;simp only [Conc]at h0;subst h0;exact rfl
  cases h
 |R,F,3,l,cs,x,h,hc=>by
  have h:dec3 l=some x:=h;unfold dec3 at h;split at h
  ·split at h
   rotate_left
   ·cases h
   rename_i e1;split at h
   rotate_left
   ·cases h
   rename_i e3;cases h;obtain⟨v0,_,rfl,h0,⟨v1,_,rfl,h1,⟨v2,_,rfl,h2,⟨v3,_,rfl,h3,rfl⟩⟩⟩⟩:=hc;simp only [Conc]at h0;subst h0;obtain⟨_,_,_,rfl,hs1⟩:=b2a e1 h1;simp only [Conc]at h2;subst h2;obtain⟨_,_,_,rfl,hs3⟩:=b2a e3 h3;exact⟨_,_,_,_,_,_,rfl,hs1,hs3⟩
  cases h
 |R,F,4,l,cs,x,h,hc=>by
  have h:dec4 l=some x:=h;unfold dec4 at h;split at h
  ·split at h
   rotate_left
   ·cases h
   rename_i e0;cases h;obtain⟨v0,_,rfl,h0,rfl⟩:=hc;obtain⟨_,_,_,rfl,hs0⟩:=b2a e0 h0;exact⟨_,_,_,rfl,hs0⟩
  cases h
 |R,F,5,l,cs,x,h,hc=>by
  have h:dec5 l=some x:=h;unfold dec5 at h;split at h
  ·split at h
   rotate_left
   ·cases h
   rename_i e1;split at h
   rotate_left
   ·cases h
   rename_i e3;split at h
   rotate_left
   ·cases h
   rename_i e4;cases h;obtain⟨v0,_,rfl,h0,⟨v1,_,rfl,h1,⟨v2,_,rfl,h2,⟨v3,_,rfl,h3,⟨v4,_,rfl,h4,rfl⟩⟩⟩⟩⟩:=hc;simp only [Conc]at h0;subst h0;obtain⟨_,_,_,rfl,hs1⟩:=b2a e1 h1;simp only [Conc]at h2;subst h2;obtain⟨_,_,_,rfl,hs3⟩:=b2a e3 h3;obtain⟨_,_,_,rfl,hs4⟩:=b2a e4 h4;exact⟨_,_,_,_,_,_,_,_,_,rfl,hs1,hs3,hs4⟩
  cases h
 |R,F,6,l,cs,x,h,hc=>by
  have h:dec6 l=some x:=h;unfold dec6 at h;split at h
  ·split at h
   rotate_left
   ·cases h
   rename_i e0;cases h;obtain⟨v0,_,rfl,h0,rfl⟩:=hc;obtain⟨_,_,_,rfl,hs0⟩:=b2a e0 h0;exact⟨_,_,_,rfl,hs0⟩
  cases h
 |R,F,7,l,cs,x,h,hc=>by
  have h:dec7 l=some x:=h;unfold dec7 at h;split at h
  ·cases h;obtain⟨v0,_,rfl,h0,⟨v1,_,rfl,h1,⟨v2,_,rfl,h2,⟨v3,_,rfl,h3,rfl⟩⟩⟩⟩:=hc;simp only [Conc]at h0;subst h0;simp only [Conc]at h1;subst h1;simp only [Conc]at h2;subst h2;simp only [Conc]at h3;subst h3;exact rfl
  cases h
 |R,F,8,l,cs,x,h,hc=>by
  have h:dec8 l=some x:=h;unfold dec8 at h;split at h
  ·split at h
   rotate_left
   ·cases h
   rename_i e1;split at h
   rotate_left
   ·cases h
   rename_i e3;split at h
   rotate_left
   ·cases h
   rename_i e4;cases h;obtain⟨v0,_,rfl,h0,⟨v1,_,rfl,h1,⟨v2,_,rfl,h2,⟨v3,_,rfl,h3,⟨v4,_,rfl,h4,rfl⟩⟩⟩⟩⟩:=hc;simp only [Conc]at h0;subst h0;obtain⟨_,_,_,rfl,hs1⟩:=b2a e1 h1;simp only [Conc]at h2;subst h2;obtain⟨_,_,_,rfl,hs3⟩:=b2a e3 h3;have h4:=c5d e4 h4;subst h4;exact⟨_,_,_,_,_,_,rfl,hs1,hs3⟩
  cases h
 |R,F,9,l,cs,x,h,hc=>by
  have h:dec9 l=some x:=h;unfold dec9 at h;split at h
  ·split at h
   rotate_left
   ·cases h
   rename_i e0;cases h;obtain⟨v0,_,rfl,h0,rfl⟩:=hc;obtain⟨_,_,_,rfl,hs0⟩:=b2a e0 h0;exact⟨_,_,_,rfl,hs0⟩
  cases h
 |R,F,10,l,cs,x,h,hc=>by
  have h:dec10 l=some x:=h;unfold dec10 at h;split at h
  ·cases h;obtain⟨v0,_,rfl,h0,rfl⟩:=hc;simp only [Conc]at h0;subst h0;exact rfl
  cases h
 |R,F,_+11,l,cs,x,h,hc=>by cases h
def wund:TypeId->Option TypeDesc |2=>some (.int .i64) |3=>some (.int .i64) |4=>some .bool |5=>some (.int .u8) |9=>some .string |12=>some (.int .u64) |22=>some (.slice 24) |27=>some (.slice 9) |28=>some (.slice 3) |31=>some (.slice 44) |32=>some (.slice 57) |38=>some (.int .i64) |57=>some (.slice 62) |73=>some (.slice 28) |105=>some (.int .u64) |144=>some (.slice 152) |156=>some (.int .u32) |159=>some (.int .u64) |170=>some (.slice 116) |198=>some (.slice 32) |211=>some (.array 13 5) |213=>some (.slice 5) |_=>none
def wagg:TypeId->Option Bool |2=>some false |3=>some false |4=>some false |5=>some false |9=>some false |12=>some false |13=>some true |22=>some false |24=>some true |26=>some true |27=>some false |28=>some false |30=>some true |31=>some false |32=>some false |34=>some true |38=>some false |42=>some true |44=>some true |57=>some false |62=>some true |73=>some false |77=>some true |90=>some true |105=>some false |116=>some true |144=>some false |149=>some true |152=>some true |156=>some false |159=>some false |170=>some false |198=>some false |211=>some true |213=>some false |1=>some false |82=>some false |102=>some false |121=>some false |123=>some false |128=>some false |166=>some false |184=>some false |196=>some false |_=>none
def wsize:TypeId->Option Nat |2=>some 1 |3=>some 1 |4=>some 1 |5=>some 1 |9=>some 1 |12=>some 1 |13=>some 2 |22=>some 1 |24=>some 4 |26=>some 6 |27=>some 1 |28=>some 1 |30=>some 3 |31=>some 1 |32=>some 1 |34=>some 1 |38=>some 1 |42=>some 2 |44=>some 4 |57=>some 1 |62=>some 5 |73=>some 1 |77=>some 5 |90=>some 5 |105=>some 1 |116=>some 5 |144=>some 1 |149=>some 3 |152=>some 4 |156=>some 1 |159=>some 1 |170=>some 1 |198=>some 1 |211=>some 13 |213=>some 1 |1=>some 1 |82=>some 1 |102=>some 1 |121=>some 1 |123=>some 1 |128=>some 1 |166=>some 1 |184=>some 1 |196=>some 1 |_=>none
def wfel:TypeId->Nat->Option (TypeId×Nat) |13,0=>some (9,0) |13,1=>some (12,1) |24,0=>some (3,0) |24,1=>some (3,1) |24,2=>some (9,2) |24,3=>some (22,3) |26,0=>some (9,0) |26,1=>some (24,1) |26,2=>some (3,5) |30,0=>some (28,0) |30,1=>some (3,1) |30,2=>some (3,2) |34,0=>some (32,0) |42,0=>some (3,0) |42,1=>some (28,1) |44,0=>some (42,0) |44,1=>some (42,2) |62,0=>some (44,0) |62,1=>some (31,4) |77,0=>some (27,0) |77,1=>some (30,1) |77,2=>some (4,4) |90,0=>some (27,0) |90,1=>some (30,1) |90,2=>some (31,4) |116,0=>some (44,0) |116,1=>some (4,4) |149,0=>some (144,0) |149,1=>some (3,1) |149,2=>some (38,2) |152,0=>some (3,0) |152,1=>some (9,1) |152,2=>some (3,2) |152,3=>some (3,3) |_,_=>none
def wfld:TypeId->Nat->Option Nat |13,0=>some 0 |13,1=>some 1 |24,0=>some 0 |24,1=>some 1 |24,2=>some 2 |24,3=>some 3 |26,0=>some 0 |26,1=>some 1 |26,2=>some 5 |30,0=>some 0 |30,1=>some 1 |30,2=>some 2 |34,0=>some 0 |42,0=>some 0 |42,1=>some 1 |44,0=>some 0 |44,1=>some 2 |62,0=>some 0 |62,1=>some 4 |77,0=>some 0 |77,1=>some 1 |77,2=>some 4 |90,0=>some 0 |90,1=>some 1 |90,2=>some 4 |116,0=>some 0 |116,1=>some 4 |149,0=>some 0 |149,1=>some 1 |149,2=>some 2 |152,0=>some 0 |152,1=>some 1 |152,2=>some 2 |152,3=>some 3 |_,_=>none
def wzero:TypeId->Option Value |2=>some (.int .i64 0) |3=>some (.int .i64 0) |4=>some (.bool false) |5=>some (.int .u8 0) |9=>some (vs []) |12=>some (.int .u64 0) |13=>some (.agg #[vs [],.int .u64 0]) |22=>some (.slice none 0 0) |24=>some (.agg #[.int .i64 0,.int .i64 0,vs [],.slice none 0 0]) |26=>some (.agg #[vs [],.int .i64 0,.int .i64 0,vs [],.slice none 0 0,.int .i64 0]) |27=>some (.slice none 0 0) |28=>some (.slice none 0 0) |30=>some (.agg #[.slice none 0 0,.int .i64 0,.int .i64 0]) |31=>some (.slice none 0 0) |32=>some (.slice none 0 0) |34=>some (.agg #[.slice none 0 0]) |38=>some (.int .i64 0) |42=>some (.agg #[.int .i64 0,.slice none 0 0]) |44=>some (.agg #[.int .i64 0,.slice none 0 0,.int .i64 0,.slice none 0 0]) |57=>some (.slice none 0 0) |62=>some (.agg #[.int .i64 0,.slice none 0 0,.int .i64 0,.slice none 0 0,.slice none 0 0]) |73=>some (.slice none 0 0) |77=>some (.agg #[.slice none 0 0,.slice none 0 0,.int .i64 0,.int .i64 0,.bool false]) |90=>some (.agg #[.slice none 0 0,.slice none 0 0,.int .i64 0,.int .i64 0,.slice none 0 0]) |105=>some (.int .u64 0) |116=>some (.agg #[.int .i64 0,.slice none 0 0,.int .i64 0,.slice none 0 0,.bool false]) |144=>some (.slice none 0 0) |149=>some (.agg #[.slice none 0 0,.int .i64 0,.int .i64 0]) |152=>some (.agg #[.int .i64 0,vs [],.int .i64 0,.int .i64 0]) |156=>some (.int .u32 0) |159=>some (.int .u64 0) |170=>some (.slice none 0 0) |198=>some (.slice none 0 0) |211=>some (.agg #[.int .u8 0,.int .u8 0,.int .u8 0,.int .u8 0,.int .u8 0,.int .u8 0,.int .u8 0,.int .u8 0,.int .u8 0,.int .u8 0,.int .u8 0,.int .u8 0,.int .u8 0]) |213=>some (.slice none 0 0) |1=>some (.nilFunc) |82=>some (.nilFunc) |102=>some (.nilFunc) |121=>some (.nilFunc) |123=>some (.nilFunc) |128=>some (.nilFunc) |166=>some (.nilFunc) |184=>some (.nilFunc) |196=>some (.nilFunc) |_=>none
def wbld:TypeId->Option (List (Nat×Nat)) |13=>some [(0,1),(1,1)] |24=>some [(0,1),(1,1),(2,1),(3,1)] |26=>some [(0,1),(1,4),(5,1)] |30=>some [(0,1),(1,1),(2,1)] |34=>some [(0,1)] |42=>some [(0,1),(1,1)] |44=>some [(0,2),(2,2)] |62=>some [(0,4),(4,1)] |77=>some [(0,1),(1,3),(4,1)] |90=>some [(0,1),(1,3),(4,1)] |116=>some [(0,4),(4,1)] |149=>some [(0,1),(1,1),(2,1)] |152=>some [(0,1),(1,1),(2,1),(3,1)] |_=>none
def wcod:TypeId->Nat |22=>0 |27=>1 |28=>2 |31=>3 |32=>4 |57=>5 |73=>6 |144=>7 |170=>8 |198=>9 |213=>10 |_=>0
def welt:Nat->TypeId |0=>24 |1=>9 |2=>3 |3=>44 |4=>57 |5=>62 |6=>28 |7=>152 |8=>116 |9=>32 |10=>5 |_=>0
def wapp:TypeId->Option (TypeId×Nat×Nat) |22=>some (24,4,56) |27=>some (9,1,16) |28=>some (3,1,8) |31=>some (44,4,64) |32=>some (57,1,24) |57=>some (62,5,88) |73=>some (28,1,24) |144=>some (152,4,40) |170=>some (116,5,72) |198=>some (32,1,24) |213=>some (5,1,1) |_=>none
theorem wappOk:∀{t el q b},wapp t=some (el,q,b)->AppIs Tryz.prog t el q b:=by
 intro t el q b h;unfold wapp at h;split at h
 ·cases h;exact AppIs.of (z:= .agg #[.int .i64 0,.int .i64 0,vs [],.slice none 0 0]) (by kernel_rfl) (by kernel_rfl) rfl (by decide) (by decide)
 ·cases h;exact AppIs.of (z:=vs []) (by kernel_rfl) (by kernel_rfl) rfl (by decide) (by decide)
 ·cases h;exact AppIs.of (z:= .int .i64 0) (by kernel_rfl) (by kernel_rfl) rfl (by decide) (by decide)
 ·cases h;exact AppIs.of (z:= .agg #[.int .i64 0,.slice none 0 0,.int .i64 0,.slice none 0 0]) (by kernel_rfl) (by kernel_rfl) rfl (by decide) (by decide)
 ·cases h;exact AppIs.of (z:= .slice none 0 0) (by kernel_rfl) (by kernel_rfl) rfl (by decide) (by decide)
 ·cases h;exact AppIs.of (z:= .agg #[.int .i64 0,.slice none 0 0,.int .i64 0,.slice none 0 0,.slice none 0 0]) (by kernel_rfl) (by kernel_rfl) rfl (by decide) (by decide)
 ·cases h;exact AppIs.of (z:= .slice none 0 0) (by kernel_rfl) (by kernel_rfl) rfl (by decide) (by decide)
 ·cases h;exact AppIs.of (z:= .agg #[.int .i64 0,vs [],.int .i64 0,.int .i64 0]) (by kernel_rfl) (by kernel_rfl) rfl (by decide) (by decide)
 ·cases h;exact AppIs.of (z:= .agg #[.int .i64 0,.slice none 0 0,.int .i64 0,.slice none 0 0,.bool false]) (by kernel_rfl) (by kernel_rfl) rfl (by decide) (by decide)
 ·cases h;exact AppIs.of (z:= .slice none 0 0) (by kernel_rfl) (by kernel_rfl) rfl (by decide) (by decide)
 ·cases h;exact AppIs.of (z:= .int .u8 0) (by kernel_rfl) (by kernel_rfl) rfl (by decide) (by decide)
 cases h
def Wt:Tbl Tryz.prog where
 ty:=wty
 rp:=wrp
 en:=wen
 dec:=wdec
 enOk:=f5r
 decOk:=wdecOk
 und:=wund
 undOk:=by intro t D h;unfold wund at h;split at h<;>cases h<;>kernel_rfl
 agg:=wagg
 aggOk:=by intro t b h;unfold wagg at h;split at h<;>cases h<;>(intro w;kernel_rfl)
 size:=wsize
 sizeOk:=by intro t k h;unfold wsize at h;split at h<;>cases h<;>(intro w;kernel_rfl)
 fel:=wfel
 felOk:=by
  intro t j e o h;unfold wfel at h;split at h<;>first|cases h;done|(injection h with h;injection h with h1 h2;subst h1;subst h2;kernel_rfl)
 fld:=wfld
 fldOk:=by
  intro t j o h;unfold wfld at h;split at h<;>first|cases h;done|(injection h with h;subst h;intro b p w;kernel_rfl)
 zero:=wzero
 zeroOk:=by intro t z h;unfold wzero at h;split at h<;>cases h<;>(intro w;kernel_rfl)
 cod:=wcod
 elt:=welt
 app:=wapp
 appOk:=wappOk
 mix:=rfl
 gl:=fun F=>FX F 0 [.int .u8 40,.int .u8 41,.int .u8 44,.int .u8 59,.int .u8 58,.int .u8 61,.int .u8 60,.int .u8 43,.int .u8 45,.int .u8 42,.int .u8 47,.int .u8 123,.int .u8 125]
 glMono:=fun hF h=>h.mono hF
 bld:=wbld
 bldOk:=by intro t ps h;unfold wbld at h;split at h<;>cases h<;>exact f4m (by kernel_rfl) (by kernel_rfl)
theorem wzOk:∀t z,Wt.zero t=some z->(Tryz.prog.info? t).map (·.zero)=some (some z):=by
 intro t z h;change wzero t=some z at h;unfold wzero at h;split at h<;>cases h<;>kernel_rfl
set_option maxRecDepth 1000000
set_option maxHeartbeats 40000000
theorem c1s(n:Nat)(c1:Int):FnC Wt 216 [.int .u8 c1] (b0l n c1) (fun r=> .ob r):=by
 refine fk (n:=13) Tryz.func216 fun F0 w0 r=> ?_;unfold b0l;refine gJ 3 (fun v1=> [.v 8 (.ob v1)]) Y (fun _=>Y) (fun J1 hJ1=> ?_) (fun v1=> ?_)
 ·refine gd Y ?_ ?_
  ·exact gx hJ1
  exact gx hJ1
 refine gJ 3 (fun v2=> [.v 12 (.ob v2)]) Y (fun _=>Y) (fun J2 hJ2=> ?_) (fun v2=> ?_)
 ·refine gd Y ?_ ?_
  ·exact gx hJ2
  exact gx hJ2
 exact gr
theorem b8t(n:Nat)(c1:Int):FnC Wt 175 [.int .u8 c1] (a5s n c1) (fun r=> .ob r):=by
 refine fk (n:=17) Tryz.func175 fun F0 w0 r=> ?_;unfold a5s;refine gJ 3 (fun v1=> [.v 8 (.ob v1)]) Y (fun _=>Y) (fun J1 hJ1=> ?_) (fun v1=> ?_)
 ·refine gd Y ?_ ?_
  ·exact gx hJ1
  exact gx hJ1
 refine gJ 7 (fun v2=> [.v 16 (.ob v2)]) Y (fun _=>Y) (fun J2 hJ2=> ?_) (fun v2=> ?_)
 ·refine gd Y ?_ ?_
  ·exact gx hJ2
  refine gA ?_;refine gd Y ?_ ?_
  ·refine gB ?_;exact gx hJ2
  refine gB ?_;exact gx hJ2
 exact gr
theorem c9o(n:Nat)(c1:Int):FnC Wt 213 [.int .u8 c1] (a6s n c1) (fun r=> .ob r):=by
 refine fk (n:=9) Tryz.func213 fun F0 w0 r=> ?_;unfold a6s;refine gJ 3 (fun v1=> [.v 8 (.ob v1)]) Y (fun _=>Y) (fun J1 hJ1=> ?_) (fun v1=> ?_)
 ·refine gd Y ?_ ?_
  ·exact gx hJ1
  exact gx hJ1
 exact gr
theorem d0t(n:Nat)(c1:Int):FnC Wt 177 [.int .u8 c1] (a5v n c1) (fun r=> .ob r):=by
 refine fk (n:=13) Tryz.func177 fun F0 w0 r=> ?_;unfold a5v;refine gK (b8t _ _) Y Y Y fun v1=> ?_;refine gJ 3 (fun v2=> [.v 8 (.ob v2)]) Y (fun _=>Y) (fun J1 hJ1=> ?_) (fun v2=> ?_)
 ·refine gd Y ?_ ?_
  ·exact gx hJ1
  refine gA ?_;refine gK (c9o _ _) Y Y Y fun v4=> ?_;exact gx hJ1
 refine gJ 3 (fun v3=> [.v 12 (.ob v3)]) Y (fun _=>Y) (fun J2 hJ2=> ?_) (fun v3=> ?_)
 ·refine gd Y ?_ ?_
  ·exact gx hJ2
  exact gx hJ2
 exact gr
theorem b7f(n:Nat)(s1:Bs)(isx1:(Int->Option Bool)):FnH Wt 176 [.str s1] ⟨Int,Bool,fun q=> [.int .u8 q],fun q=>isx1 q,fun r=> .ob r⟩ (a5h n s1 isx1) (fun r=> .int .i64 r):=by
 refine b4d (n:=20) Tryz.func176 Y Y Y (fun _ _=>by kernel_rfl) fun F0 w0 r u=> ?_;unfold a5h;refine a1h ((fun k0 m(s:Int)=>lexer_span_L1 n s1 isx1 k0 m s) _) (fun(s:Int)=> [.v 5 (.int .i64 s)]) (fun _=>Y) _ Y Y (fun _=>Y) Y fun K1 m1 hK1 nx1=> ?_;refine gJ 6 (fun v1=> [.v 16 (.ob v1)]) Y (fun _=>Y) (fun J2 hJ2=> ?_) (fun v1=> ?_)
 ·refine gd Y ?_ ?_
  ·refine gA ?_;refine gV Y fun c1=> ?_;refine gA ?_;refine gKv (T:=Wt) (Φ:=⟨Int,Bool,fun q=> [.int .u8 q],fun q=>isx1 q,fun r=> .ob r⟩) (u:=u) c1 Y Y Y fun v2=> ?_;exact gx hJ2
  exact gx hJ2
 refine gc Y ?_ ?_
 ·exact ge hK1 _
 exact gr
theorem b3i(n:Nat)(s1:Bs):FnC Wt 113 [.str s1] (a4u n s1) (fun r=> .ob r):=by
 refine fk (n:=22) Tryz.func113 fun F0 w0 r=> ?_;unfold a4u;refine gJ 4 (fun v1=> [.v 9 (.ob v1)]) Y (fun _=>Y) (fun J1 hJ1=> ?_) (fun v1=> ?_)
 ·refine gd Y ?_ ?_
  ·refine gA ?_;refine gV Y fun c1=> ?_;refine gA ?_;refine gK (b8t _ _) Y Y Y fun v5=> ?_;exact gx hJ1
  exact gx hJ1
 refine gJ 4 (fun v2=> [.v 14 (.ob v2)]) Y (fun _=>Y) (fun J2 hJ2=> ?_) (fun v2=> ?_)
 ·refine gd Y ?_ ?_
  ·exact gx hJ2
  exact gx hJ2
 refine gJ 6 (fun v3=> [.v 21 (.ob v3)]) Y (fun _=>Y) (fun J3 hJ3=> ?_) (fun v3=> ?_)
 ·refine gd Y ?_ ?_
  ·refine gA ?_;refine gKh (b7f n _ (a5v n)) Y Y Y (fvA Y Y (fun q=>d0t n q) default) fun v4=> ?_;exact gx hJ3
  exact gx hJ3
 exact gr
theorem d4w(n:Nat)(s1:Bs):FnC Wt 186 [.str s1] (c6e n s1) (fun r=> .int .i64 r):=by
 refine fk (n:=35) Tryz.func186 fun F0 w0 r=> ?_;unfold c6e;refine gKh (b7f n _ (b0l n)) Y Y Y (fvA Y Y (fun q=>c1s n q) default) fun v1=> ?_;refine a1h ((fun k0 m(s:Int)=>b7h n s1 k0 m s) _) (fun(s:Int)=> [.v 3 (.int .i64 s)]) (fun _=>Y) _ Y Y (fun _=>Y) Y fun K1 m1 hK1 nx1=> ?_;refine gJ 5 (fun v2=> [.v 15 (.ob v2)]) Y (fun _=>Y) (fun J2 hJ2=> ?_) (fun v2=> ?_)
 ·refine gd Y ?_ ?_
  ·refine gA ?_;refine gV Y fun c2=> ?_;exact gx hJ2
  exact gx hJ2
 refine gc Y ?_ ?_
 ·refine a1h ((fun k0 m(s:Int)=>b6d n s1 k0 m s) _) (fun(s:Int)=> [.v 3 (.int .i64 s)]) (fun _=>Y) _ Y Y (fun _=>Y) Y fun K3 m3 hK3 nx3=> ?_;refine gJ 5 (fun v4=> [.v 25 (.ob v4)]) Y (fun _=>Y) (fun J4 hJ4=> ?_) (fun v4=> ?_)
  ·refine gd Y ?_ ?_
   ·refine gA ?_;refine gV Y fun c1=> ?_;exact gx hJ4
   exact gx hJ4
  refine gc Y ?_ ?_
  ·exact ge hK3 _
  refine gV Y fun t1=> ?_;refine gKh (b7f n _ (b0l n)) Y Y Y (fvA Y Y (fun q=>c1s n q) default) fun v3=> ?_;exact ge hK1 _
 exact gr
theorem c3n(n:Nat)(s1:Bs)(r:(Bs×Int))(hm:b7p n s1=some r){w:World}{F:Frz}(hs:Sat F w)(hg0:FX F 0 [.int .u8 40,.int .u8 41,.int .u8 44,.int .u8 59,.int .u8 58,.int .u8 61,.int .u8 60,.int .u8 43,.int .u8 45,.int .u8 42,.int .u8 47,.int .u8 123,.int .u8 125]):
 Calls Tryz.prog 218 #[vs s1] w fun e w'=>∃v F' O',e= .returned v/\HS F w [] F' O' w'/\(v= .tuple #[vs r.1,.int .i64 r.2]/\O'= []):=by
 unfold b7p at hm;have h:=HS.init hs;refine a3c 61 Tryz.func218 Y Y Y (a0h (a0b (a0c Y Y Y (a0c Y Y Y (a0f (a0d (d9t (a0h (a0b (a0c Y Y Y (a0f (a0d (a0h (a0b (a0c Y Y Y (a0f (a0d (a0h (e4i (a0d (a0h (a3h ?_))))))))))))))))))))));have ga:=h.nilRow 5 1;intro a g4;obtain⟨kq1,hkont1⟩:∃kq1:Int->(List Int)->Option (Bs×Int),kq1=(fun(nx2:Int)(l2:List Int)=>bif decide (400<(l2.length:Int))then some ([],0)else some (d1s l2,iadd .i64 nx2 1)):=⟨_,Y⟩
 replace hm:(fun m(s:Int×List Int)=>lexer_quoted_L1 n s1 kq1 m s.1 s.2) n (1,([]:List Int))=some r:=by rw [hkont1];exact hm
 refine c2k (id:=0) (fun m(s:Int×List Int)=>lexer_quoted_L1 n s1 kq1 m s.1 s.2) (fun(y:Int×List Int)=>kq1 y.1 y.2) r (fun(s:Int×List Int)a w'=>∃(x:Frz)(p:Option Addr)(g:Nat)(t:Nat)(xss2:List Value),Frz.le F x/\HS F w [] x [.row 5 1 p g t xss2] w'/\(RowN (Rp.int .u8) x g xss2 s.2)/\Has 61 a [(0,vs s1),(4,.slice p g t),(5,.int .i64 s.1)]) (fun(y:Int×List Int)a w'=>∃(I:Frz)(L:Option Addr)(J:Nat)(M:Nat)(xss3:List Value),Frz.le F I/\HS F w [] I [.row 5 1 L J M xss3] w'/\(RowN (Rp.int .u8) I J xss3 y.2)/\Has 61 a [(4,.slice L J M),(5,.int .i64 y.1)]) (fun _=>Y) ?_ ?_ hm ⟨_,none,0,0,[],Yf,ga.Yp [0] Y Y,((show RowN (Rp.int .u8) _ 0 [] []from⟨Y,Y⟩)),g4.cut (l:= [0,4,5]) Y⟩;clear hm;rintro⟨nx2,l2⟩ a gv hm ⟨I,L,J,M,xss3,gw,N,g3,g5⟩;rw [hkont1]at hm
 replace hm:=hm
 refine a8h (e:= .exit 0) g5 (a3e (a0d (a0h (a0h (a0b (a0a Y Y Y (a8j g3.len u213 Y Y Y (a1b Y Y Y Y Y (a0f (a0d ?_))))))))));rcases a0g hm with⟨Q,hm⟩|⟨Q,hm⟩
 refine a2p 56 Y Q (a3p Y (a0h (a0b (a0c Y Y Y (a0c Y Y Y (a0f (a0d (a7f (a1g (b1w (a9t (vl:= [vs [],.int .i64 0]) Y ⟨a6z Y,a6z Y,trivial⟩ (by simp) ?_)))))))))));obtain rfl:=Yo hm;exact⟨_,_,_,Y,N.Yp [] Y Y,Y,Y⟩;refine a2p 56 Y Q (a2e Y (a4q (a0d (a0h (a0b (a0a Y Y Y (e9p u213 u5 u9 Y Y N Y (i:=0) Y (e7d g3.2) (a0a Y Y Y (a1b Y Y Y Y Y (a0c Y Y Y (a0c Y Y Y (a0f (a0d (a7f (b1w (a9t (vl:= [vs (d1s l2),.int .i64 (iadd .i64 nx2 1)]) Y ⟨a6z Y,a6z Y,trivial⟩ (by simp) ?_))))))))))))))));obtain rfl:=Yo hm;exact⟨_,_,_,Y,N.Yp [] Y Y,Y,Y⟩;clear hm hkont1;intro hk1 mx1 K ihx1;rintro⟨nx1,l1⟩ a R hm ⟨x,p,g,t,xss2,T,z,U,g6⟩;simp only [lexer_quoted_L1_s]at hm;refine a4m g6 (a3h (a0h (a3h (a0h (a0b (a0a Y Y Y (a0a Y Y Y (b8k u9 Y Y Y (a1b Y Y Y Y Y (a0a Y Y Y ?_))))))))));obtain⟨v1,o,hm⟩:=Yb hm;refine b0r 6 (fun a w'=>R=w'/\Has 61 a [(0,vs s1),(4,.slice p g t),(5,.int .i64 nx1),(17,.bool v1)]) ?_ ?_;rintro a gx ⟨rfl,g7⟩;refine a2s g7 (a0c Y Y Y (a0f (a0d ?_)));rcases a0g hm with⟨V,hm⟩|⟨V,hm⟩
 refine a2p 6 Y V (a3p Y (a0h (a0b (a0c Y Y Y (a0c Y Y Y (a0f (a0d (a7f (a2y (a1g (a2y (a1g (a2y (a1g (b1w (a9t (vl:= [vs [],.int .i64 0]) Y ⟨a6z Y,a6z Y,trivial⟩ (by simp) ?_))))))))))))))));obtain rfl:=Yo hm;exact⟨_,_,_,Y,z.Yp [] Y Y,Y,Y⟩;refine a2p 6 Y V (a2e Y (a0h (a0b (a0a Y Y Y (a0a Y Y Y ?_)))));obtain⟨c1,gb,hm⟩:=Yb hm;refine b2j u9 Y Y Y Y gb (a1b Y Y Y Y Y (a0c Y Y Y (a0f (a0d ?_))));rcases a0g hm with⟨Z,hm⟩|⟨Z,hm⟩
 refine a2p 18 Y Z (a3p Y (b3j (b7l (by decide) (a0z (b7l (by decide) (a0z (fun a ha=>hk1 (nx1,l1) a _ hm ?_)))))));exact⟨_,p,g,t,xss2,T,z.Yp [0] Y Y,U,ha.cut (l:= [4,5]) Y⟩;refine a2p 18 Y Z (a2e Y (a0h (a0b (a0a Y Y Y (a0a Y Y Y ?_)))));obtain⟨c2,gc,hm⟩:=Yb hm;refine b2j u9 Y Y Y Y gc (a1b Y Y Y Y Y (a0c Y Y Y (a0f (a0d ?_))));rcases a0g hm with⟨g0,hm⟩|⟨g0,hm⟩
 refine a2p 23 Y g0 (a3p Y (a0h (a0b (a0a Y Y Y (a1b Y Y Y Y Y (a0c Y Y Y (a0f (a0d (a0h (a0b (a0a Y Y Y (a0a Y Y Y (b8k u9 Y Y Y (a1b Y Y Y Y Y (a0a Y Y Y ?_)))))))))))))));obtain⟨v2,k,hm⟩:=Yb hm;refine b0r 11 (fun a w'=>R=w'/\Has 61 a [(0,vs s1),(4,.slice p g t),(5,.int .i64 (iadd .i64 nx1 1)),(45,.bool v2)]) ?_ ?_;rintro a gy ⟨rfl,g8⟩;refine a2s g8 (a0f (a0d ?_));rcases a0g hm with⟨g1,hm⟩|⟨g1,hm⟩
 refine a2p 45 Y g1 (a3p Y (a0h (a0b (a0c Y Y Y (a0c Y Y Y (a0f (a0d (a7f (a2y (a1g (a2y (a1g (a2y (a1g (b1w (a9t (vl:= [vs [],.int .i64 0]) Y ⟨a6z Y,a6z Y,trivial⟩ (by simp) ?_))))))))))))))));obtain rfl:=Yo hm;exact⟨_,_,_,Y,z.Yp [] Y Y,Y,Y⟩;refine a2p 45 Y g1 (a2e Y (a4q (a7g (a0d (a0h (a0b (a0a Y Y Y (a0a Y Y Y (a0a Y Y Y ?_)))))))));obtain⟨c3,gd,hm⟩:=Yb hm;refine b2j u9 Y Y Y Y gd (a1n (e:=5) (cs:= [.int .u8 c3]) (q:=1) Y Y z Y (fun _=>by kernel_rfl) Y Y ?_);intro b1 gz ge;obtain⟨l3,gf,hm⟩:=Yb hm;refine b6u (r:=(Rp.int .u8)) ap213 Y Y ge Y Y (i:=1) (j:=0) Y Y U ((show RowN (Rp.int .u8) x 1 [.int .u8 c3] [c3]from⟨Y,⟨_,_,Y,Y,(Y:RowR (Rp.int .u8) _ [] [])⟩⟩)) gf ?_;intro gg gh h0 gi gj;refine a0c Y Y Y (a0f (a0d (a0b (a0a Y Y Y (a1b Y Y Y Y Y (a0c Y Y Y (a0f (a7g (a0w (fun a ha=>ihx1 ((iadd .i64 (iadd .i64 nx1 1) 1),l3) a _ hm ?_))))))))));exact⟨_,gg,(g+1),gh,(xss2++ [.int .u8 c3]),T,gi.Yp [1] Y Y,gj,ha.cut (l:= [0,4,5]) Y⟩;clear hm;rcases a0g k with⟨g2,k⟩|⟨g2,k⟩
 refine a4a 34 Y g2 (a1o Y (by decide) Y (a1o Y (by decide) Y (a1o Y (by decide) Y (a1o Y (by decide) Y (a1o Y (by decide) Y (a1o Y (by decide) Y (a1o Y (by decide) Y (a1o Y (by decide) Y (a1o Y (by decide) Y (a1o Y (by decide) Y (a0q Y Y Y Y (a0f (a0w (fun a ha=> ?_))))))))))))));cases k;exact⟨Y,ha.cut (l:= [0,4,5,45]) Y⟩;refine a4a 34 Y g2 (a0a Y Y Y (a0a Y Y Y ?_));obtain⟨c4,gk,k⟩:=Yb k;refine b2j u9 Y Y Y Y gk (a1b Y Y Y Y Y (a0a Y Y Y ?_));obtain⟨v3,u,k⟩:=Yb k;refine b0r 5 (fun a w'=>R=w'/\Has 61 a [(0,vs s1),(4,.slice p g t),(5,.int .i64 (iadd .i64 nx1 1)),(34,.bool false),(44,.bool v3)]) ?_ ?_;rintro a h1 ⟨rfl,g9⟩;refine a2s g9 (a0l Y Y Y Y (a0f (a0w (fun a ha=> ?_))));cases k;exact⟨Y,ha.cut (l:= [0,4,5,45]) Y⟩;clear k;rcases a0g u with⟨G,u⟩|⟨G,u⟩
 refine a4a 39 Y G (a0a Y Y Y (a0a Y Y Y ?_));obtain⟨c5,gl,u⟩:=Yb u;refine b2j u9 Y Y Y Y gl (a1b Y Y Y Y Y (a0q Y Y Y Y (a0f (a0w (fun a ha=> ?_)))));cases u;exact⟨Y,ha.cut (l:= [0,4,5,34,44]) Y⟩;refine a4a 39 Y G (a1o Y (by decide) Y (a1o Y (by decide) Y (a1o Y (by decide) Y (a1o Y (by decide) Y (a0l Y Y Y Y (a0f (a0w (fun a ha=> ?_))))))));cases u;exact⟨Y,ha.cut (l:= [0,4,5,34,44]) Y⟩;refine a2p 23 Y g0 (a2e Y (a4q (a7g (a0d (a0h (a0b (a0a Y Y Y (a0a Y Y Y (a0a Y Y Y ?_)))))))));obtain⟨c6,gm,hm⟩:=Yb hm;refine b2j u9 Y Y Y Y gm (a1n (e:=5) (cs:= [.int .u8 c6]) (q:=1) Y Y z Y (fun _=>by kernel_rfl) Y Y ?_);intro b2 h2 gn;obtain⟨l4,go,hm⟩:=Yb hm;refine b6u (r:=(Rp.int .u8)) ap213 Y Y gn Y Y (i:=1) (j:=0) Y Y U ((show RowN (Rp.int .u8) x 1 [.int .u8 c6] [c6]from⟨Y,⟨_,_,Y,Y,(Y:RowR (Rp.int .u8) _ [] [])⟩⟩)) go ?_;intro gp gq h3 gr gs;refine a0c Y Y Y (a0f (a0d (a0b (a0a Y Y Y (a1b Y Y Y Y Y (a0c Y Y Y (a0f (a7g (a0w (fun a ha=>ihx1 ((iadd .i64 nx1 1),l4) a _ hm ?_))))))))));exact⟨_,gp,(g+1),gq,(xss2++ [.int .u8 c6]),T,gr.Yp [1] Y Y,gs,ha.cut (l:= [0,4,5]) Y⟩;clear hm;rcases a0g o with⟨H,o⟩|⟨H,o⟩
 refine a4a 11 Y H (a1o Y (by decide) Y (a1o Y (by decide) Y (a1o Y (by decide) Y (a1o Y (by decide) Y (a1o Y (by decide) Y (a0q Y Y Y Y (a0f (a0w (fun a ha=> ?_)))))))));cases o;exact⟨Y,ha.cut (l:= [0,4,5,17]) Y⟩;refine a4a 11 Y H (a0a Y Y Y (a0a Y Y Y ?_));obtain⟨c7,gt,o⟩:=Yb o;refine b2j u9 Y Y Y Y gt ?_;obtain⟨v4,gu,o⟩:=Yb o;refine a8t ent221 Y Y Y Y (c7i _ _ _ gu) (e1g Y Y Y (a0l Y Y Y Y (a0f (a0w (fun a ha=> ?_)))));cases o;exact⟨Y,ha.cut (l:= [0,4,5,17]) Y⟩
theorem c7s(n:Nat)(s1:Bs)(r:(Token×Int×Int))(hm:b7y n s1=some r){w:World}{F:Frz}(hs:Sat F w)(hg0:FX F 0 [.int .u8 40,.int .u8 41,.int .u8 44,.int .u8 59,.int .u8 58,.int .u8 61,.int .u8 60,.int .u8 43,.int .u8 45,.int .u8 42,.int .u8 47,.int .u8 123,.int .u8 125]):
 Calls Tryz.prog 187 #[vs s1] w fun e w'=>∃v F' O',e= .returned v/\HS F w [] F' O' w'/\(v= .tuple #[.agg #[.int .i64 r.1.Kind,vs r.1.Text,.int .i64 r.1.N,.int .i64 r.1.Pos],.int .i64 r.2.1,.int .i64 r.2.2]/\O'= []):=by
 unfold b7y at hm;have h:=HS.init hs;refine a3c 78 Tryz.func187 Y Y Y (a0h (a0b (a9x ze152 Y Y Y h ?_)));intro b1 H g;refine a0c Y Y Y (a0c Y Y Y (a0f (a0d (a0h (a3h (a0h (a0b (a0a Y Y Y ?_))))))));obtain⟨c1,g1,hm⟩:=Yb hm;refine b2j u9 Y Y Y Y g1 ?_;obtain⟨v1,g2,hm⟩:=Yb hm;refine a8t ent175 Y Y Y Y (b2q _ _ _ g2) (a0c Y Y Y (a0f (a0d ?_)));rcases a0g hm with⟨k,hm⟩|⟨k,hm⟩
 refine a2p 13 Y k (a3p Y (a0h (a0b (a0a Y Y Y (a0a Y Y Y ?_)))));obtain⟨v2,g3,hm⟩:=Yb hm;refine a8t ent176 Y Y Y Y (b1n _ _ _ _ g3 (pf177 _)) ?_;obtain⟨t1,g4,hm⟩:=Yb hm;refine d4y u9 Y Y Y Y g4 (a0c Y Y Y (a0f (a0d (a0h (a0h (a0b (a0a Y Y Y ?_)))))));obtain⟨v3,g5,hm⟩:=Yb hm;refine a8t ent113 Y Y Y Y (c9j _ _ _ g5) (e1g Y Y Y (a0f (a0d ?_)));rcases a0g hm with⟨o,hm⟩|⟨o,hm⟩
 refine a2p 23 Y o (a3p Y (a0h (a0b (b5n (v:= .agg #[.int .i64 0,vs [],.int .i64 0,.int .i64 0]) Y Y Y (fun _=>by kernel_rfl) (a5g sz152 Y g Y Y Y Y (i:=0) Y Y Y Y ?_)))));intro gj I;refine a0c Y Y Y (a0c Y Y Y (a0f (a0d (a7f (a1g (a2y (a1g (a9t (vl:= [.agg #[.int .i64 0,vs [],.int .i64 0,.int .i64 0],.int .i64 0,.int .i64 3]) Y ⟨c2q ag152 sz152 Y I Y (i:=0) Y,a6z Y,a6z Y,trivial⟩ (by simp) ?_))))))));obtain rfl:=Yo hm;exact⟨_,_,_,Y,I.Yp [] Y Y,Y,Y⟩;refine a2p 23 Y o (a2e Y (a4q (a0d (a0h (a0b (a0a Y Y Y (b5n (v:= .agg #[.int .i64 0,vs t1,.int .i64 0,.int .i64 0]) Y Y Y (fun _=>by kernel_rfl) (a0a Y Y Y (b8k u9 Y Y Y (a5g sz152 Y g Y Y Y Y (i:=0) Y Y Y Y ?_))))))))));intro gk J;refine a0c Y Y Y (a0c Y Y Y (a0f (a0d (a7f (a2y (a1g (a9t (vl:= [.agg #[.int .i64 0,vs t1,.int .i64 0,.int .i64 0],.int .i64 (t1.length:Int),.int .i64 0]) Y ⟨c2q ag152 sz152 Y J Y (i:=0) Y,a6z Y,a6z Y,trivial⟩ (by simp) ?_)))))));obtain rfl:=Yo hm;exact⟨_,_,_,Y,J.Yp [] Y Y,Y,Y⟩;refine a2p 13 Y k (a2e Y (a0h (a0b (a0a Y Y Y ?_))));obtain⟨c2,g6,hm⟩:=Yb hm;refine b2j u9 Y Y Y Y g6 ?_;obtain⟨v4,g7,hm⟩:=Yb hm;refine a8t ent213 Y Y Y Y (b3s _ _ _ g7) (a0c Y Y Y (a0f (a0d ?_)));rcases a0g hm with⟨p,hm⟩|⟨p,hm⟩
 refine a2p 29 Y p (a3p Y (a0h (a0b (a0a Y Y Y (a0a Y Y Y ?_)))));obtain⟨v5,g8,hm⟩:=Yb hm;refine a8t ent176 Y Y Y Y (b1n _ _ _ _ g8 (pf213 _)) ?_;obtain⟨t2,g9,hm⟩:=Yb hm;refine d4y u9 Y Y Y Y g9 (a0c Y Y Y (a0f (a0d (a0h (a0b (a0a Y Y Y ?_))))));obtain⟨v6,ga,hm⟩:=Yb hm;refine a8t ent217 Y Y Y Y (c6a _ _ _ ga) (a0a Y Y Y (a1f Y Y Y Y (a1f Y Y Y Y (a0c Y Y Y (a0c Y Y Y (a0f (a0d (a0h (a0h (a0b (a0a Y Y Y (e1g Y Y Y (a0f (a0d ?_))))))))))))));rcases a0g hm with⟨q,hm⟩|⟨q,hm⟩
 refine a2p 43 Y q (a3p Y (a0h (a0b (b5n (v:= .agg #[.int .i64 0,vs [],.int .i64 0,.int .i64 0]) Y Y Y (fun _=>by kernel_rfl) (a5g sz152 Y g Y Y Y Y (i:=0) Y Y Y Y ?_)))));intro gl L;refine a0c Y Y Y (a0c Y Y Y (a0f (a0d (a7f (a1g (a2y (a1g (a9t (vl:= [.agg #[.int .i64 0,vs [],.int .i64 0,.int .i64 0],.int .i64 0,.int .i64 3]) Y ⟨c2q ag152 sz152 Y L Y (i:=0) Y,a6z Y,a6z Y,trivial⟩ (by simp) ?_))))))));obtain rfl:=Yo hm;exact⟨_,_,_,Y,L.Yp [] Y Y,Y,Y⟩;refine a2p 43 Y q (a2e Y (a4q (a0d (a0h (a0b (a0a Y Y Y (a0a Y Y Y (b5n (v:= .agg #[.int .i64 1,vs t2,.int .i64 v6.1,.int .i64 0]) Y Y Y (fun _=>by kernel_rfl) (a0a Y Y Y (b8k u9 Y Y Y (a5g sz152 Y g Y Y Y Y (i:=0) Y Y Y Y ?_)))))))))));intro gm M;refine a0c Y Y Y (a0c Y Y Y (a0f (a0d (a7f (a2y (a1g (a9t (vl:= [.agg #[.int .i64 1,vs t2,.int .i64 v6.1,.int .i64 0],.int .i64 (t2.length:Int),.int .i64 0]) Y ⟨c2q ag152 sz152 Y M Y (i:=0) Y,a6z Y,a6z Y,trivial⟩ (by simp) ?_)))))));obtain rfl:=Yo hm;exact⟨_,_,_,Y,M.Yp [] Y Y,Y,Y⟩;refine a2p 29 Y p (a2e Y (a0h (a0b (a0a Y Y Y ?_))));obtain⟨c3,gb,hm⟩:=Yb hm;refine b2j u9 Y Y Y Y gb (a1b Y Y Y Y Y (a0c Y Y Y (a0f (a0d ?_))));rcases a0g hm with⟨t,hm⟩|⟨t,hm⟩
 refine a2p 50 Y t (a3p Y (a0h (a0b (a0a Y Y Y ?_))));obtain⟨v7,gc,hm⟩:=Yb hm;refine a1q ent218 Y Y Y Y g (c3n _ _ _ gc g.sat (hg0.mono g.le)) ?_;rintro _ gn _ go gp Q ⟨rfl,rfl⟩;refine a0a Y Y Y (a1f Y Y Y Y (a1f Y Y Y Y (a0c Y Y Y (a0c Y Y Y (a0f (a0d (a0h (a0h (a0b (a0a Y Y Y (a1b Y Y Y Y Y (a0f (a0d ?_)))))))))))));rcases a0g hm with⟨u,hm⟩|⟨u,hm⟩
 refine a2p 60 Y u (a3p Y (a0h (a0b (b5n (v:= .agg #[.int .i64 0,vs [],.int .i64 0,.int .i64 0]) Y Y Y (fun _=>by kernel_rfl) (a5g sz152 Y Q Y Y Y Y (i:=0) Y Y Y Y ?_)))));intro gq R;refine a0c Y Y Y (a0c Y Y Y (a0f (a0d (a7f (a1g (a2y (a1g (a9t (vl:= [.agg #[.int .i64 0,vs [],.int .i64 0,.int .i64 0],.int .i64 0,.int .i64 2]) Y ⟨c2q ag152 sz152 Y R Y (i:=0) Y,a6z Y,a6z Y,trivial⟩ (by simp) ?_))))))));obtain rfl:=Yo hm;exact⟨_,_,_,Y,R.Yp [] Y Y,Y,Y⟩;refine a2p 60 Y u (a2e Y (a4q (a0d (a0h (a0b (a0a Y Y Y (b5n (v:= .agg #[.int .i64 2,vs v7.1,.int .i64 0,.int .i64 0]) Y Y Y (fun _=>by kernel_rfl) (a0a Y Y Y (a5g sz152 Y Q Y Y Y Y (i:=0) Y Y Y Y ?_)))))))));intro gr T;refine a0c Y Y Y (a0c Y Y Y (a0f (a0d (a7f (a2y (a1g (a9t (vl:= [.agg #[.int .i64 2,vs v7.1,.int .i64 0,.int .i64 0],.int .i64 v7.2,.int .i64 0]) Y ⟨c2q ag152 sz152 Y T Y (i:=0) Y,a6z Y,a6z Y,trivial⟩ (by simp) ?_)))))));obtain rfl:=Yo hm;exact⟨_,_,_,Y,T.Yp [] Y Y,Y,Y⟩;refine a2p 50 Y t (a2e Y (a4q (a7g (a0d (a0h (a0h (a0b (e6j (j:=0) ag211 sz211 Y Y g hg0.fc Y Y Y (a0a Y Y Y (a0f (a0d (a3h ?_))))))))))));intro a V;obtain⟨kq1,hkont1⟩:∃kq1:Option (Token×Int×Int),kq1=(some ((⟨0,[],0,0⟩:Token),0,10)):=⟨_,Y⟩
 replace hm:(fun m(s:Int)=>lexer_next_L1 n s1 kq1 m s) n 0=some r:=by rw [hkont1];exact hm
 refine c2k (id:=1) (fun m(s:Int)=>lexer_next_L1 n s1 kq1 m s) (fun(y:Unit)=>kq1) r (fun(s:Int)a w'=>H=w'/\Has 78 a [(0,vs s1),(2,.pointer (some ⟨b1,0,none⟩)),(65,.agg #[.int .u8 40,.int .u8 41,.int .u8 44,.int .u8 59,.int .u8 58,.int .u8 61,.int .u8 60,.int .u8 43,.int .u8 45,.int .u8 42,.int .u8 47,.int .u8 123,.int .u8 125]),(66,.int .i64 s)]) (fun(y:Unit)a w'=>H=w'/\Has 78 a [(2,.pointer (some ⟨b1,0,none⟩))]) (fun _=>Y) ?_ ?_ hm ⟨Y,V.cut (l:= [0,2,65,66]) Y⟩;clear hm;rintro _u a gs hm ⟨rfl,Z⟩;rw [hkont1]at hm;refine a8h (e:= .exit 1) Z (a3e (a0d (a0h (a0b (b5n (v:= .agg #[.int .i64 0,vs [],.int .i64 0,.int .i64 0]) Y Y Y (fun _=>by kernel_rfl) (a5g sz152 Y g Y Y Y Y (i:=0) Y Y Y Y ?_))))));intro gg U;refine a0c Y Y Y (a0c Y Y Y (a0f (a0d (a7f (a9t (vl:= [.agg #[.int .i64 0,vs [],.int .i64 0,.int .i64 0],.int .i64 0,.int .i64 10]) Y ⟨c2q ag152 sz152 Y U Y (i:=0) Y,a6z Y,a6z Y,trivial⟩ (by simp) ?_)))));obtain rfl:=Yo hm;exact⟨_,_,_,Y,U.Yp [] Y Y,Y,Y⟩;clear hm hkont1;intro hk1 mx1 K ihx1;rintro i1 a gh hm ⟨rfl,g0⟩;simp only [lexer_next_L1_s]at hm;refine a4m g0 (a0h (a0b (a1b Y Y Y Y Y (a0f (a0d (a0h ?_))))));rcases a0g hm with⟨x,hm⟩|⟨x,hm⟩
 refine a2p 67 Y x (a3p Y (a4q (a0d (a0h (a3h (a0h (a0b ?_)))))));obtain⟨c4,gd,hm⟩:=Yb hm;refine f4p u211 ag5 sz5 Y Y Y Y Y Y gd (a0c Y Y Y (a0f (a0d (a0h (a0b (a0a Y Y Y ?_))))));obtain⟨c5,ge,hm⟩:=Yb hm;refine b2j u9 Y Y Y Y ge (a0a Y Y Y (a1b Y Y Y Y Y (a0f (a0d ?_))));rcases a0g hm with⟨z,hm⟩|⟨z,hm⟩
 refine a2p 72 Y z (a3p Y (a0h (a0b (a0a Y Y Y ?_))));obtain⟨t3,gf,hm⟩:=Yb hm;refine d4y u9 Y Y Y Y gf (b5n (v:= .agg #[.int .i64 3,vs t3,.int .i64 0,.int .i64 0]) Y Y Y (fun _=>by kernel_rfl) (a5g sz152 Y g Y Y Y Y (i:=0) Y Y Y Y ?_));intro gi G;refine a0c Y Y Y (a0c Y Y Y (a0f (a0d (a7f (a2y (a1g (a1g (a2y (a1g (a9t (vl:= [.agg #[.int .i64 3,vs t3,.int .i64 0,.int .i64 0],.int .i64 1,.int .i64 0]) Y ⟨c2q ag152 sz152 Y G Y (i:=0) Y,a6z Y,a6z Y,trivial⟩ (by simp) ?_))))))))));obtain rfl:=Yo hm;exact⟨_,_,_,Y,G.Yp [] Y Y,Y,Y⟩;refine a2p 72 Y z (a2e Y (a4q (a7g (a0d (a0b (a1b Y Y Y Y Y (a0a Y Y Y (a0f (a0w (fun a ha=>ihx1 (iadd .i64 i1 1) a _ hm ?_))))))))));exact⟨Y,ha.cut (l:= [0,2,65,66]) Y⟩;refine a2p 67 Y x (a2e Y (b3j (a0z (a0z (fun a ha=>hk1 () a _ hm ?_)))));exact⟨Y,ha.cut (l:= [2]) Y⟩
theorem d1q(n:Nat)(s1:Bs):FnC Wt 187 [.str s1] (b7y n s1) (fun r=> .tup [.agg [.int .i64 r.1.Kind,.str r.1.Text,.int .i64 r.1.N,.int .i64 r.1.Pos],.int .i64 r.2.1,.int .i64 r.2.2]):=⟨fun _ _=>by kernel_rfl,fun r hm w F hs hg us hu=>by
 obtain⟨_,_,rfl,rfl,rfl⟩:=hu;exact(c7s n s1 r hm hs (hg)).mono fun e w'⟨v,F',O',e1,e2,e3⟩=>by
  obtain⟨rfl,rfl⟩:=e3;exact⟨_,F',e1,e2,⟨_,rfl,⟨_,_,rfl,⟨_,rfl,⟨_,_,rfl,rfl,⟨_,_,rfl,rfl,⟨_,_,rfl,rfl,⟨_,_,rfl,rfl,rfl⟩⟩⟩⟩⟩,⟨_,_,rfl,rfl,⟨_,_,rfl,rfl,rfl⟩⟩⟩⟩⟩⟩
theorem d1z(n:Nat)(s1:Bs):FnC Wt 131 [.str s1] (c1z n s1) (fun r=> .tup [.sl 7 r.1,.int .i64 r.2.1,.int .i64 r.2.2]):=by
 refine fk (n:=45) Tryz.func131 fun F0 w0 r=> ?_;unfold c1z;refine gc Y ?_ ?_
 ·exact gr
 refine a1h (fun m(s:Int×List Token)=>b4n n s1 m s.1 s.2) (fun(s:Int×List Token)=> [.r 5 7 s.2,.v 6 (.int .i64 s.1)]) (fun _=>Y) (_,_) Y Y (fun _=>Y) Y fun K1 m1 hK1 z1=> ?_;obtain⟨atx1,l1⟩:=z1;dsimp only;refine gV Y fun t1=> ?_;refine gK (d4w _ _) Y Y Y fun v1=> ?_;refine gc Y ?_ ?_
 ·exact gr
 refine gV Y fun t2=> ?_;refine gK (d1q _ _) Y Y Y fun v2=> ?_;refine gc Y ?_ ?_
 ·exact gr
 refine gP Y fun l2=> ?_;exact ge hK1 (_,_)
theorem b7x(n:Nat)(l1:(List Int)):FnC Wt 191 [.sl 2 l1] (a2i n l1) (fun r=> .sl 2 r):=by
 refine fk (n:=21) Tryz.func191 fun F0 w0 r=> ?_;unfold a2i;refine a1h ((fun k0 m(s:Int)=>big_trim_L1 n l1 k0 m s) _) (fun(s:Int)=> [.v 3 (.int .i64 s)]) (fun _=>Y) _ Y Y (fun _=>Y) Y fun K1 m1 hK1 nx1=> ?_;refine gJ 7 (fun v1=> [.v 15 (.ob v1)]) Y (fun _=>Y) (fun J2 hJ2=> ?_) (fun v1=> ?_)
 ·refine gd Y ?_ ?_
  ·refine gA ?_;refine gV Y fun ex1=> ?_;exact gx hJ2
  exact gx hJ2
 refine gc Y ?_ ?_
 ·exact ge hK1 _
 refine gV Y fun l2=> ?_;exact gr
theorem a3z(n:Nat)(sign1:Int)(l1:(List Int)):FnC Wt 140 [.int .i64 sign1,.sl 2 l1] (a2u n sign1 l1) (fun r=> .agg [.int .i64 r.Sign,.sl 2 r.Digits]):=by
 refine fk (n:=14) Tryz.func140 fun F0 w0 r=> ?_;unfold a2u;refine gK (b7x _ _) Y Y Y fun v1=> ?_;refine gc Y ?_ ?_
 ·exact gr
 exact gr
theorem a2o(n:Nat)(ax1:Big):FnC Wt 91 [.agg [.int .i64 ax1.Sign,.sl 2 ax1.Digits]] (a2n n ax1) (fun r=> .ob r):=by
 refine fk (n:=45) Tryz.func91 fun F0 w0 r=> ?_;unfold a2n;refine a1h ((fun k0 m(s:Int)=>big_Right_L1 n ax1 k0 m s) _) (fun(s:Int)=> [.v 12 (.int .i64 s)]) (fun _=>Y) _ Y Y (fun _=>Y) Y fun K1 m1 hK1 i1=> ?_;refine gc Y ?_ ?_
 ·refine gV Y fun ex2=> ?_;refine gJ 3 (fun v3=> [.v 21 (.ob v3)]) Y (fun _=>Y) (fun J2 hJ2=> ?_) (fun v3=> ?_)
  ·refine gd Y ?_ ?_
   ·exact gx hJ2
   exact gx hJ2
  refine gc Y ?_ ?_
  ·exact gr
  exact ge hK1 _
 refine gc Y ?_ ?_
 ·exact gr
 refine gJ 4 (fun v1=> [.v 35 (.ob v1)]) Y (fun _=>Y) (fun J3 hJ3=> ?_) (fun v1=> ?_)
 ·refine gd Y ?_ ?_
  ·exact gx hJ3
  exact gx hJ3
 refine gJ 8 (fun v2=> [.v 44 (.ob v2)]) Y (fun _=>Y) (fun J4 hJ4=> ?_) (fun v2=> ?_)
 ·refine gd Y ?_ ?_
  ·refine gA ?_;refine gV Y fun ex1=> ?_;exact gx hJ4
  exact gx hJ4
 exact gr
theorem b6i(n:Nat)(x1:Int):FnC Wt 212 [.int .i64 x1] (a9q n x1) (fun r=> .ob r):=by
 refine fk (n:=6) Tryz.func212 fun F0 w0 r=> ?_;unfold a9q;exact gr
theorem b0t(n:Nat)(x1:Int)(y1:Int):FnC Wt 168 [.int .i64 x1,.int .i64 y1] (a5c n x1 y1) (fun r=> .int .i64 r):=by
 refine fk (n:=20) Tryz.func168 fun F0 w0 r=> ?_;unfold a5c;refine gK (b6i _ _) Y Y Y fun v1=> ?_;refine gK (b6i _ _) Y Y Y fun v2=> ?_;refine gc Y ?_ ?_
 ·refine gc Y ?_ ?_
  ·exact gr
  exact gr
 refine gc Y ?_ ?_
 ·exact gr
 refine gc Y ?_ ?_
 ·exact gr
 refine gc Y ?_ ?_
 ·exact gr
 exact gr
theorem b5g(n:Nat)(ax1:(List Int))(b1:(List Int)):FnC Wt 169 [.sl 2 ax1,.sl 2 b1] (a6q n ax1 b1) (fun r=> .int .i64 r):=by
 refine fk (n:=41) Tryz.func169 fun F0 w0 r=> ?_;unfold a6q;refine gc Y ?_ ?_
 ·refine gK (b0t _ _ _) Y Y Y fun v1=> ?_;exact gr
 refine a1h ((fun k0 m(s:Int)=>big_compare_L1 n ax1 b1 k0 m s) _) (fun(s:Int)=> [.v 5 (.int .i64 s)]) (fun _=>Y) _ Y Y (fun _=>Y) Y fun K1 m1 hK1 i1=> ?_;refine gc Y ?_ ?_
 ·refine gG Y (by kernel_rfl) ?_;refine gV Y fun ex1=> ?_;refine gV Y fun ex2=> ?_;refine gc Y ?_ ?_
  ·refine gG Y (by kernel_rfl) ?_;refine gV Y fun ex3=> ?_;refine gV Y fun ex4=> ?_;refine gQ (b0t _ _ _) Y Y Y (fun _=>Y) fun v2=> ?_;exact gr
  exact ge hK1 _
 exact gr
theorem d0f(n:Nat)(ax1:Big)(b1:Big):FnC Wt 103 [.agg [.int .i64 ax1.Sign,.sl 2 ax1.Digits],.agg [.int .i64 b1.Sign,.sl 2 b1.Digits]] (b2f n ax1 b1) (fun r=> .int .i64 r):=by
 refine fk (n:=31) Tryz.func103 fun F0 w0 r=> ?_;unfold b2f;refine gK (a2o _ _) Y Y Y fun v1=> ?_;refine gJ 4 (fun v2=> [.v 12 (.ob v2)]) Y (fun _=>Y) (fun J1 hJ1=> ?_) (fun v2=> ?_)
 ·refine gd Y ?_ ?_
  ·exact gx hJ1
  refine gA ?_;refine gK (a2o _ _) Y Y Y fun v5=> ?_;exact gx hJ1
 refine gc Y ?_ ?_
 ·exact gr
 refine gc Y ?_ ?_
 ·refine gK (b0t _ _ _) Y Y Y fun v3=> ?_;exact gr
 refine gG Y (by kernel_rfl) ?_;refine gQ (b5g _ _ _) Y Y Y (fun _=>Y) fun v4=> ?_;exact gr
theorem a2t(n:Nat)(s1:(List Int)):FnO Wt 110 [.sl 2 s1] (a0o n s1) 3 1 2 (fun r=>r):=⟨fun _ _=>by kernel_rfl,fun r hm w F hs hg us hu=>by
 obtain⟨_,_,rfl,⟨_,_,_,rfl,hs0⟩,rfl⟩:=hu;exact(b0d n s1 r hm hs hs0).mono fun e w'⟨v,F',O',e1,e2,⟨a,m,n,xs,e3,e4,e5⟩⟩=>⟨v,F',a,m,n,xs,e1,e4▸e2,e5,e3⟩⟩
theorem b3t(n:Nat)(ax1:Big):FnC Wt 192 [.agg [.int .i64 ax1.Sign,.sl 2 ax1.Digits]] (b3k n ax1) (fun r=> .agg [.int .i64 r.Sign,.sl 2 r.Digits]):=by
 refine fk (n:=14) Tryz.func192 fun F0 w0 r=> ?_;unfold b3k;refine gK (a2o _ _) Y Y Y fun v1=> ?_;refine gc Y ?_ ?_
 ·exact gr
 refine gHs [(3,(pL [0,2,4,6,8,11,13,15] .nil))] Y (by kernel_rfl) Y Y fun Ky=> ?_;refine gO (a2t _ _) Y Y Y fun v2=> ?_;refine gK (a3z _ _ _) Y Y Y fun v3=> ?_;refine gHe Y ?_;exact gr
theorem d1c(n:Nat)(ax1:(List Int))(b1:(List Int)):FnC Wt 210 [.sl 2 ax1,.sl 2 b1] (b9f n ax1 b1) (fun r=> .sl 2 r):=by
 refine fk (n:=55) Tryz.func210 fun F0 w0 r=> ?_;unfold b9f;refine gM (fun j1=> [.v 0 (.sl 2 j1.1),.v 1 (.sl 2 j1.2)]) Y (fun _=>Y) (fun J1 hJ1=> ?_) (fun j1=> ?_)
 ·refine gd Y ?_ ?_
  ·exact gx hJ1
  exact gx hJ1
 obtain⟨ax2,b2⟩:=j1;dsimp only;refine gMk wzOk Y fun l1=> ?_;refine a1h ((fun k0 m(s:Int×Int×List Int)=>big_add_L1 n ax2 b2 k0 m s.1 s.2.1 s.2.2) _) (fun(s:Int×Int×List Int)=> [.r 5 2 s.2.2,.v 6 (.int .i64 s.1),.v 22 (.int .i64 s.2.1)]) (fun _=>Y) (_,_,_) Y Y (fun _=>Y) Y fun K2 m2 hK2 z2=> ?_;obtain⟨carry1,i1,l2⟩:=z2;dsimp only;refine gc Y ?_ ?_
 ·refine gV Y fun ex2=> ?_;refine gd Y ?_ ?_
  ·refine gA ?_;refine gV Y fun ex4=> ?_;refine gB ?_;refine gV Y fun _=> ?_;refine gW Y Y fun l5=> ?_;refine gV Y fun q1=> ?_;exact ge hK2 (_,_,_)
  refine gB ?_;refine gV Y fun _=> ?_;refine gW Y Y fun l5=> ?_;refine gV Y fun q1=> ?_;exact ge hK2 (_,_,_)
 refine gV Y fun _=> ?_;refine gW Y Y fun l4=> ?_;refine gK (b7x _ _) Y Y Y fun v1=> ?_;exact gr
theorem c6o(n:Nat)(ax1:(List Int))(b1:(List Int)):FnC Wt 211 [.sl 2 ax1,.sl 2 b1] (b6e n ax1 b1) (fun r=> .sl 2 r):=by
 refine fk (n:=43) Tryz.func211 fun F0 w0 r=> ?_;unfold b6e;refine gO (a2t _ _) Y Y Y fun v1=> ?_;refine a1h ((fun k0 m(s:Int×Int×List Int)=>big_sub_L1 n b1 v1 k0 m s.1 s.2.1 s.2.2) _) (fun(s:Int×Int×List Int)=> [.r 5 2 s.2.2,.v 6 (.int .i64 s.1),.v 13 (.int .i64 s.2.1)]) (fun _=>Y) (_,_,_) Y Y (fun _=>Y) Y fun K1 m1 hK1 z1=> ?_;obtain⟨borrow1,i1,l1⟩:=z1;dsimp only;refine gc Y ?_ ?_
 ·refine gV Y fun ex1=> ?_;refine gd Y ?_ ?_
  ·refine gA ?_;refine gV Y fun ex3=> ?_;refine gB ?_;refine gV Y fun q1=> ?_;refine gV Y fun _=> ?_;refine gW Y Y fun l3=> ?_;exact ge hK1 (_,_,_)
  refine gB ?_;refine gV Y fun q1=> ?_;refine gV Y fun _=> ?_;refine gW Y Y fun l3=> ?_;exact ge hK1 (_,_,_)
 refine gK (b7x _ _) Y Y Y fun v2=> ?_;exact gr
theorem d9b(n:Nat)(ax1:(List Int))(b1:(List Int)):FnC Wt 207 [.sl 2 ax1,.sl 2 b1] (b1l n ax1 b1) (fun r=> .sl 2 r):=by
 refine fk (n:=67) Tryz.func207 fun F0 w0 r=> ?_;unfold b1l;refine gMk wzOk Y fun l1=> ?_;refine a1h ((fun k0 m(s:Int×List Int)=>big_mul_L1 n ax1 b1 k0 m s.1 s.2) _) (fun(s:Int×List Int)=> [.r 5 2 s.2,.v 20 (.int .i64 s.1)]) (fun _=>Y) (_,_) Y Y (fun _=>Y) Y fun K1 m1 hK1 z1=> ?_;obtain⟨i1,l2⟩:=z1;dsimp only;refine gc Y ?_ ?_
 ·refine gV Y fun ex1=> ?_;refine a1h ((fun k0 m(s:Int×Int×List Int)=>big_mul_L2 n b1 i1 ex1 k0 m s.1 s.2.1 s.2.2) _) (fun(s:Int×Int×List Int)=> [.r 5 2 s.2.2,.v 8 (.int .i64 s.1),.v 27 (.int .i64 s.2.1)]) (fun _=>Y) (_,_,_) Y Y (fun _=>Y) Y fun K2 m2 hK2 z2=> ?_;obtain⟨carry1,i2,l4⟩:=z2;dsimp only;refine gc Y ?_ ?_
  ·refine gV Y fun ex4=> ?_;refine gV Y fun ex5=> ?_;refine gV Y fun q1=> ?_;refine gV Y fun _=> ?_;refine gW Y Y fun l7=> ?_;exact ge hK2 (_,_,_)
  refine gV Y fun ex2=> ?_;refine gV Y fun _=> ?_;refine gW Y Y fun l6=> ?_;exact ge hK1 (_,_)
 refine gK (b7x _ _) Y Y Y fun v1=> ?_;exact gr
set_option maxRecDepth 1000000
set_option maxHeartbeats 40000000
theorem c5r(n:Nat)(ax1:(List Int))(b1:(List Int))(r:Int)(hm:a6q n ax1 b1=some r){w:World}{F:Frz}(hs:Sat F w)(hg0:FX F 0 [.int .u8 40,.int .u8 41,.int .u8 44,.int .u8 59,.int .u8 58,.int .u8 61,.int .u8 60,.int .u8 43,.int .u8 45,.int .u8 42,.int .u8 47,.int .u8 123,.int .u8 125]){as1:Option Addr}{ns1:Nat}{cs1:Nat}{as2:Option Addr}{ns2:Nat}{cs2:Nat}(hs1:SlR (Rp.int .i64) F as1 ns1 cs1 ax1)(hs2:SlR (Rp.int .i64) F as2 ns2 cs2 b1):
 Calls Tryz.prog 169 #[.slice as1 ns1 cs1,.slice as2 ns2 cs2] w fun e w'=>∃v F' O',e= .returned v/\HS F w [] F' O' w'/\(v= .int .i64 r/\O'= []):=
 (b5g n ax1 b1).2 r hm w F hs hg0 _ ⟨_,_,rfl,⟨_,_,_,rfl,hs1⟩,⟨_,_,rfl,⟨_,_,_,rfl,hs2⟩,rfl⟩⟩|>.mono fun e w'⟨v,F',e1,e2,e3⟩=>by
  obtain rfl:=e3;exact⟨_,F',[],e1,e2,⟨rfl,rfl⟩⟩
theorem d4h(n:Nat)(ax1:(List Int))(b1:(List Int))(r:((List Int)×(List Int)))(hm:b6t n ax1 b1=some r){w:World}{F:Frz}(hs:Sat F w)(hg0:FX F 0 [.int .u8 40,.int .u8 41,.int .u8 44,.int .u8 59,.int .u8 58,.int .u8 61,.int .u8 60,.int .u8 43,.int .u8 45,.int .u8 42,.int .u8 47,.int .u8 123,.int .u8 125]){gp gq:Option Addr}{gr g4 gs g5:Nat}(gc:SlR (Rp.int .i64) F gp gr g4 ax1)(g6:SlR (Rp.int .i64) F gq gs g5 b1):
 Calls Tryz.prog 162 #[.slice gp gr g4,.slice gq gs g5] w fun e w'=>∃v F' O',e= .returned v/\HS F w [] F' O' w'/\(∃(a0_0:Option Addr)(n0_0:Nat)(c0_0:Nat)(a1_0:Option Addr)(n1_0:Nat)(c1_0:Nat)(xs1_0:List Value),v= .tuple #[.slice a0_0 n0_0 c0_0,.slice a1_0 n1_0 c1_0]/\O'= [.row 3 1 a1_0 n1_0 c1_0 xs1_0]/\SlR (Rp.int .i64) F' a0_0 n0_0 c0_0 r.1/\RowN (Rp.int .i64) F' n1_0 xs1_0 r.2):=by
 unfold b6t at hm;have h:=HS.init hs;refine a3c 170 Tryz.func162 Y Y Y (a0h (a0b (a0c Y Y Y (a0c Y Y Y (a0f (a0d (a0h (a0h (a0b (a0a Y Y Y (a0a Y Y Y ?_)))))))))));obtain⟨v1,k3,hm⟩:=Yb hm;refine a1q ent169 Y Y Y Y h (c5r _ _ _ _ k3 h.sat (hg0.mono h.le) gc g6) ?_;rintro _ k4 _ i7 g7 R ⟨rfl,rfl⟩;refine a1b Y Y Y Y Y (a0f (a0d ?_));rcases a0g hm with⟨gx,hm⟩|⟨gx,hm⟩
 refine a2p 22 Y gx (a3p Y (a0h (a0b (a0a Y Y Y ?_))));obtain⟨v2,k5,hm⟩:=Yb hm;refine a1q ent110 Y Y Y Y R (b0d _ _ _ k5 R.sat (gc.mono g7)) ?_;rintro _ mp _ mq mr k6 ⟨i8,i9,gt,xss3,rfl,rfl,k7⟩;refine a0c Y Y Y (a0c Y Y Y (a0f (a0d (a7f (a1g (a9t (vl:= [.slice none 0 0,.slice i8 i9 gt]) Y ⟨a6z Y,a6z Y,trivial⟩ (by simp) ?_))))));obtain rfl:=Yo hm;exact⟨_,_,_,Y,k6.Yp [0] Y Y,none,0,0,i8,i9,gt,xss3,Y,Y,SlR.nil _ _,k7⟩;refine a2p 22 Y gx (a2e Y (a4q (a0d (a0h (a0h (a0b (a0a Y Y Y (a8j g6.len u28 Y Y Y (a1b Y Y Y Y Y (a0f (a0d ?_)))))))))));rcases a0g hm with⟨gy,hm⟩|⟨gy,hm⟩
 refine a2p 27 Y gy (a3p Y (a0h (a0b (a0a Y Y Y (a0a Y Y Y ?_)))));obtain⟨ex1,k8,hm⟩:=Yb hm;refine b1r (r:=(Rp.int .i64)) u28 sz3 Y Y Y Y (g6.mono g7) k8 ?_;intro b2 o1 g4 k9 ka;have kb:g4= [.int .i64 ex1]:=ka;subst kb;refine a8g (j:=0) ag3 Y Y R k9 Y Y ?_;obtain⟨v3,kc,hm⟩:=Yb hm;refine a1q ent206 Y Y Y Y R (c2s _ _ _ _ kc R.sat (gc.mono g7)) ?_;rintro _ ia _ ms mt kd ⟨ib,ic,gu,xss4,rfl,rfl,ke⟩;refine a0a Y Y Y (a1f Y Y Y Y (a1f Y Y Y Y (a0c Y Y Y (a0c Y Y Y (a0f (a0d (a0h (a0b (a0a Y Y Y (a0a Y Y Y (a1n (e:=3) (cs:= [.int .i64 v3.2]) (q:=1) Y Y kd Y (fun _=>by kernel_rfl) Y Y ?_)))))))))));intro b3 mu ie;obtain⟨v4,kf,hm⟩:=Yb hm;refine c6u ent191 Y Y Y Y (b2g _ _ _ kf (c1g _) (ie.viewRow (p:=0) Y Y ((show RowN (Rp.int .i64) ia 1 [.int .i64 v3.2] [v3.2]from⟨Y,⟨_,_,Y,Y,(Y:RowR (Rp.int .i64) _ [] [])⟩⟩)))) ?_;intro gz hles5 hvs5;obtain⟨kg,ig⟩:=ie.cutN (p:=0) Y ((show RowN (Rp.int .i64) ia 1 [.int .i64 v3.2] [v3.2]from⟨Y,⟨_,_,Y,Y,(Y:RowR (Rp.int .i64) _ [] [])⟩⟩)) hles5;rw [<-hvs5]at ig;refine a0c Y Y Y (a0c Y Y Y (a0f (a0d (a7f (a1g ?_)))));obtain⟨mv,kh,ki,hsx1⟩:=a1v kg (i:=1) Y ke;refine a9t (vl:= [.slice ib ic gu,.slice (some ⟨b3,0,none⟩) gz 1]) Y ⟨a6z Y,a6z Y,trivial⟩ (by simp) ?_;obtain rfl:=Yo hm;exact⟨_,_,_,Y,ki.Yp [0] Y Y,ib,ic,gu,(some ⟨b3,0,none⟩),gz,1,([.int .i64 v3.2].take (gz*((Rp.int .i64)).k)),Y,Y,hsx1,(ig.mono kh)⟩;refine a2p 27 Y gy (a2e Y (a4q (a0d (a0h (a0b (a0c Y Y Y (a0f (a0d (a0h (a3h ?_))))))))));intro a ht;obtain⟨kont3,hkont3⟩:∃kont3:Int->Option ((List Int)×(List Int)),kont3=(fun(shift2:Int)=>(b1l n ax1 [shift2]).bind fun v5=>(app 8 v5 [0]).bind fun l1=>(b1l n b1 [shift2]).bind fun v6=>(bif(l1.length:Int)==(ax1.length:Int)then(app 8 l1 [0]).bind fun l10=>some l10 else some l1).bind fun l2=>(mks 8 0 (isub .i64 (l2.length:Int) (v6.length:Int))).bind fun l3=>big_div_L2 n v6 (fun(l6:List Int)(l7:List Int)=>(a2i n l7).bind fun v7=>(a8n n v7 shift2).bind fun v8=>(a2i n l6).bind fun v9=>some (v9,v8.1)) n (isub .i64 (l3.length:Int) 1) l3 l2):=⟨_,Y⟩
 replace hm:(fun m(s:Int)=>big_div_L1 n b1 kont3 m s) n 1=some r:=by rw [hkont3];exact hm
 refine c2k (id:=0) (fun m(s:Int)=>big_div_L1 n b1 kont3 m s) (fun(y:Int)=>kont3 y) r (fun(s:Int)a w'=>i7=w'/\Has 170 a [(0,.slice gp gr g4),(1,.slice gq gs g5),(8,.int .i64 s)]) (fun(y:Int)a w'=>i7=w'/\Has 170 a [(0,.slice gp gr g4),(1,.slice gq gs g5),(8,.int .i64 y)]) (fun _=>Y) ?_ ?_ hm ⟨Y,ht.cut (l:= [0,1,8]) Y⟩;clear hm;rintro shift2 a mw hm ⟨rfl,iw⟩;rw [hkont3]at hm
 replace hm:=hm
 refine a8h (e:= .exit 0) iw (a3e (a0d (a0h (a0b (a0a Y Y Y (a0a Y Y Y (a1n (e:=3) (cs:= [.int .i64 shift2]) (q:=1) Y Y R Y (fun _=>by kernel_rfl) Y Y ?_)))))));intro b4 mx kj;obtain⟨my,ih,ii,hsx2⟩:=a1v kj (i:=0) Y ((show RowN (Rp.int .i64) k4 1 [.int .i64 shift2] [shift2]from⟨Y,⟨_,_,Y,Y,(Y:RowR (Rp.int .i64) _ [] [])⟩⟩));obtain⟨v5,kk,hm⟩:=Yb hm;refine a1q ent207 Y Y Y Y ii (c8n _ _ _ _ kk ii.sat ((gc.mono g7).mono ih) hsx2) ?_;rintro _ ij _ mz kl km ⟨o0,ik,il,xss6,rfl,rfl,kn⟩;refine a1n (e:=3) (cs:= [.int .i64 0]) (q:=1) Y Y km Y (fun _=>by kernel_rfl) Y Y ?_;intro b5 oa iy;obtain⟨l1,ko,hm⟩:=Yb hm;refine b6u (r:=(Rp.int .i64)) ap28 Y Y iy Y Y (i:=1) (j:=0) Y Y kn ((show RowN (Rp.int .i64) ij 1 [.int .i64 0] [0]from⟨Y,⟨_,_,Y,Y,(Y:RowR (Rp.int .i64) _ [] [])⟩⟩)) ko ?_;intro kp h0 ob iz h1;refine a0a Y Y Y (a0a Y Y Y (a1n (e:=3) (cs:= [.int .i64 shift2]) (q:=1) Y Y iz Y (fun _=>by kernel_rfl) Y Y ?_));intro b6 lx j0;obtain⟨oc,h2,h3,hsx3⟩:=a1v j0 (i:=0) Y ((show RowN (Rp.int .i64) ij 1 [.int .i64 shift2] [shift2]from⟨Y,⟨_,_,Y,Y,(Y:RowR (Rp.int .i64) _ [] [])⟩⟩));have kq:=((g7.trans ih).trans kl).trans h2;obtain⟨v6,kr,hm⟩:=Yb hm;refine a1q ent207 Y Y Y Y h3 (c8n _ _ _ _ kr h3.sat (g6.mono kq) hsx3) ?_;rintro _ im _ ly io h4 ⟨T,U,L,xss8,rfl,rfl,ip⟩;refine a0c Y Y Y (a0c Y Y Y (a0f (a0d (a0h (a0h (a0b (a0a Y Y Y (a8j h1.len u28 Y Y Y (a0a Y Y Y (a8j gc.len u28 Y Y Y (a1b Y Y Y Y Y (a0f (a0d ?_)))))))))))));obtain⟨l2,V,hm⟩:=Yb hm;refine e3c (fun a w'=>∃(gv:Frz)(gw:Option Addr)(gd:Nat)(g8:Nat)(xss9:List Value),Frz.le im gv/\HS F w [] gv [.row 3 1 T U L xss8,.row 3 1 (some ⟨b5,0,none⟩) 1 1 [.int .i64 0],.row 3 1 gw gd g8 xss9] w'/\(RowN (Rp.int .i64) gv gd xss9 l2)/\Has 170 a [(8,.int .i64 shift2),(9,.slice gw gd g8),(10,.slice T U L)]) ?_ ?_;rintro a lz ⟨gv,gw,gd,g8,xss9,ks,j1,iq,j2⟩;refine a4m j2 (a0h (a0b (a0a Y Y Y (a8j ip.len u28 Y Y Y (a0c Y Y Y (a0f (a0d (a0h (a0b (a0a Y Y Y (a8j iq.len u28 Y Y Y (a0a Y Y Y (a1b Y Y Y Y Y ?_)))))))))))));obtain⟨l3,kt,hm⟩:=Yb hm;refine d7f (r:=(Rp.int .i64)) ap28 zi3 (fun _=>Y) Y Y Y j1 Y Y kt ?_;intro b7 m0 xs1 j3 ir;refine a0c Y Y Y (a0f (a0d (a0h (a0h (a0b (a0a Y Y Y (a8j ir.len u28 Y Y Y (a1b Y Y Y Y Y (a0c Y Y Y (a0f (a0d (a3h ?_))))))))))));obtain⟨h5,h6,j4,hsx4⟩:=a1v j3 (i:=1) Y (ip.mono ks);intro a hu;obtain⟨kq1,hkont1⟩:∃kq1:(List Int)->(List Int)->Option ((List Int)×(List Int)),kq1=(fun(l6:List Int)(l7:List Int)=>(a2i n l7).bind fun v7=>(a8n n v7 shift2).bind fun v8=>(a2i n l6).bind fun v9=>some (v9,v8.1)):=⟨_,Y⟩
 replace hm:(fun m(s:Int×List Int×List Int)=>big_div_L2 n v6 kq1 m s.1 s.2.1 s.2.2) n ((isub .i64 (l3.length:Int) 1),l3,l2)=some r:=by rw [hkont1];exact hm
 refine c2k (id:=2) (fun m(s:Int×List Int×List Int)=>big_div_L2 n v6 kq1 m s.1 s.2.1 s.2.2) (fun(y:List Int×List Int)=>kq1 y.1 y.2) r (fun(s:Int×List Int×List Int)a w'=>∃(Z:Frz)(u:Option Addr)(o:Nat)(g:Nat)(xss10:List Value)(x:Option Addr)(t:Nat)(z:Nat)(xss11:List Value),Frz.le h5 Z/\HS F w [] Z [.row 3 1 u o g xss10,.row 3 1 x t z xss11] w'/\(RowN (Rp.int .i64) Z o xss10 s.2.1)/\(RowN (Rp.int .i64) Z t xss11 s.2.2)/\Has 170 a [(8,.int .i64 shift2),(9,.slice x t z),(10,.slice T U L),(11,.int .i64 (v6.length:Int)),(12,.slice u o g),(13,.int .i64 s.1)]) (fun(y:List Int×List Int)a w'=>∃(g0:Frz)(g1:Option Addr)(g9:Nat)(g2:Nat)(xss12:List Value)(ge:Option Addr)(ga:Nat)(gf:Nat)(xss13:List Value),Frz.le h5 g0/\HS F w [] g0 [.row 3 1 g1 g9 g2 xss12,.row 3 1 ge ga gf xss13] w'/\(RowN (Rp.int .i64) g0 g9 xss12 y.1)/\(RowN (Rp.int .i64) g0 ga xss13 y.2)/\Has 170 a [(8,.int .i64 shift2),(9,.slice ge ga gf),(12,.slice g1 g9 g2)]) (fun _=>Y) ?_ ?_ hm ⟨_,(some ⟨b7,0,none⟩),((isub .i64 (l2.length:Int) (v6.length:Int)).toNat),((isub .i64 (l2.length:Int) (v6.length:Int)).toNat),xs1,gw,gd,g8,xss9,Yf,j4.Yp [0,2] Y Y,(ir.mono h6),(iq.mono h6),hu.cut (l:= [8,9,10,11,12,13]) Y⟩;clear hm;rintro⟨l6,l7⟩ a m1 hm ⟨g0,g1,g9,g2,xss12,ge,ga,gf,xss13,m2,h7,h8,h9,j5⟩;rw [hkont1]at hm
 replace hm:=hm
 refine a8h (e:= .exit 2) j5 (a3e (a0d (a0h (a0b (a0a Y Y Y ?_)))));obtain⟨v7,ku,hm⟩:=Yb hm;refine c6u ent191 Y Y Y Y (b2g _ _ _ ku (c1g _) (h7.viewRow (p:=1) Y Y h9)) ?_;intro m3 hles14 hvs14;obtain⟨j6,it⟩:=h7.cutN (p:=1) Y h9 hles14;rw [<-hvs14]at it;refine a0a Y Y Y ?_;obtain⟨m4,hb,hc,hsx5⟩:=a1v j6 (i:=1) Y it;obtain⟨v8,kv,hm⟩:=Yb hm;refine a1q ent206 Y Y Y Y hc (c2s _ _ _ _ kv hc.sat hsx5) ?_;rintro _ m5 _ m6 hd he ⟨hf,hg,hh,xss15,rfl,rfl,j7⟩;refine a0a Y Y Y (a1f Y Y Y Y (a1f Y Y Y Y (a0c Y Y Y (a0c Y Y Y (a0f (a0d (a0h (a0b (a0a Y Y Y ?_)))))))));obtain⟨v9,kw,hm⟩:=Yb hm;refine c6u ent191 Y Y Y Y (b2g _ _ _ kw (c1g _) (he.viewRow (p:=1) Y Y ((h8.mono hb).mono hd))) ?_;intro hi hles16 hvs16;obtain⟨j8,iu⟩:=he.cutN (p:=1) Y ((h8.mono hb).mono hd) hles16;rw [<-hvs16]at iu;refine a0a Y Y Y (a0c Y Y Y (a0c Y Y Y (a0f (a0d (a7f ?_)))));obtain⟨m7,j9,ja,hsx6⟩:=a1v j8 (i:=1) Y iu;refine a9t (vl:= [.slice g1 hi g2,.slice hf hg hh]) Y ⟨a6z Y,a6z Y,trivial⟩ (by simp) ?_;obtain rfl:=Yo hm;exact⟨_,_,_,Y,ja.Yp [0] Y Y,g1,hi,g2,hf,hg,hh,xss15,Y,Y,hsx6,(j7.mono j9)⟩;clear hm hkont1;intro hk1 mx1 K ihx1;rintro⟨i1,l4,l5⟩ a m8 hm ⟨Z,u,o,g,xss10,x,t,z,xss11,J,gb,gg,M,jb⟩;simp only [big_div_L2_s]at hm;refine a4m jb (a0h (a0h (a0b (a0a Y Y Y (a1b Y Y Y Y Y (a0f (a0d ?_)))))));rcases a0g hm with⟨hj,hm⟩|⟨hj,hm⟩
 refine a2p 80 Y hj (a3p Y (a4q (a0d (a0h (a3h (a0h (c0z (by kernel_rfl) (by kernel_rfl) gb (a3v Y Y Y Y (fun _ _ _ _=>a0a Y Y Y Yn) (a3v Y Y Y Y (fun _ _ _ _=>a0a Y Y Y Yn) (a3v Y Y Y Y (fun _ _ _ _=>a0a Y Y Y Yn) (a3v Y Y Y Y (fun _ _ _ _=>a1b Y Y Y Y Y Yn) ?_)))))))))));obtain⟨ex2,kx,hm⟩:=Yb hm;obtain⟨b8,o2,g5,jc,ho1,ky,hp1,hv⟩:=c6k (P:=Tryz.prog) (r:=(Rp.int .i64)) u28 sz3 gb (p:=1) Y Y M kx;have kz:g5= [.int .i64 ex2]:=ky;subst kz;refine b8f Y Y Y Y hv (a3v Y Y Y Y (fun _ _ _ hq=>b4u (j:=0) ag3 Y Y hq Y (p:=1) Y Y jc ho1 hp1 Y Yn) ?_);obtain⟨q1,hq1,hm⟩:=Yb hm;refine a3v Y Y Y Y (fun _ _ _ _=>f2e Y Y Y Y hq1 Yn) (a3v Y Y Y Y (fun _ _ _ _=>a0a Y Y Y Yn) (a3v Y Y Y Y (fun _ _ _ _=>a0a Y Y Y Yn) (a3v Y Y Y Y (fun _ _ _ _=>a0a Y Y Y Yn) (a3v Y Y Y Y (fun _ _ _ _=>a1b Y Y Y Y Y Yn) (a3v Y Y Y Y (fun _ _ _ _=>a1b Y Y Y Y Y Yn) ?_)))));obtain⟨ex3,l0,hm⟩:=Yb hm;obtain⟨b9,o3,gt,jd,ho2,la,hp2,hw⟩:=c6k (P:=Tryz.prog) (r:=(Rp.int .i64)) u28 sz3 gb (p:=1) Y Y M l0;have lb:gt= [.int .i64 ex3]:=la;subst lb;refine b8f Y Y Y Y hw (a3v Y Y Y Y (fun _ _ _ hq=>b4u (j:=0) ag3 Y Y hq Y (p:=1) Y Y jd ho2 hp2 Y Yn) (a3v Y Y Y Y (fun _ _ _ _=>a1b Y Y Y Y Y Yn) (a3v Y Y Y Y (fun _ _ _ _=>a0c Y Y Y Yn) (f2g ?_))));rintro m9 ⟨ma,G,je⟩;refine a0d (a0h (c0z (by kernel_rfl) (by kernel_rfl) je (a3v Y Y Y Y (fun _ _ _ _=>a0a Y Y Y Yn) (a3v Y Y Y Y (fun _ _ _ _=>a0a Y Y Y Yn) (a3v Y Y Y Y (fun _ _ _ _=>a0a Y Y Y Yn) (a3v Y Y Y Y (fun _ _ _ _=>a1b Y Y Y Y Y Yn) ?_))))));obtain⟨ex4,lc,hm⟩:=Yb hm;obtain⟨b10,o4,gu,ld,lf,hx⟩:=b5z (P:=Tryz.prog) (r:=(Rp.int .i64)) u28 sz3 ((hsx4.mono J).mono G) lc;have lg:gu= [.int .i64 ex4]:=lf;subst lg;refine b8f Y Y Y Y hx (a3v Y Y Y Y (fun _ _ hleq hq=>a8g (j:=0) ag3 Y Y hq (ld.mono hleq) Y Y Yn) ?_);obtain⟨q2,hq2,hm⟩:=Yb hm;refine a3v Y Y Y Y (fun _ _ _ _=>f4f Y Y Y Y hq2 Yn) (a3v Y Y Y Y (fun _ _ _ _=>a0a Y Y Y Yn) (a3v Y Y Y Y (fun _ _ _ _=>a0a Y Y Y Yn) (a3v Y Y Y Y (fun _ _ _ _=>a0a Y Y Y Yn) (a3v Y Y Y Y (fun _ _ _ _=>a1b Y Y Y Y Y Yn) ?_))));obtain⟨ex5,lh,hm⟩:=Yb hm;obtain⟨b11,o5,li,lj,jf,hy⟩:=b5z (P:=Tryz.prog) (r:=(Rp.int .i64)) u28 sz3 ((hsx4.mono J).mono G) lh;have lk:li= [.int .i64 ex5]:=jf;subst lk;refine b8f Y Y Y Y hy (a3v Y Y Y Y (fun _ _ hleq hq=>a8g (j:=0) ag3 Y Y hq (lj.mono hleq) Y Y Yn) ?_);obtain⟨q3,hq3,hm⟩:=Yb hm;refine a3v Y Y Y Y (fun _ _ _ _=>f3h Y Y Y Y hq3 Yn) (a3v Y Y Y Y (fun _ _ _ _=>a0c Y Y Y Yn) (a3v Y Y Y Y (fun _ _ _ _=>a0c Y Y Y Yn) (f2g ?_)));rintro mb ⟨hk,H,jg⟩;refine a0d (a0h (a3h ?_));intro a hz;obtain⟨kont2,hkont2⟩:∃kont2:Int->Option ((List Int)×(List Int)),kont2=(fun(guess2:Int)=>(lsl l5 i1 (iadd .i64 (iadd .i64 i1 (v6.length:Int)) 1)).bind fun l8=>(b0i n l8 v6 guess2).bind fun v10=>(ix l4 i1).bind fun ex6=>(lset l4 i1 v10.2).bind fun l9=>big_div_L2 n v6 kq1 mx1 (isub .i64 i1 1) l9 (lput l5 i1 v10.1 (iadd .i64 (iadd .i64 i1 (v6.length:Int)) 1))):=⟨_,Y⟩
 replace hm:(fun m(s:Int×Int)=>big_div_L3 n v6 i1 l5 kont2 m s.1 s.2) n (q2,q3)=some r:=by rw [hkont2];exact hm
 refine c2k (id:=4) (fun m(s:Int×Int)=>big_div_L3 n v6 i1 l5 kont2 m s.1 s.2) (fun(y:Int)=>kont2 y) r (fun(s:Int×Int)a w'=>∃(gh:Frz),Frz.le hk gh/\HS F w [] gh [.row 3 1 u o g xss10,.row 3 1 x t z xss11] w'/\Has 170 a [(8,.int .i64 shift2),(9,.slice x t z),(10,.slice T U L),(11,.int .i64 (v6.length:Int)),(12,.slice u o g),(13,.int .i64 i1),(15,.int .i64 s.1),(16,.int .i64 s.2)]) (fun(y:Int)a w'=>∃(gi:Frz),Frz.le hk gi/\HS F w [] gi [.row 3 1 u o g xss10,.row 3 1 x t z xss11] w'/\Has 170 a [(8,.int .i64 shift2),(9,.slice x t z),(10,.slice T U L),(11,.int .i64 (v6.length:Int)),(12,.slice u o g),(13,.int .i64 i1),(15,.int .i64 y)]) (fun _=>Y) ?_ ?_ hm ⟨_,Yf,jg.Yp [0,1] Y Y,hz.cut (l:= [8,9,10,11,12,13,15,16]) Y⟩;clear hm;rintro guess2 a mc hm ⟨gi,N,gj,jh⟩;rw [hkont2]at hm
 replace hm:=hm
 refine a8h (e:= .exit 4) jh (a3e (a0d (a0b (a0a Y Y Y (a0a Y Y Y (a0a Y Y Y (a0a Y Y Y (a0a Y Y Y (a0a Y Y Y (a1b Y Y Y Y Y (a1b Y Y Y Y Y ?_)))))))))));obtain⟨l8,iv,hm⟩:=Yb hm;refine e6l u28 (r:=(Rp.int .i64)) sz3 Y Y gj Y Y Y (p:=1) Y Y (((M.mono G).mono H).mono N) iv ?_;intro md me mf ji;refine a0a Y Y Y (a0a Y Y Y ?_);have ll:=((J.trans G).trans H).trans N;obtain⟨v10,jj,hm⟩:=Yb hm;refine e8r (r:=(Rp.int .i64)) ent208 Y Y Y Y gj (p:=1) Y Y (((M.mono G).mono H).mono N) ji (fun pre1 mid1 post1 hw1 hwf1 hwr1=>c9a _ _ _ _ _ jj gj.sat hw1 hwf1 (by rw [show l8=_ from(b8d iv).2.2.2];exact hwr1) (hsx4.mono ll)) ?_;rintro _ mg _ _ mh xs2 gk hl hxx1 ⟨rfl,rfl,jk⟩;obtain⟨ex6,lm,hm⟩:=Yb hm;refine b0u (r:=(Rp.int .i64)) u28 sz3 Y Y hl Y Y (p:=0) Y Y ((((gg.mono G).mono H).mono N).mono gk) lm ?_;intro b12 o6 il jl ho3 jm hp3;have ln:il= [.int .i64 ex6]:=jm;subst ln;obtain⟨l9,lo,hm⟩:=Yb hm;refine b3w (r:=(Rp.int .i64)) sz3 Y hl Y Y Y Y Y (p:=0) Y Y jl ho3 ((((gg.mono G).mono H).mono N).mono gk) Y Y lo ?_;intro mi xs3 jn jo;refine a0f (a7g (a0d (a0b (a0a Y Y Y (a1b Y Y Y Y Y (a0c Y Y Y (a0f (a0w (fun a ha=>ihx1 ((isub .i64 i1 1),l9,(lput l5 i1 v10.1 (iadd .i64 (iadd .i64 i1 (v6.length:Int)) 1))) a _ hm ?_)))))))));exact⟨_,u,o,g,xs3,x,t,z,xs2,((((J.trans G).trans H).trans N).trans gk),jn.Yp [0,1] Y Y,jo,((hxx1 _ jk)),ha.cut (l:= [8,9,10,11,12,13]) Y⟩;clear hm hkont2;intro hk2 mx2 K ihx2;rintro⟨guess1,rest1⟩ a mj hm ⟨gh,g3,hn,jp⟩;simp only [big_div_L3_s]at hm;refine a4m jp (a0h (a0h (c0z (by kernel_rfl) (by kernel_rfl) hn (a3v Y Y Y Y (fun _ _ _ _=>a0a Y Y Y Yn) (a3v Y Y Y Y (fun _ _ _ _=>a1b Y Y Y Y Y Yn) (a3v Y Y Y Y (fun _ _ _ _=>a0a Y Y Y Yn) ?_))))));obtain⟨v11,Q,hm⟩:=Yb hm;refine f3w 23 (fun a=>Has 170 a [(8,.int .i64 shift2),(9,.slice x t z),(10,.slice T U L),(11,.int .i64 (v6.length:Int)),(12,.slice u o g),(13,.int .i64 i1),(15,.int .i64 guess1),(16,.int .i64 rest1),(137,.bool v11)]) ?_ ?_;intro a i0;refine d7j i0 (f2g ?_);rintro mk ⟨ml,gl,gm⟩;refine a0d ?_;rcases a0g hm with⟨ho,hm⟩|⟨ho,hm⟩
 refine a2p 137 Y ho (a3p Y (a4q (a0d (a3h (a0h (a0b (a0a Y Y Y (a1b Y Y Y Y Y (a0c Y Y Y (a0f (a0d (a0b (a0a Y Y Y (a0a Y Y Y (a0a Y Y Y (a1b Y Y Y Y Y ?_))))))))))))))));obtain⟨ex7,lp,hm⟩:=Yb hm;refine b1r (r:=(Rp.int .i64)) u28 sz3 Y Y Y Y (((((hsx4.mono J).mono G).mono H).mono g3).mono gl) lp ?_;intro b13 o7 h0 lq jq;have lr:h0= [.int .i64 ex7]:=jq;subst lr;refine a8g (j:=0) ag3 Y Y gm lq Y Y (a1b Y Y Y Y Y (a0c Y Y Y (a0f (a7g (a0w (fun a ha=>ihx2 ((isub .i64 guess1 1),(iadd .i64 rest1 ex7)) a _ hm ?_))))));exact⟨_,(g3.trans gl),gm.Yp [0,1] Y Y,ha.cut (l:= [8,9,10,11,12,13,15,16]) Y⟩;refine a2p 137 Y ho (a2e Y (b3j (a0z (a0z (fun a ha=>hk2 guess1 a _ hm ?_)))));exact⟨_,(g3.trans gl),gm.Yp [0,1] Y Y,ha.cut (l:= [8,9,10,11,12,13,15]) Y⟩;clear hm;rcases a0g Q with⟨hp,Q⟩|⟨hp,Q⟩
 refine e1e 114 Y hp (a6l Y Y Y (a6l Y Y Y (a6l Y Y Y (a6l Y Y Y (a6l Y Y Y (a6l Y Y Y (a6l Y Y Y (a6l Y Y Y (a6l Y Y Y (a6l Y Y Y (a6l Y Y Y (a6l Y Y Y (a6l Y Y Y (a6l Y Y Y (a6l Y Y Y (a6l Y Y Y (a6l Y Y Y (a6l Y Y Y (a6l Y Y Y (a6l Y Y Y (a6l Y Y Y (a6l Y Y Y (a3v Y Y Y Y (fun _ _ _ _=>a0q Y Y Y Y Yn) (d9g (fun a ha=> ?_)))))))))))))))))))))))));cases Q;exact ha.cut (l:= [8,9,10,11,12,13,15,16,137]) Y;refine e1e 114 Y hp (a3v Y Y Y Y (fun _ _ _ _=>a0a Y Y Y Yn) (a3v Y Y Y Y (fun _ _ _ _=>a1b Y Y Y Y Y Yn) (a3v Y Y Y Y (fun _ _ _ _=>a0a Y Y Y Yn) ?_)));obtain⟨v12,I,Q⟩:=Yb Q;refine f3w 19 (fun a=>Has 170 a [(8,.int .i64 shift2),(9,.slice x t z),(10,.slice T U L),(11,.int .i64 (v6.length:Int)),(12,.slice u o g),(13,.int .i64 i1),(15,.int .i64 guess1),(16,.int .i64 rest1),(114,.bool false),(136,.bool v12)]) ?_ ?_;intro a i2;refine d7j i2 (a3v Y Y Y Y (fun _ _ _ _=>a0l Y Y Y Y Yn) (d9g (fun a ha=> ?_)));cases Q;exact ha.cut (l:= [8,9,10,11,12,13,15,16,137]) Y;clear Q;rcases a0g I with⟨hr,I⟩|⟨hr,I⟩
 refine e1e 117 Y hr (a3v Y Y Y Y (fun _ _ _ _=>a0a Y Y Y Yn) (a3v Y Y Y Y (fun _ _ _ _=>a0a Y Y Y Yn) (a3v Y Y Y Y (fun _ _ _ _=>a0a Y Y Y Yn) (a3v Y Y Y Y (fun _ _ _ _=>a1b Y Y Y Y Y Yn) ?_))));obtain⟨ex8,ls,I⟩:=Yb I;obtain⟨b14,o8,L,lt,jr,i3⟩:=b5z (P:=Tryz.prog) (r:=(Rp.int .i64)) u28 sz3 ((((hsx4.mono J).mono G).mono H).mono g3) ls;have lu:L= [.int .i64 ex8]:=jr;subst lu;refine b8f Y Y Y Y i3 (a3v Y Y Y Y (fun _ _ hleq hq=>a8g (j:=0) ag3 Y Y hq (lt.mono hleq) Y Y Yn) (a3v Y Y Y Y (fun _ _ _ _=>a1b Y Y Y Y Y Yn) (a3v Y Y Y Y (fun _ _ _ _=>a0a Y Y Y Yn) ?_)));obtain⟨q4,hq4,I⟩:=Yb I;refine a3v Y Y Y Y (fun _ _ _ _=>f2e Y Y Y Y hq4 Yn) (a3v Y Y Y Y (fun _ _ _ _=>a0a Y Y Y Yn) (a3v Y Y Y Y (fun _ _ _ _=>a0a Y Y Y Yn) (a3v Y Y Y Y (fun _ _ _ _=>a0a Y Y Y Yn) (a3v Y Y Y Y (fun _ _ _ _=>a1b Y Y Y Y Y Yn) (a3v Y Y Y Y (fun _ _ _ _=>a1b Y Y Y Y Y Yn) ?_)))));obtain⟨ex9,lv,I⟩:=Yb I;obtain⟨b15,o9,g8,i4,ho4,js,hp4,i5⟩:=c6k (P:=Tryz.prog) (r:=(Rp.int .i64)) u28 sz3 hn (p:=1) Y Y (((M.mono G).mono H).mono g3) lv;have jt:g8= [.int .i64 ex9]:=js;subst jt;refine b8f Y Y Y Y i5 (a3v Y Y Y Y (fun _ _ _ hq=>b4u (j:=0) ag3 Y Y hq Y (p:=1) Y Y i4 ho4 hp4 Y Yn) (a3v Y Y Y Y (fun _ _ _ _=>a1b Y Y Y Y Y Yn) (a3v Y Y Y Y (fun _ _ _ _=>a1b Y Y Y Y Y Yn) (a3v Y Y Y Y (fun _ _ _ _=>a0q Y Y Y Y Yn) (d9g (fun a ha=> ?_))))));cases I;exact ha.cut (l:= [8,9,10,11,12,13,15,16,114,136]) Y;refine e1e 117 Y hr (a6l Y Y Y (a6l Y Y Y (a6l Y Y Y (a6l Y Y Y (a6l Y Y Y (a6l Y Y Y (a6l Y Y Y (a6l Y Y Y (a6l Y Y Y (a6l Y Y Y (a6l Y Y Y (a6l Y Y Y (a6l Y Y Y (a6l Y Y Y (a6l Y Y Y (a6l Y Y Y (a6l Y Y Y (a6l Y Y Y (a3v Y Y Y Y (fun _ _ _ _=>a0l Y Y Y Y Yn) (d9g (fun a ha=> ?_)))))))))))))))))))));cases I;exact ha.cut (l:= [8,9,10,11,12,13,15,16,114,136]) Y;refine a2p 80 Y hj (a2e Y (b3j (a0z (a0z (fun a ha=>hk1 (l4,l5) a _ hm ?_)))));exact⟨_,u,o,g,xss10,x,t,z,xss11,J,gb.Yp [0,1] Y Y,gg,M,ha.cut (l:= [8,9,12]) Y⟩;clear hm;rcases a0g V with⟨gn,V⟩|⟨gn,V⟩
 refine a2p 65 Y gn (a3p Y (a0b (a0a Y Y Y (a1n (e:=3) (cs:= [.int .i64 0]) (q:=1) Y Y h4 Y (fun _=>by kernel_rfl) Y Y ?_))));intro b16 mm ju;obtain⟨l10,jv,V⟩:=Yb V;refine b6u (r:=(Rp.int .i64)) ap28 Y Y ju Y Y (i:=3) (j:=0) Y Y ((h1.mono h2).mono io) ((show RowN (Rp.int .i64) im 1 [.int .i64 0] [0]from⟨Y,⟨_,_,Y,Y,(Y:RowR (Rp.int .i64) _ [] [])⟩⟩)) jv ?_;intro jw jx mn jy jz;refine a0c Y Y Y (a0f (a0w (fun a ha=> ?_)));cases V;exact⟨_,jw,((ik+1)+1),jx,((xss6++ [.int .i64 0])++ [.int .i64 0]),Yf,jy.Yp [1,2,3] Y Y,jz,ha.cut (l:= [8,9,10]) Y⟩;refine a2p 65 Y gn (a2e Y (a4q (a0w (fun a ha=> ?_))));cases V;exact⟨_,kp,(ik+1),h0,(xss6++ [.int .i64 0]),Yf,h4.Yp [0,1,2] Y Y,((h1.mono h2).mono io),ha.cut (l:= [8,9,10]) Y⟩;clear hm hkont3;intro hk3 mx3 K ihx3;rintro shift1 a mo hm ⟨rfl,i6⟩;simp only [big_div_L1_s]at hm;refine a4m i6 (a0h (a0h (a0b (a0a Y Y Y (a0a Y Y Y (a8j g6.len u28 Y Y Y (a1b Y Y Y Y Y ?_)))))));obtain⟨ex10,k0,hm⟩:=Yb hm;refine b1r (r:=(Rp.int .i64)) u28 sz3 Y Y Y Y (g6.mono g7) k0 ?_;intro b17 o10 g lw k1;have k2:g= [.int .i64 ex10]:=k1;subst k2;refine a8g (j:=0) ag3 Y Y R lw Y Y (a0a Y Y Y (a1b Y Y Y Y Y (a1b Y Y Y Y Y (a0f (a0d ?_)))));rcases a0g hm with⟨go,hm⟩|⟨go,hm⟩
 refine a2p 48 Y go (a3p Y (a4q (a0d (a3h (a0b (a0a Y Y Y (a1b Y Y Y Y Y (a0c Y Y Y (a0f (a7g (a0w (fun a ha=>ihx3 (imul .i64 shift1 2) a _ hm ?_))))))))))));exact⟨Y,ha.cut (l:= [0,1,8]) Y⟩;refine a2p 48 Y go (a2e Y (b3j (a0z (a0z (fun a ha=>hk3 shift1 a _ hm ?_)))));exact⟨Y,ha.cut (l:= [0,1,8]) Y⟩
theorem d1f(n:Nat)(ax1:(List Int))(b1:(List Int)):FnC Wt 162 [.sl 2 ax1,.sl 2 b1] (b6t n ax1 b1) (fun r=> .tup [.sl 2 r.1,.sl 2 r.2]):=⟨fun _ _=>by kernel_rfl,fun r hm w F hs hg us hu=>by
 obtain⟨_,_,rfl,⟨_,_,_,rfl,hs0⟩,⟨_,_,rfl,⟨_,_,_,rfl,hs1⟩,rfl⟩⟩:=hu;exact(d4h n ax1 b1 r hm hs (hg) hs0 hs1).mono fun e w'⟨v,F',O',e1,e2,e3⟩=>by
  obtain⟨a0_0,n0_0,c0_0,a1_0,n1_0,c1_0,xs1_0,rfl,rfl,g0,g1⟩:=e3;obtain⟨F2,hz,h2,g1'⟩:=frzO e2 g1;exact⟨_,F2,e1,h2,⟨_,rfl,⟨_,_,rfl,⟨_,_,_,rfl,(g0.mono hz)⟩,⟨_,_,rfl,⟨_,_,_,rfl,g1'⟩,rfl⟩⟩⟩⟩⟩
theorem a5n(n:Nat)(right1:Bool)(c1:Big):FnC Wt 161 [.ob right1,.agg [.int .i64 c1.Sign,.sl 2 c1.Digits]] (a5d n right1 c1) (fun r=> .tup [.agg [.int .i64 r.1.Sign,.sl 2 r.1.Digits],.int .i64 r.2]):=by
 refine fk (n:=10) Tryz.func161 fun F0 w0 r=> ?_;unfold a5d;refine gc Y ?_ ?_
 ·exact gr
 exact gr
theorem d1u(n:Nat)(vals1:(List Int)):FnC Wt 209 [.sl 2 vals1] (b4g n vals1) (fun r=> .int .i64 r):=by
 refine fk (n:=18) Tryz.func209 fun F0 w0 r=> ?_;unfold b4g;refine a1h ((fun k0 m(s:Int)=>cmp_Or_int_L1 n vals1 k0 m s) _) (fun(s:Int)=> [.v 8 (.int .i64 s)]) (fun _=>Y) _ Y Y (fun _=>Y) Y fun K1 m1 hK1 i1=> ?_;refine gc Y ?_ ?_
 ·refine gV Y fun ex1=> ?_;refine gc Y ?_ ?_
  ·exact gr
  exact ge hK1 _
 exact gr
theorem e2q(n:Nat)(ax1:Big)(b1:Big):FnC Wt 166 [.agg [.int .i64 ax1.Sign,.sl 2 ax1.Digits],.agg [.int .i64 b1.Sign,.sl 2 b1.Digits]] (c5f n ax1 b1) (fun r=> .tup [.agg [.int .i64 r.1.Sign,.sl 2 r.1.Digits],.int .i64 r.2]):=by
 refine fk (n:=69) Tryz.func166 fun F0 w0 r=> ?_;unfold c5f;refine gK (a2o _ _) Y Y Y fun v1=> ?_;refine gJ 4 (fun v2=> [.v 13 (.ob v2)]) Y (fun _=>Y) (fun J1 hJ1=> ?_) (fun v2=> ?_)
 ·refine gd Y ?_ ?_
  ·exact gx hJ1
  refine gA ?_;refine gK (a2o _ _) Y Y Y fun v15=> ?_;exact gx hJ1
 refine gc Y ?_ ?_
 ·refine gK (a5n _ _ _) Y Y Y fun v3=> ?_;exact gr
 refine gc Y ?_ ?_
 ·refine gHs [(4,(pL [0,2,4,6,12,14,16,18,9,11,21,23,25,26,29,31,33] .nil)),(6,(pL [0,2,4,6,8,10,13,15,17,18,21,23,25] .nil)),(7,(pL [0,2,4,6,8,10,13,15,17,18,21,23,25] .nil))] Y (by kernel_rfl) Y Y fun Ky=> ?_;refine gK (d1u _ _) Y Y Y fun v4=> ?_;refine gK (d1c _ _ _) Y Y Y fun v5=> ?_;refine gK (a3z _ _ _) Y Y Y fun v6=> ?_;refine gK (a5n _ _ _) Y Y Y fun v7=> ?_;refine gHe Y ?_;exact gr
 refine gK (b5g _ _ _) Y Y Y fun v8=> ?_;refine gc Y ?_ ?_
 ·refine gHs [(4,(pL [0,2,4,6,12,14,16,18,9,11,21,23,25,26,29,31,33] .nil)),(6,(pL [0,2,4,6,8,10,13,15,17,18,21,23,25] .nil)),(7,(pL [0,2,4,6,8,10,13,15,17,18,21,23,25] .nil))] Y (by kernel_rfl) Y Y fun Ky=> ?_;refine gK (c6o _ _ _) Y Y Y fun v9=> ?_;refine gK (a3z _ _ _) Y Y Y fun v10=> ?_;refine gK (a5n _ _ _) Y Y Y fun v11=> ?_;refine gHe Y ?_;exact gr
 refine gHs [(4,(pL [0,2,4,6,12,14,16,18,9,11,21,23,25,26,29,31,33] .nil)),(6,(pL [0,2,4,6,8,10,13,15,17,18,21,23,25] .nil)),(7,(pL [0,2,4,6,8,10,13,15,17,18,21,23,25] .nil))] Y (by kernel_rfl) Y Y fun Ky=> ?_;refine gK (c6o _ _ _) Y Y Y fun v12=> ?_;refine gK (a3z _ _ _) Y Y Y fun v13=> ?_;refine gK (a5n _ _ _) Y Y Y fun v14=> ?_;refine gHe Y ?_;exact gr
theorem e2n(n:Nat)(ax1:Big)(b1:Big):FnC Wt 170 [.agg [.int .i64 ax1.Sign,.sl 2 ax1.Digits],.agg [.int .i64 b1.Sign,.sl 2 b1.Digits]] (c5x n ax1 b1) (fun r=> .tup [.agg [.int .i64 r.1.Sign,.sl 2 r.1.Digits],.int .i64 r.2]):=by
 refine fk (n:=32) Tryz.func170 fun F0 w0 r=> ?_;unfold c5x;refine gK (a2o _ _) Y Y Y fun v1=> ?_;refine gJ 4 (fun v2=> [.v 13 (.ob v2)]) Y (fun _=>Y) (fun J1 hJ1=> ?_) (fun v2=> ?_)
 ·refine gd Y ?_ ?_
  ·exact gx hJ1
  refine gA ?_;refine gK (a2o _ _) Y Y Y fun v7=> ?_;exact gx hJ1
 refine gc Y ?_ ?_
 ·refine gK (a5n _ _ _) Y Y Y fun v3=> ?_;exact gr
 refine gHs [(3,(pL [0,2,4,6,8,10,12,14,16,19,21,23,24,27,29,31] .nil))] Y (by kernel_rfl) Y Y fun Ky=> ?_;refine gK (d9b _ _ _) Y Y Y fun v4=> ?_;refine gK (a3z _ _ _) Y Y Y fun v5=> ?_;refine gK (a5n _ _ _) Y Y Y fun v6=> ?_;refine gHe Y ?_;exact gr
theorem c0o(n:Nat)(ax1:Big)(b1:Big):FnC Wt 193 [.agg [.int .i64 ax1.Sign,.sl 2 ax1.Digits],.agg [.int .i64 b1.Sign,.sl 2 b1.Digits]] (b3r n ax1 b1) (fun r=> .tup [.agg [.int .i64 r.1.Sign,.sl 2 r.1.Digits],.agg [.int .i64 r.2.1.Sign,.sl 2 r.2.1.Digits],.int .i64 r.2.2]):=by
 refine fk (n:=67) Tryz.func193 fun F0 w0 r=> ?_;unfold b3r;refine gK (a2o _ _) Y Y Y fun v1=> ?_;refine gJ 4 (fun v2=> [.v 17 (.ob v2)]) Y (fun _=>Y) (fun J1 hJ1=> ?_) (fun v2=> ?_)
 ·refine gd Y ?_ ?_
  ·exact gx hJ1
  refine gA ?_;refine gK (a2o _ _) Y Y Y fun v11=> ?_;exact gx hJ1
 refine gc Y ?_ ?_
 ·exact gr
 refine gc Y ?_ ?_
 ·exact gr
 refine gK (d1f _ _ _) Y Y Y fun v3=> ?_;refine gJ 4 (fun v4=> [.v 44 (.ob v4)]) Y (fun _=>Y) (fun J2 hJ2=> ?_) (fun v4=> ?_)
 ·refine gd Y ?_ ?_
  ·exact gx hJ2
  exact gx hJ2
 refine gc Y ?_ ?_
 ·refine gHs [(7,(pL [0,8,10,12,14,16,3,5,7,19,21,23,25,27] .nil)),(8,(pL [0,2,4,6,8,10,14,16,18,13,21,23,25,27] .nil))] Y (by kernel_rfl) Y Y fun Ky=> ?_;refine gK (d1c _ _ _) Y Y Y fun v5=> ?_;refine gK (a3z _ _ _) Y Y Y fun v6=> ?_;refine gK (c6o _ _ _) Y Y Y fun v7=> ?_;refine gK (a3z _ _ _) Y Y Y fun v8=> ?_;refine gHe Y ?_;exact gr
 refine gHs [(7,(pL [0,8,10,12,14,16,3,5,7,19,21,23,25,27] .nil)),(8,(pL [0,2,4,6,8,10,14,16,18,13,21,23,25,27] .nil))] Y (by kernel_rfl) Y Y fun Ky=> ?_;refine gK (a3z _ _ _) Y Y Y fun v9=> ?_;refine gK (a3z _ _ _) Y Y Y fun v10=> ?_;refine gHe Y ?_;exact gr
theorem c5w(n:Nat)(ax1:Big)(b1:Big):FnC Wt 92 [.agg [.int .i64 ax1.Sign,.sl 2 ax1.Digits],.agg [.int .i64 b1.Sign,.sl 2 b1.Digits]] (b6q n ax1 b1) (fun r=> .tup [.agg [.int .i64 r.1.Sign,.sl 2 r.1.Digits],.int .i64 r.2]):=by
 refine fk (n:=44) Tryz.func92 fun F0 w0 r=> ?_;unfold b6q;refine gK (a2o _ _) Y Y Y fun v1=> ?_;refine gJ 4 (fun v2=> [.v 17 (.ob v2)]) Y (fun _=>Y) (fun J1 hJ1=> ?_) (fun v2=> ?_)
 ·refine gd Y ?_ ?_
  ·exact gx hJ1
  refine gA ?_;refine gK (a2o _ _) Y Y Y fun v9=> ?_;exact gx hJ1
 refine gc Y ?_ ?_
 ·refine gK (a5n _ _ _) Y Y Y fun v3=> ?_;exact gr
 refine gHs [(3,(pL [0,2,6,8,5,11,13] .nil))] Y (by kernel_rfl) Y Y fun Ky=> ?_;refine gO (a2t _ _) Y Y Y fun v4=> ?_;refine gHe Y ?_;refine gFr 6 Y ?_;refine a1h ((fun k0 m(s:(List Int)×(List Int))=>big_Gcd_L1 n k0 m s.1 s.2) _) (fun(s:(List Int)×(List Int))=> [.v 6 (.sl 2 s.1),.v 7 (.sl 2 s.2)]) (fun _=>Y) (_,_) Y Y (fun _=>Y) Y fun K2 m2 hK2 z2=> ?_;obtain⟨x1,y1⟩:=z2;dsimp only;refine gc Y ?_ ?_
 ·refine gK (d1f _ _ _) Y Y Y fun v8=> ?_;exact ge hK2 (_,_)
 refine gO (a2t _ _) Y Y Y fun v5=> ?_;refine gK (a3z _ _ _) Y Y Y fun v6=> ?_;refine gK (a5n _ _ _) Y Y Y fun v7=> ?_;exact gr
theorem c4i(n:Nat)(nx1:Int):FnC Wt 72 [.int .i64 nx1] (b7e n nx1) (fun r=> .agg [.int .i64 r.Sign,.sl 2 r.Digits]):=by
 refine fk (n:=25) Tryz.func72 fun F0 w0 r=> ?_;unfold b7e;refine gM (fun j1=> [.v 3 (.int .i64 j1.1),.v 4 (.int .u64 j1.2)]) Y (fun _=>Y) (fun J1 hJ1=> ?_) (fun j1=> ?_)
 ·refine gd Y ?_ ?_
  ·exact gx hJ1
  exact gx hJ1
 obtain⟨sign1,u1⟩:=j1;dsimp only;refine a1h ((fun k0 m(s:Int×List Int)=>big_Of_L1 n k0 m s.1 s.2) _) (fun(s:Int×List Int)=> [.v 4 (.int .u64 s.1),.r 5 2 s.2]) (fun _=>Y) (_,_) Y Y (fun _=>Y) Y fun K2 m2 hK2 z2=> ?_;obtain⟨u2,l1⟩:=z2;dsimp only;refine gc Y ?_ ?_
 ·refine gP Y fun l3=> ?_;refine gV Y fun q1=> ?_;exact ge hK2 (_,_)
 refine gK (a3z _ _ _) Y Y Y fun v1=> ?_;exact gr
theorem e2e(n:Nat)(ax1:Big):FnC Wt 163 [.agg [.int .i64 ax1.Sign,.sl 2 ax1.Digits]] (c5c n ax1) (fun r=> .tup [.int .i64 r.1,.ob r.2]):=by
 refine fk (n:=59) Tryz.func163 fun F0 w0 r=> ?_;unfold c5c;refine gK (a2o _ _) Y Y Y fun v1=> ?_;refine gJ 5 (fun v2=> [.v 15 (.ob v2)]) Y (fun _=>Y) (fun J1 hJ1=> ?_) (fun v2=> ?_)
 ·refine gd Y ?_ ?_
  ·exact gx hJ1
  exact gx hJ1
 refine gc Y ?_ ?_
 ·exact gr
 refine a1h ((fun k0 m(s:Int×Int)=>big_Int_L1 n ax1 k0 m s.1 s.2) _) (fun(s:Int×Int)=> [.v 4 (.int .u64 s.1),.v 19 (.int .i64 s.2)]) (fun _=>Y) (_,_) Y Y (fun _=>Y) Y fun K2 m2 hK2 z2=> ?_;obtain⟨u1,i1⟩:=z2;dsimp only;refine gc Y ?_ ?_
 ·refine gV Y fun ex1=> ?_;refine gJ 3 (fun v5=> [.v 29 (.ob v5)]) Y (fun _=>Y) (fun J3 hJ3=> ?_) (fun v5=> ?_)
  ·refine gd Y ?_ ?_
   ·exact gx hJ3
   exact gx hJ3
  refine gc Y ?_ ?_
  ·exact gr
  refine gV Y fun q1=> ?_;exact ge hK2 (_,_)
 refine gJ 3 (fun v3=> [.v 45 (.ob v3)]) Y (fun _=>Y) (fun J4 hJ4=> ?_) (fun v3=> ?_)
 ·refine gd Y ?_ ?_
  ·exact gx hJ4
  exact gx hJ4
 refine gc Y ?_ ?_
 ·exact gr
 refine gJ 3 (fun v4=> [.v 56 (.ob v4)]) Y (fun _=>Y) (fun J5 hJ5=> ?_) (fun v4=> ?_)
 ·refine gd Y ?_ ?_
  ·exact gx hJ5
  exact gx hJ5
 refine gc Y ?_ ?_
 ·exact gr
 exact gr
set_option maxRecDepth 1000000
set_option maxHeartbeats 40000000
theorem b7i(n:Nat)(ax1:Big)(b1:Big):FnC Wt 50 [.agg [.int .i64 ax1.Sign,.sl 2 ax1.Digits],.agg [.int .i64 b1.Sign,.sl 2 b1.Digits]] (a7v n ax1 b1) (fun r=> .ob r):=by
 refine fk (n:=38) Tryz.func50 fun F0 w0 r=> ?_;unfold a7v;refine gJ 8 (fun v1=> [.v 19 (.ob v1)]) Y (fun _=>Y) (fun J1 hJ1=> ?_) (fun v1=> ?_)
 ·refine gd Y ?_ ?_
  ·exact gx hJ1
  exact gx hJ1
 refine gc Y ?_ ?_
 ·exact gr
 refine a1h ((fun k0 m(s:Int)=>ref05_SameBig_L1 n ax1 b1 k0 m s) _) (fun(s:Int)=> [.v 5 (.int .i64 s)]) (fun _=>Y) _ Y Y (fun _=>Y) Y fun K2 m2 hK2 i1=> ?_;refine gc Y ?_ ?_
 ·refine gG Y (by kernel_rfl) ?_;refine gV Y fun ex1=> ?_;refine gV Y fun ex2=> ?_;refine gc Y ?_ ?_
  ·exact gr
  exact ge hK2 _
 exact gr
theorem b1c(n:Nat)(ax1:Frac)(b1:Frac):FnC Wt 16 [.agg [.int .i64 ax1.P.Sign,.sl 2 ax1.P.Digits,.int .i64 ax1.Q.Sign,.sl 2 ax1.Q.Digits],.agg [.int .i64 b1.P.Sign,.sl 2 b1.P.Digits,.int .i64 b1.Q.Sign,.sl 2 b1.Q.Digits]] (a4c n ax1 b1) (fun r=> .ob r):=by
 refine fk (n:=17) Tryz.func16 fun F0 w0 r=> ?_;unfold a4c;refine gK (b7i _ _ _) Y Y Y fun v1=> ?_;refine gJ 6 (fun v2=> [.v 16 (.ob v2)]) Y (fun _=>Y) (fun J1 hJ1=> ?_) (fun v2=> ?_)
 ·refine gd Y ?_ ?_
  ·refine gA ?_;refine gK (b7i _ _ _) Y Y Y fun v3=> ?_;exact gx hJ1
  exact gx hJ1
 exact gr
theorem b9d(n:Nat)(f1:Frac)(nx1:Int):FnC Wt 20 [.agg [.int .i64 f1.P.Sign,.sl 2 f1.P.Digits,.int .i64 f1.Q.Sign,.sl 2 f1.Q.Digits],.int .i64 nx1] (a8p n f1 nx1) (fun r=> .ob r):=by
 refine fk (n:=19) Tryz.func20 fun F0 w0 r=> ?_;unfold a8p;refine gJ 7 (fun v1=> [.v 18 (.ob v1)]) Y (fun _=>Y) (fun J1 hJ1=> ?_) (fun v1=> ?_)
 ·refine gd Y ?_ ?_
  ·exact gx hJ1
  exact gx hJ1
 exact gr
theorem d8g(n:Nat)(ax1:Big):FnC Wt 93 [.agg [.int .i64 ax1.Sign,.sl 2 ax1.Digits]] (c0h n ax1) (fun r=> .ob r):=by
 refine fk (n:=15) Tryz.func93 fun F0 w0 r=> ?_;unfold c0h;refine gK (e2e _ _) Y Y Y fun v1=> ?_;refine gJ 3 (fun v2=> [.v 14 (.ob v2)]) Y (fun _=>Y) (fun J1 hJ1=> ?_) (fun v2=> ?_)
 ·refine gd Y ?_ ?_
  ·exact gx hJ1
  exact gx hJ1
 exact gr
theorem a2a(n:Nat)(f1:Frac):FnC Wt 44 [.agg [.int .i64 f1.P.Sign,.sl 2 f1.P.Digits,.int .i64 f1.Q.Sign,.sl 2 f1.Q.Digits]] (a2b n f1) (fun r=> .ob r):=by
 refine fk (n:=35) Tryz.func44 fun F0 w0 r=> ?_;unfold a2b;refine gK (a2o _ _) Y Y Y fun v1=> ?_;refine gJ 5 (fun v2=> [.v 14 (.ob v2)]) Y (fun _=>Y) (fun J1 hJ1=> ?_) (fun v2=> ?_)
 ·refine gd Y ?_ ?_
  ·exact gx hJ1
  refine gA ?_;refine gK (a2o _ _) Y Y Y fun v7=> ?_;exact gx hJ1
 refine gJ 5 (fun v3=> [.v 20 (.ob v3)]) Y (fun _=>Y) (fun J2 hJ2=> ?_) (fun v3=> ?_)
 ·refine gd Y ?_ ?_
  ·exact gx hJ2
  exact gx hJ2
 refine gc Y ?_ ?_
 ·exact gr
 refine gK (c5w _ _ _) Y Y Y fun v4=> ?_;refine gJ 3 (fun v5=> [.v 34 (.ob v5)]) Y (fun _=>Y) (fun J3 hJ3=> ?_) (fun v5=> ?_)
 ·refine gd Y ?_ ?_
  ·refine gA ?_;refine gK (d8g _ _) Y Y Y fun v6=> ?_;exact gx hJ3
  exact gx hJ3
 exact gr
theorem b8b(n:Nat)(p1:Big)(q1:Big):FnC Wt 141 [.agg [.int .i64 p1.Sign,.sl 2 p1.Digits],.agg [.int .i64 q1.Sign,.sl 2 q1.Digits]] (b3b n p1 q1) (fun r=> .tup [.agg [.int .i64 r.1.P.Sign,.sl 2 r.1.P.Digits,.int .i64 r.1.Q.Sign,.sl 2 r.1.Q.Digits],.int .i64 r.2]):=by
 refine fk (n:=60) Tryz.func141 fun F0 w0 r=> ?_;unfold b3b;refine gK (a2o _ _) Y Y Y fun v1=> ?_;refine gJ 4 (fun v2=> [.v 22 (.ob v2)]) Y (fun _=>Y) (fun J1 hJ1=> ?_) (fun v2=> ?_)
 ·refine gd Y ?_ ?_
  ·exact gx hJ1
  refine gA ?_;refine gK (a2o _ _) Y Y Y fun v11=> ?_;exact gx hJ1
 refine gc Y ?_ ?_
 ·exact gr
 refine gc Y ?_ ?_
 ·exact gr
 refine gc Y ?_ ?_
 ·refine gHs [(6,(pL [] (.two 0 2 (pL [] (.two 1 2 (pL [5,7,9,11] .nil) (pL [3,7,9,11] .nil))) (pL [1,3,7,9,11] .nil))))] Y (by kernel_rfl) Y Y fun Ky=> ?_;refine gH2 Y ?_ ?_;all_goals
   try refine gH2 rfl ?_ ?_
   all_goals
    refine gK (b3t _ _) Y Y Y fun v3=> ?_;refine gK (b3t _ _) Y Y Y fun v4=> ?_;refine gHe Y ?_;refine gK (c5w _ _ _) Y Y Y fun v5=> ?_;refine gK (c0o _ _ _) Y Y Y fun v6=> ?_;refine gK (c0o _ _ _) Y Y Y fun v7=> ?_;exact gr
 refine gK (c5w _ _ _) Y Y Y fun v8=> ?_;refine gK (c0o _ _ _) Y Y Y fun v9=> ?_;refine gK (c0o _ _ _) Y Y Y fun v10=> ?_;exact gr
theorem e1k(n:Nat)(p1:Int)(q1:Int):FnC Wt 78 [.int .i64 p1,.int .i64 q1] (c6v n p1 q1) (fun r=> .tup [.agg [.int .i64 r.1.P.Sign,.sl 2 r.1.P.Digits,.int .i64 r.1.Q.Sign,.sl 2 r.1.Q.Digits],.int .i64 r.2]):=by
 refine fk (n:=13) Tryz.func78 fun F0 w0 r=> ?_;unfold c6v;refine gK (c4i _ _) Y Y Y fun v1=> ?_;refine gK (c4i _ _) Y Y Y fun v2=> ?_;refine gK (b8b _ _ _) Y Y Y fun v3=> ?_;exact gr
theorem a6h(n:Nat)(nx1:Int):FnC Wt 38 [.int .i64 nx1] (a3g n nx1) (fun r=> .agg [.int .i64 r.P.Sign,.sl 2 r.P.Digits,.int .i64 r.Q.Sign,.sl 2 r.Q.Digits]):=by
 refine fk (n:=7) Tryz.func38 fun F0 w0 r=> ?_;unfold a3g;refine gK (c4i _ _) Y Y Y fun v1=> ?_;refine gK (c4i _ _) Y Y Y fun v2=> ?_;exact gr
theorem a5q(n:Nat)(ax1:Big)(b1:Big):FnC Wt 104 [.agg [.int .i64 ax1.Sign,.sl 2 ax1.Digits],.agg [.int .i64 b1.Sign,.sl 2 b1.Digits]] (a3a n ax1 b1) (fun r=> .agg [.int .i64 r.Sign,.sl 2 r.Digits]):=by
 refine fk (n:=14) Tryz.func104 fun F0 w0 r=> ?_;unfold a3a;refine gK (e2n _ _ _) Y Y Y fun v1=> ?_;exact gr
theorem b8c(n:Nat)(ax1:Frac)(b1:Frac):FnC Wt 101 [.agg [.int .i64 ax1.P.Sign,.sl 2 ax1.P.Digits,.int .i64 ax1.Q.Sign,.sl 2 ax1.Q.Digits],.agg [.int .i64 b1.P.Sign,.sl 2 b1.P.Digits,.int .i64 b1.Q.Sign,.sl 2 b1.Q.Digits]] (b0v n ax1 b1) (fun r=> .tup [.agg [.int .i64 r.1.P.Sign,.sl 2 r.1.P.Digits,.int .i64 r.1.Q.Sign,.sl 2 r.1.Q.Digits],.int .i64 r.2]):=by
 refine fk (n:=40) Tryz.func101 fun F0 w0 r=> ?_;unfold b0v;refine gK (a2a _ _) Y Y Y fun v1=> ?_;refine gJ 4 (fun v2=> [.v 15 (.ob v2)]) Y (fun _=>Y) (fun J1 hJ1=> ?_) (fun v2=> ?_)
 ·refine gd Y ?_ ?_
  ·exact gx hJ1
  refine gA ?_;refine gK (a2a _ _) Y Y Y fun v8=> ?_;exact gx hJ1
 refine gc Y ?_ ?_
 ·exact gr
 refine gA ?_;refine gHs [(3,(pL [0,2,4,6,10,12,14,16] (.two 4 14 (pL [] (.two 9 14 (pL [] (.two 10 14 (pL [22,24,26,29,31,33] .nil) (pL [21,23,24,26,31,33] .nil))) (pL [19,21,23,24,26,31,33] .nil))) (pL [9,19,21,23,24,26,31,33] .nil)))),(4,(pL [0,2,4,6,8,11,13,14,17,19,21] .nil))] Y (by kernel_rfl) Y Y fun Ky=> ?_;refine gH2 Y ?_ ?_;all_goals
  refine gK (a5q _ _ _) Y Y Y fun v5=> ?_;refine gA ?_;try refine gH2 rfl ?_ ?_
  all_goals
   refine gK (a5q _ _ _) Y Y Y fun v6=> ?_;refine gA ?_;try refine gH2 rfl ?_ ?_
   all_goals
    refine gK (e2q _ _ _) Y Y Y fun v7=> ?_;refine gB ?_;refine gHe Y ?_;refine gHs [(3,(pL [0,2,4,6,10,12,14,16] (.two 4 14 (pL [] (.two 9 14 (pL [] (.two 10 14 (pL [22,24,26,29,31,33] .nil) (pL [21,23,24,26,31,33] .nil))) (pL [19,21,23,24,26,31,33] .nil))) (pL [9,19,21,23,24,26,31,33] .nil)))),(4,(pL [0,2,4,6,8,11,13,14,17,19,21] .nil))] Y (by kernel_rfl) Y Y fun Ky=> ?_;refine gK (a5q _ _ _) Y Y Y fun v3=> ?_;refine gK (b8b _ _ _) Y Y Y fun v4=> ?_;refine gHe Y ?_;exact gr
theorem d8b(n:Nat)(ax1:Frac)(b1:Frac):FnC Wt 172 [.agg [.int .i64 ax1.P.Sign,.sl 2 ax1.P.Digits,.int .i64 ax1.Q.Sign,.sl 2 ax1.Q.Digits],.agg [.int .i64 b1.P.Sign,.sl 2 b1.P.Digits,.int .i64 b1.Q.Sign,.sl 2 b1.Q.Digits]] (c1f n ax1 b1) (fun r=> .tup [.agg [.int .i64 r.1.P.Sign,.sl 2 r.1.P.Digits,.int .i64 r.1.Q.Sign,.sl 2 r.1.Q.Digits],.int .i64 r.2]):=by
 refine fk (n:=25) Tryz.func172 fun F0 w0 r=> ?_;unfold c1f;refine gK (a2a _ _) Y Y Y fun v1=> ?_;refine gJ 4 (fun v2=> [.v 13 (.ob v2)]) Y (fun _=>Y) (fun J1 hJ1=> ?_) (fun v2=> ?_)
 ·refine gd Y ?_ ?_
  ·exact gx hJ1
  refine gA ?_;refine gK (a2a _ _) Y Y Y fun v5=> ?_;exact gx hJ1
 refine gc Y ?_ ?_
 ·exact gr
 refine gHs [(3,(pL [0,2,4,8,10,7,13,15,16,19,21,23] .nil))] Y (by kernel_rfl) Y Y fun Ky=> ?_;refine gK (b3t _ _) Y Y Y fun v3=> ?_;refine gK (b8c _ _ _) Y Y Y fun v4=> ?_;refine gHe Y ?_;exact gr
theorem c1v(n:Nat)(ax1:Frac)(b1:Frac):FnC Wt 100 [.agg [.int .i64 ax1.P.Sign,.sl 2 ax1.P.Digits,.int .i64 ax1.Q.Sign,.sl 2 ax1.Q.Digits],.agg [.int .i64 b1.P.Sign,.sl 2 b1.P.Digits,.int .i64 b1.Q.Sign,.sl 2 b1.Q.Digits]] (b3c n ax1 b1) (fun r=> .tup [.agg [.int .i64 r.1.P.Sign,.sl 2 r.1.P.Digits,.int .i64 r.1.Q.Sign,.sl 2 r.1.Q.Digits],.int .i64 r.2]):=by
 refine fk (n:=28) Tryz.func100 fun F0 w0 r=> ?_;unfold b3c;refine gK (a2a _ _) Y Y Y fun v1=> ?_;refine gJ 4 (fun v2=> [.v 13 (.ob v2)]) Y (fun _=>Y) (fun J1 hJ1=> ?_) (fun v2=> ?_)
 ·refine gd Y ?_ ?_
  ·exact gx hJ1
  refine gA ?_;refine gK (a2a _ _) Y Y Y fun v6=> ?_;exact gx hJ1
 refine gc Y ?_ ?_
 ·exact gr
 refine gHs [(3,(pL [0,2,4,6,10,12,14,16,9,19,21,22,25,27,29] .nil))] Y (by kernel_rfl) Y Y fun Ky=> ?_;refine gK (a5q _ _ _) Y Y Y fun v3=> ?_;refine gK (a5q _ _ _) Y Y Y fun v4=> ?_;refine gK (b8b _ _ _) Y Y Y fun v5=> ?_;refine gHe Y ?_;exact gr
theorem d7l(n:Nat)(ax1:Frac)(b1:Frac):FnC Wt 173 [.agg [.int .i64 ax1.P.Sign,.sl 2 ax1.P.Digits,.int .i64 ax1.Q.Sign,.sl 2 ax1.Q.Digits],.agg [.int .i64 b1.P.Sign,.sl 2 b1.P.Digits,.int .i64 b1.Q.Sign,.sl 2 b1.Q.Digits]] (c1d n ax1 b1) (fun r=> .tup [.agg [.int .i64 r.1.P.Sign,.sl 2 r.1.P.Digits,.int .i64 r.1.Q.Sign,.sl 2 r.1.Q.Digits],.int .i64 r.2]):=by
 refine fk (n:=35) Tryz.func173 fun F0 w0 r=> ?_;unfold c1d;refine gK (a2a _ _) Y Y Y fun v1=> ?_;refine gJ 4 (fun v2=> [.v 14 (.ob v2)]) Y (fun _=>Y) (fun J1 hJ1=> ?_) (fun v2=> ?_)
 ·refine gd Y ?_ ?_
  ·exact gx hJ1
  refine gA ?_;refine gK (a2a _ _) Y Y Y fun v6=> ?_;exact gx hJ1
 refine gc Y ?_ ?_
 ·exact gr
 refine gc Y ?_ ?_
 ·exact gr
 refine gHs [(5,(pL [0,2,4,6,10,12,14,16,9,19,21,22,25,27,29] .nil))] Y (by kernel_rfl) Y Y fun Ky=> ?_;refine gK (a5q _ _ _) Y Y Y fun v3=> ?_;refine gK (a5q _ _ _) Y Y Y fun v4=> ?_;refine gK (b8b _ _ _) Y Y Y fun v5=> ?_;refine gHe Y ?_;exact gr
theorem b9x(n:Nat)(ax1:Big):FnC Wt 167 [.agg [.int .i64 ax1.Sign,.sl 2 ax1.Digits]] (b2e n ax1) (fun r=> .agg [.int .i64 r.Sign,.sl 2 r.Digits]):=by
 refine fk (n:=6) Tryz.func167 fun F0 w0 r=> ?_;unfold b2e;refine gK (b3t _ _) Y Y Y fun v1=> ?_;refine gK (b3t _ _) Y Y Y fun v2=> ?_;exact gr
theorem d7s(n:Nat)(f1:Frac):FnC Wt 144 [.agg [.int .i64 f1.P.Sign,.sl 2 f1.P.Digits,.int .i64 f1.Q.Sign,.sl 2 f1.Q.Digits]] (c0u n f1) (fun r=> .agg [.int .i64 r.P.Sign,.sl 2 r.P.Digits,.int .i64 r.Q.Sign,.sl 2 r.Q.Digits]):=by
 refine fk (n:=14) Tryz.func144 fun F0 w0 r=> ?_;unfold c0u;refine gK (a2a _ _) Y Y Y fun v1=> ?_;refine gc Y ?_ ?_
 ·exact gr
 refine gHs [(3,(pL [0,2,6,8,5,11,13,15] .nil))] Y (by kernel_rfl) Y Y fun Ky=> ?_;refine gK (b3t _ _) Y Y Y fun v2=> ?_;refine gK (b9x _ _) Y Y Y fun v3=> ?_;refine gHe Y ?_;exact gr
theorem b9s(n:Nat)(f1:Frac):FnC Wt 108 [.agg [.int .i64 f1.P.Sign,.sl 2 f1.P.Digits,.int .i64 f1.Q.Sign,.sl 2 f1.Q.Digits]] (b2t n f1) (fun r=> .int .i64 r):=by
 refine fk (n:=9) Tryz.func108 fun F0 w0 r=> ?_;unfold b2t;refine gK (a2a _ _) Y Y Y fun v1=> ?_;refine gc Y ?_ ?_
 ·exact gr
 exact gr
theorem b3l(n:Nat)(ax1:Frac)(b1:Frac):FnC Wt 49 [.agg [.int .i64 ax1.P.Sign,.sl 2 ax1.P.Digits,.int .i64 ax1.Q.Sign,.sl 2 ax1.Q.Digits],.agg [.int .i64 b1.P.Sign,.sl 2 b1.P.Digits,.int .i64 b1.Q.Sign,.sl 2 b1.Q.Digits]] (a3y n ax1 b1) (fun r=> .int .i64 r):=by
 refine fk (n:=24) Tryz.func49 fun F0 w0 r=> ?_;unfold a3y;refine gK (a2a _ _) Y Y Y fun v1=> ?_;refine gJ 4 (fun v2=> [.v 12 (.ob v2)]) Y (fun _=>Y) (fun J1 hJ1=> ?_) (fun v2=> ?_)
 ·refine gd Y ?_ ?_
  ·exact gx hJ1
  refine gA ?_;refine gK (a2a _ _) Y Y Y fun v6=> ?_;exact gx hJ1
 refine gc Y ?_ ?_
 ·exact gr
 refine gHs [(3,(pL [0,2,4,6,10,12,14,16,9,19,21,23] .nil))] Y (by kernel_rfl) Y Y fun Ky=> ?_;refine gK (a5q _ _ _) Y Y Y fun v3=> ?_;refine gK (a5q _ _ _) Y Y Y fun v4=> ?_;refine gK (d0f _ _ _) Y Y Y fun v5=> ?_;refine gHe Y ?_;exact gr
theorem c0m(n:Nat)(ax1:Frac)(b1:Frac)(sign1:Int):FnC Wt 102 [.agg [.int .i64 ax1.P.Sign,.sl 2 ax1.P.Digits,.int .i64 ax1.Q.Sign,.sl 2 ax1.Q.Digits],.agg [.int .i64 b1.P.Sign,.sl 2 b1.P.Digits,.int .i64 b1.Q.Sign,.sl 2 b1.Q.Digits],.int .i64 sign1] (b0o n ax1 b1 sign1) (fun r=> .tup [.agg [.int .i64 r.1.P.Sign,.sl 2 r.1.P.Digits,.int .i64 r.1.Q.Sign,.sl 2 r.1.Q.Digits],.int .i64 r.2]):=by
 refine fk (n:=31) Tryz.func102 fun F0 w0 r=> ?_;unfold b0o;refine gK (a2a _ _) Y Y Y fun v1=> ?_;refine gJ 4 (fun v2=> [.v 15 (.ob v2)]) Y (fun _=>Y) (fun J1 hJ1=> ?_) (fun v2=> ?_)
 ·refine gd Y ?_ ?_
  ·exact gx hJ1
  refine gA ?_;refine gK (a2a _ _) Y Y Y fun v6=> ?_;exact gx hJ1
 refine gc Y ?_ ?_
 ·exact gr
 refine gK (b3l _ _ _) Y Y Y fun v3=> ?_;refine gM (fun j2=> [.b 3 [.int .i64 j2.1,.sl 2 j2.2.1,.int .i64 j2.2.2.1,.sl 2 j2.2.2.2]]) Y (fun _=>Y) (fun J2 hJ2=> ?_) (fun j2=> ?_)
 ·refine gd Y ?_ ?_
  ·exact gx hJ2
  exact gx hJ2
 obtain⟨f1,f2,f3,f4⟩:=j2;dsimp only;refine gHs [(5,(pL [0,2,6,8,5,11,13,15,17] .nil))] Y (by kernel_rfl) Y Y fun Ky=> ?_;refine gK (b9x _ _) Y Y Y fun v4=> ?_;refine gK (b9x _ _) Y Y Y fun v5=> ?_;refine gHe Y ?_;exact gr
theorem d8l(n:Nat)(ax1:Frac)(b1:Frac):FnC Wt 174 [.agg [.int .i64 ax1.P.Sign,.sl 2 ax1.P.Digits,.int .i64 ax1.Q.Sign,.sl 2 ax1.Q.Digits],.agg [.int .i64 b1.P.Sign,.sl 2 b1.P.Digits,.int .i64 b1.Q.Sign,.sl 2 b1.Q.Digits]] (c1i n ax1 b1) (fun r=> .tup [.agg [.int .i64 r.1.P.Sign,.sl 2 r.1.P.Digits,.int .i64 r.1.Q.Sign,.sl 2 r.1.Q.Digits],.int .i64 r.2]):=by
 refine fk (n:=11) Tryz.func174 fun F0 w0 r=> ?_;unfold c1i;refine gK (c0m _ _ _ _) Y Y Y fun v1=> ?_;exact gr
theorem c8c(n:Nat)(ax1:Frac)(b1:Frac):FnC Wt 48 [.agg [.int .i64 ax1.P.Sign,.sl 2 ax1.P.Digits,.int .i64 ax1.Q.Sign,.sl 2 ax1.Q.Digits],.agg [.int .i64 b1.P.Sign,.sl 2 b1.P.Digits,.int .i64 b1.Q.Sign,.sl 2 b1.Q.Digits]] (b5h n ax1 b1) (fun r=> .tup [.agg [.int .i64 r.1.P.Sign,.sl 2 r.1.P.Digits,.int .i64 r.1.Q.Sign,.sl 2 r.1.Q.Digits],.int .i64 r.2]):=by
 refine fk (n:=11) Tryz.func48 fun F0 w0 r=> ?_;unfold b5h;refine gK (c0m _ _ _ _) Y Y Y fun v1=> ?_;exact gr
theorem d1w(n:Nat):∀(x1:Expr)(nx1:Int)(levels1:Int),FnC Wt 67 [.agg [.int .i64 x1.Op,.int .i64 x1.N,.str x1.Name,.sl 0 x1.Args],.int .i64 nx1,.int .i64 levels1] (ref35_size n x1 nx1 levels1) (fun r=> .int .i64 r):=by
 induction n with
 |zero=>exact fun _ _ _=>b1k (fun _ _=>by kernel_rfl)
 |succ n ih=>
  intro x1 nx1 levels1;refine fk (n:=33) Tryz.func67 fun F0 w0 r=> ?_;rw [ref35_size_s];refine gc Y ?_ ?_
  ·exact gr
  refine a1h ((fun k0 m(s:Int×Int)=>ref35_size_L1 n (ref35_size n) x1 levels1 k0 m s.1 s.2) _) (fun(s:Int×Int)=> [.v 1 (.int .i64 s.1),.v 7 (.int .i64 s.2)]) (fun _=>Y) (_,_) Y Y (fun _=>Y) Y fun K1 m1 hK1 z1=> ?_;obtain⟨nx2,i1⟩:=z1;dsimp only;refine gJ 3 (fun v1=> [.v 20 (.ob v1)]) Y (fun _=>Y) (fun J2 hJ2=> ?_) (fun v1=> ?_)
  ·refine gd Y ?_ ?_
   ·exact gx hJ2
   exact gx hJ2
  refine gc Y ?_ ?_
  ·refine gV Y fun ex1=> ?_;refine gK (ih _ _ _) Y Y Y fun v2=> ?_;exact ge hK1 (_,_)
  exact gr
theorem b9u(n:Nat)(x1:Expr)(nodes1:Int)(levels1:Int):FnC Wt 28 [.agg [.int .i64 x1.Op,.int .i64 x1.N,.str x1.Name,.sl 0 x1.Args],.int .i64 nodes1,.int .i64 levels1] (a7q n x1 nodes1 levels1) (fun r=> .ob r):=by
 refine fk (n:=12) Tryz.func28 fun F0 w0 r=> ?_;unfold a7q;refine gK (d1w _ _ _ _) Y Y Y fun v1=> ?_;exact gr
theorem b8u(n:Nat):∀(x1:Expr)(levels1:Int)(left1:Int),FnL Wt 129 3 [.int .i64 left1] [.agg [.int .i64 x1.Op,.int .i64 x1.N,.str x1.Name,.sl 0 x1.Args],.int .i64 levels1,.bx 0 0] (tariff_sized n x1 levels1 left1) (fun r=> [.int .i64 r.1]) (fun r=> .ob r.2):=by
 induction n with
 |zero=>exact fun _ _ _=>c3x (fun _ _=>by kernel_rfl)
 |succ n ih=>
  intro x1 levels1 left1;refine b0f (n:=36) Tryz.func129 Y Y Y (fun _ _=>by kernel_rfl) fun F0 w0 b r=> ?_;rw [tariff_sized_s];refine gJ 5 (fun v1=> [.v 21 (.ob v1)]) Y (fun _=>Y) (fun J1 hJ1=> ?_) (fun v1=> ?_)
  ·refine gd Y ?_ ?_
   ·exact gx hJ1
   exact gx hJ1
  refine gc Y ?_ ?_
  ·exact gRL Y Y Y Y Y
  refine a1h ((fun k0 m(s:Int×Int)=>tariff_sized_L1 n (tariff_sized n) x1 levels1 k0 m s.1 s.2) _) (fun(s:Int×Int)=> [.b 2 [.int .i64 s.2],.v 25 (.int .i64 s.1)]) (fun _=>Y) (_,_) Y Y (fun _=>Y) Y fun K2 m2 hK2 z2=> ?_;obtain⟨i1,f1⟩:=z2;dsimp only;refine gc Y ?_ ?_
  ·refine gV Y fun ex1=> ?_;refine gN (ih _ _ _) Y Y Y Y Y fun v2=> ?_;refine gc Y ?_ ?_
   ·exact gRL Y Y Y Y Y
   exact ge hK2 (_,_)
  exact gRL Y Y Y Y Y
theorem a4n(n:Nat)(s1:(List Bs))(v1:Bs):FnC Wt 76 [.sl 1 s1,.str v1] (a0k n s1 v1) (fun r=> .int .i64 r):=by
 refine fk (n:=19) Tryz.func76 fun F0 w0 r=> ?_;unfold a0k;refine a1h ((fun k0 m(s:Int)=>slices_Index_string_string_L1 n s1 v1 k0 m s) _) (fun(s:Int)=> [.v 8 (.int .i64 s)]) (fun _=>Y) _ Y Y (fun _=>Y) Y fun K1 m1 hK1 i1=> ?_;refine gc Y ?_ ?_
 ·refine gV Y fun ex1=> ?_;refine gc Y ?_ ?_
  ·exact gr
  exact ge hK1 _
 exact gr
theorem a3t(n:Nat)(s1:(List Bs))(v1:Bs):FnC Wt 114 [.sl 1 s1,.str v1] (a0s n s1 v1) (fun r=> .ob r):=by
 refine fk (n:=9) Tryz.func114 fun F0 w0 r=> ?_;unfold a0s;refine gK (a4n _ _ _) Y Y Y fun v2=> ?_;exact gr
theorem b8w(n:Nat)(l1:(List Bs)):FnC Wt 54 [.sl 1 l1] (b1f n l1) (fun r=> .ob r):=by
 refine fk (n:=26) Tryz.func54 fun F0 w0 r=> ?_;unfold b1f;refine a1h ((fun k0 m(s:Int)=>tariff_named_L1 n l1 k0 m s) _) (fun(s:Int)=> [.v 7 (.int .i64 s)]) (fun _=>Y) _ Y Y (fun _=>Y) Y fun K1 m1 hK1 i1=> ?_;refine gc Y ?_ ?_
 ·refine gV Y fun ex1=> ?_;refine gK (b3i _ _) Y Y Y fun v1=> ?_;refine gJ 6 (fun v2=> [.v 21 (.ob v2)]) Y (fun _=>Y) (fun J2 hJ2=> ?_) (fun v2=> ?_)
  ·refine gd Y ?_ ?_
   ·exact gx hJ2
   refine gA ?_;refine gV Y fun l2=> ?_;refine gA ?_;refine gK (a3t _ _ _) Y Y Y fun v3=> ?_;exact gx hJ2
  refine gc Y ?_ ?_
  ·exact gr
  exact ge hK1 _
 exact gr
theorem b1o(n:Nat)(ax1:Int)(b1:Int):FnC Wt 116 [.int .i64 ax1,.int .i64 b1] (a1e n ax1 b1) (fun r=> .tup [.int .i64 r.1,.int .i64 r.2]):=by
 refine fk (n:=20) Tryz.func116 fun F0 w0 r=> ?_;unfold a1e;refine gJ 3 (fun v1=> [.v 12 (.ob v1)]) Y (fun _=>Y) (fun J1 hJ1=> ?_) (fun v1=> ?_)
 ·refine gd Y ?_ ?_
  ·exact gx hJ1
  exact gx hJ1
 refine gc Y ?_ ?_
 ·exact gr
 refine gJ 3 (fun v2=> [.v 19 (.ob v2)]) Y (fun _=>Y) (fun J2 hJ2=> ?_) (fun v2=> ?_)
 ·refine gd Y ?_ ?_
  ·exact gx hJ2
  exact gx hJ2
 refine gc Y ?_ ?_
 ·exact gr
 exact gr
theorem c9m(n:Nat)(op1:Int):FnC Wt 183 [.int .i64 op1] (b0k n op1) (fun r=> .int .i64 r):=by
 refine fk (n:=12) Tryz.func183 fun F0 w0 r=> ?_;unfold b0k;refine gc Y ?_ ?_
 ·exact gr
 refine gc Y ?_ ?_
 ·exact gr
 refine gc Y ?_ ?_
 ·exact gr
 exact gr
theorem c7q(n:Nat)(nx1:Int)(cap1:Int):FnC Wt 178 [.int .i64 nx1,.fb [.int .i64 cap1] 0] (b3h n nx1 cap1) (fun r=> .ob r):=by
 refine fk (n:=7) Tryz.func178 fun F0 w0 r=> ?_;unfold b3h;exact gr
theorem b2u(n:Nat)(s1:(List Int))(f1:(Int->Option Bool)):FnH Wt 171 [.sl 2 s1] ⟨Int,Bool,fun q=> [.int .i64 q],fun q=>f1 q,fun r=> .ob r⟩ (a4e n s1 f1) (fun r=> .int .i64 r):=by
 refine b4d (n:=19) Tryz.func171 Y Y Y (fun _ _=>by kernel_rfl) fun F0 w0 r u=> ?_;unfold a4e;refine a1h ((fun k0 m(s:Int)=>slices_IndexFunc_int_int_L1 n s1 f1 k0 m s) _) (fun(s:Int)=> [.v 8 (.int .i64 s)]) (fun _=>Y) _ Y Y (fun _=>Y) Y fun K1 m1 hK1 i1=> ?_;refine gc Y ?_ ?_
 ·refine gV Y fun ex1=> ?_;refine gKv (T:=Wt) (Φ:=⟨Int,Bool,fun q=> [.int .i64 q],fun q=>f1 q,fun r=> .ob r⟩) (u:=u) ex1 Y Y Y fun v1=> ?_;refine gc Y ?_ ?_
  ·exact gr
  exact ge hK1 _
 exact gr
theorem a6x(n:Nat)(s1:(List Int))(f1:(Int->Option Bool)):FnH Wt 109 [.sl 2 s1] ⟨Int,Bool,fun q=> [.int .i64 q],fun q=>f1 q,fun r=> .ob r⟩ (a1x n s1 f1) (fun r=> .ob r):=by
 refine b4d (n:=9) Tryz.func109 Y Y Y (fun _ _=>by kernel_rfl) fun F0 w0 r u=> ?_;unfold a1x;refine gKh (FnH.up (b2u n _ f1)) Y Y Y b8a fun v1=> ?_;exact gr
theorem b0z(n:Nat)(k1:Int)(l1:(List Int))(want1:Int):FnC Wt 115 [.int .i64 k1,.sl 2 l1,.int .i64 want1] (a3m n k1 l1 want1) (fun r=> .tup [.int .i64 r.1,.int .i64 r.2]):=by
 refine fk (n:=12) Tryz.func115 fun F0 w0 r=> ?_;unfold a3m;refine gFc Y Y ?_;refine gKh (a6x n _ (fun(q0:Int)=>b3h n q0 want1)) Y Y Y (fvA Y Y (fun q=>c7q n q want1) default) fun v1=> ?_;refine gc Y ?_ ?_
 ·exact gr
 exact gr
theorem b8q(n:Nat):∀(x1:Expr)(names1:(List Bs)),FnC Wt 56 [.agg [.int .i64 x1.Op,.int .i64 x1.N,.str x1.Name,.sl 0 x1.Args],.sl 1 names1] (tariff_typed n x1 names1) (fun r=> .tup [.int .i64 r.1,.int .i64 r.2]):=by
 induction n with
 |zero=>exact fun _ _=>b1k (fun _ _=>by kernel_rfl)
 |succ n ih=>
  intro x1 names1;refine fk (n:=113) Tryz.func56 fun F0 w0 r=> ?_;rw [tariff_typed_s];refine a1h ((fun k0 m(s:Int×List Int)=>tariff_typed_L1 n (tariff_typed n) x1 names1 k0 m s.1 s.2) _) (fun(s:Int×List Int)=> [.r 6 2 s.2,.v 15 (.int .i64 s.1)]) (fun _=>Y) (_,_) Y Y (fun _=>Y) Y fun K1 m1 hK1 z1=> ?_;obtain⟨i1,l1⟩:=z1;dsimp only;refine gc Y ?_ ?_
  ·refine gV Y fun ex13=> ?_;refine gK (ih _ _) Y Y Y fun v13=> ?_;refine gc Y ?_ ?_
   ·exact gr
   refine gP Y fun l3=> ?_;exact ge hK1 (_,_)
  refine gd Y ?_ ?_
  ·refine gB ?_;refine gT ?_;refine gK (a3t _ _ _) Y Y Y fun v2=> ?_;refine gc Y ?_ ?_
   ·exact gr
   refine gc Y ?_ ?_
   ·exact gr
   exact gr
  refine gB ?_;refine gc Y ?_ ?_
  ·refine gK (a3t _ _ _) Y Y Y fun v2=> ?_;refine gc Y ?_ ?_
   ·exact gr
   refine gc Y ?_ ?_
   ·exact gr
   exact gr
  refine gd Y ?_ ?_
  ·refine gB ?_;refine gT ?_;exact gr
  refine gd Y ?_ ?_
  ·refine gB ?_;refine gT ?_;exact gr
  refine gB ?_;refine gc Y ?_ ?_
  ·exact gr
  refine gd Y ?_ ?_
  ·refine gB ?_;refine gT ?_;refine gK (b0z _ _ _ _) Y Y Y fun v5=> ?_;exact gr
  refine gB ?_;refine gc Y ?_ ?_
  ·refine gK (b0z _ _ _ _) Y Y Y fun v5=> ?_;exact gr
  refine gd Y ?_ ?_
  ·refine gB ?_;refine gT ?_;refine gK (b0z _ _ _ _) Y Y Y fun v7=> ?_;exact gr
  refine gd Y ?_ ?_
  ·refine gB ?_;refine gT ?_;refine gK (b0z _ _ _ _) Y Y Y fun v7=> ?_;exact gr
  refine gB ?_;refine gc Y ?_ ?_
  ·refine gK (b0z _ _ _ _) Y Y Y fun v7=> ?_;exact gr
  refine gc Y ?_ ?_
  ·refine gV Y fun ex1=> ?_;refine gc Y ?_ ?_
   ·exact gr
   refine gG Y (by kernel_rfl) ?_;refine gV Y fun ex2=> ?_;refine gV Y fun ex3=> ?_;refine gQ (b1o _ _ _) Y Y Y (fun _=>Y) fun v8=> ?_;exact gr
  refine gc Y ?_ ?_
  ·refine gV Y fun ex4=> ?_;refine gJ 5 (fun v9=> [.v 91 (.ob v9)]) Y (fun _=>Y) (fun J2 hJ2=> ?_) (fun v9=> ?_)
   ·refine gd Y ?_ ?_
    ·refine gA ?_;refine gV Y fun ex7=> ?_;exact gx hJ2
    exact gx hJ2
   refine gc Y ?_ ?_
   ·exact gr
   refine gG Y (by kernel_rfl) ?_;refine gV Y fun ex5=> ?_;refine gV Y fun ex6=> ?_;refine gQ (b1o _ _ _) Y Y Y (fun _=>Y) fun v10=> ?_;exact gr
  refine gc Y ?_ ?_
  ·refine gV Y fun ex8=> ?_;refine gc Y ?_ ?_
   ·exact gr
   refine gc Y ?_ ?_
   ·exact gr
   refine gG Y (by kernel_rfl) ?_;refine gV Y fun ex9=> ?_;refine gV Y fun ex10=> ?_;refine gQ (b1o _ _ _) Y Y Y (fun _=>Y) fun v11=> ?_;exact gr
  refine gG Y (by kernel_rfl) ?_;refine gV Y fun ex11=> ?_;refine gV Y fun ex12=> ?_;refine gQ (b1o _ _ _) Y Y Y (fun _=>Y) fun v12=> ?_;exact gr
theorem a8o(n:Nat)(s1:(List Expr))(f1:(Expr->Option Bool)):FnH Wt 215 [.sl 0 s1] ⟨Expr,Bool,fun q=> [.agg [.int .i64 q.Op,.int .i64 q.N,.str q.Name,.sl 0 q.Args]],fun q=>f1 q,fun r=> .ob r⟩ (a1c n s1 f1) (fun r=> .int .i64 r):=by
 refine b4d (n:=19) Tryz.func215 Y Y Y (fun _ _=>by kernel_rfl) fun F0 w0 r u=> ?_;unfold a1c;refine a1h ((fun k0 m(s:Int)=>slices_IndexFunc_api_Expr_api_Expr_L1 n s1 f1 k0 m s) _) (fun(s:Int)=> [.v 8 (.int .i64 s)]) (fun _=>Y) _ Y Y (fun _=>Y) Y fun K1 m1 hK1 i1=> ?_;refine gc Y ?_ ?_
 ·refine gV Y fun ex1=> ?_;refine gKv (T:=Wt) (Φ:=⟨Expr,Bool,fun q=> [.agg [.int .i64 q.Op,.int .i64 q.N,.str q.Name,.sl 0 q.Args]],fun q=>f1 q,fun r=> .ob r⟩) (u:=u) ex1 Y Y Y fun v1=> ?_;refine gc Y ?_ ?_
  ·exact gr
  exact ge hK1 _
 exact gr
theorem a7n(n:Nat)(s1:(List Expr))(f1:(Expr->Option Bool)):FnH Wt 184 [.sl 0 s1] ⟨Expr,Bool,fun q=> [.agg [.int .i64 q.Op,.int .i64 q.N,.str q.Name,.sl 0 q.Args]],fun q=>f1 q,fun r=> .ob r⟩ (a0j n s1 f1) (fun r=> .ob r):=by
 refine b4d (n:=9) Tryz.func184 Y Y Y (fun _ _=>by kernel_rfl) fun F0 w0 r u=> ?_;unfold a0j;refine gKh (FnH.up (a8o n _ f1)) Y Y Y b8a fun v1=> ?_;exact gr
theorem c3g(n:Nat):(∀(x1:Expr),FnC Wt 130 [.agg [.int .i64 x1.Op,.int .i64 x1.N,.str x1.Name,.sl 0 x1.Args]] (tariff_shaped n x1) (fun r=> .ob r))/\(∀(ax1:Expr),FnC Wt 185 [.agg [.int .i64 ax1.Op,.int .i64 ax1.N,.str ax1.Name,.sl 0 ax1.Args]] (tariff_shaped_1 n ax1) (fun r=> .ob r)):=by
 induction n with
 |zero=>exact⟨fun _=>b1k (fun _ _=>by kernel_rfl),fun _=>b1k (fun _ _=>by kernel_rfl)⟩
 |succ n ih=>
  refine⟨?_,?_⟩
  ·intro x1;refine fk (n:=62) Tryz.func130 fun F0 w0 r=> ?_;rw [tariff_shaped_s];refine gG Y (by kernel_rfl) ?_;refine gd Y ?_ ?_
   ·refine gB ?_;refine gTb ?_;refine gB ?_;refine gT ?_;exact gr
   refine gB ?_;refine gd Y ?_ ?_
   ·refine gB ?_;refine gT ?_;exact gr
   refine gA ?_;refine gQ (c9m _ _) Y Y Y (fun _=>Y) fun v11=> ?_;refine gB ?_;refine gc Y ?_ ?_
   ·exact gr
   refine gc Y ?_ ?_
   ·refine gJ 4 (fun v3=> [.v 31 (.ob v3)]) Y (fun _=>Y) (fun J1 hJ1=> ?_) (fun v3=> ?_)
    ·refine gd Y ?_ ?_
     ·exact gx hJ1
     exact gx hJ1
    refine gJ 4 (fun v4=> [.v 36 (.ob v4)]) Y (fun _=>Y) (fun J2 hJ2=> ?_) (fun v4=> ?_)
    ·refine gd Y ?_ ?_
     ·exact gx hJ2
     exact gx hJ2
    exact gr
   refine gd Y ?_ ?_
   ·refine gB ?_;refine gT ?_;refine gJ 4 (fun v6=> [.v 47 (.ob v6)]) Y (fun _=>Y) (fun J3 hJ3=> ?_) (fun v6=> ?_)
    ·refine gd Y ?_ ?_
     ·refine gA ?_;refine gK (b3i _ _) Y Y Y fun v7=> ?_;exact gx hJ3
     exact gx hJ3
    exact gr
   refine gB ?_;refine gc Y ?_ ?_
   ·refine gJ 4 (fun v6=> [.v 47 (.ob v6)]) Y (fun _=>Y) (fun J4 hJ4=> ?_) (fun v6=> ?_)
    ·refine gd Y ?_ ?_
     ·refine gA ?_;refine gK (b3i _ _) Y Y Y fun v7=> ?_;exact gx hJ4
     exact gx hJ4
    exact gr
   refine gJ 4 (fun v8=> [.v 55 (.ob v8)]) Y (fun _=>Y) (fun J5 hJ5=> ?_) (fun v8=> ?_)
   ·refine gd Y ?_ ?_
    ·exact gx hJ5
    exact gx hJ5
   refine gJ 5 (fun v9=> [.v 61 (.ob v9)]) Y (fun _=>Y) (fun J6 hJ6=> ?_) (fun v9=> ?_)
   ·refine gd Y ?_ ?_
    ·refine gA ?_;refine gKh (a7n n _ (tariff_shaped_1 n)) Y Y Y (fvA Y Y (fun q=>ih.2 q) default) fun v10=> ?_;exact gx hJ6
    exact gx hJ6
   exact gr
  intro ax1;refine fk (n:=6) Tryz.func185 fun F0 w0 r=> ?_;rw [a7w];refine gK (ih.1 _) Y Y Y fun v1=> ?_;exact gr
theorem c6p(n:Nat)(x1:Expr):FnC Wt 130 [.agg [.int .i64 x1.Op,.int .i64 x1.N,.str x1.Name,.sl 0 x1.Args]] (tariff_shaped n x1) (fun r=> .ob r):=(c3g n).1 x1
theorem c1p(n:Nat)(x1:Expr):FnC Wt 69 [.agg [.int .i64 x1.Op,.int .i64 x1.N,.str x1.Name,.sl 0 x1.Args]] (a7u n x1) (fun r=> .ob r):=by
 refine fk (n:=10) Tryz.func69 fun F0 w0 r=> ?_;unfold a7u;refine gN (b8u _ _ _ _) Y Y Y Y Y fun v1=> ?_;refine gJ 3 (fun v2=> [.v 9 (.ob v2)]) Y (fun _=>Y) (fun J1 hJ1=> ?_) (fun v2=> ?_)
 ·refine gd Y ?_ ?_
  ·refine gA ?_;refine gK (c6p _ _) Y Y Y fun v3=> ?_;exact gx hJ1
  exact gx hJ1
 exact gr
theorem c2o(n:Nat)(t1:Tariff):FnC Wt 55 [.agg [.str t1.Name,.int .i64 t1.Fee.Op,.int .i64 t1.Fee.N,.str t1.Fee.Name,.sl 0 t1.Fee.Args,.int .i64 t1.Cap]] (a5a n t1) (fun r=> .ob r):=by
 refine fk (n:=21) Tryz.func55 fun F0 w0 r=> ?_;unfold a5a;refine gK (b3i _ _) Y Y Y fun v1=> ?_;refine gJ 4 (fun v2=> [.v 10 (.ob v2)]) Y (fun _=>Y) (fun J1 hJ1=> ?_) (fun v2=> ?_)
 ·refine gd Y ?_ ?_
  ·refine gA ?_;refine gK (c1p _ _) Y Y Y fun v5=> ?_;exact gx hJ1
  exact gx hJ1
 refine gJ 4 (fun v3=> [.v 15 (.ob v3)]) Y (fun _=>Y) (fun J2 hJ2=> ?_) (fun v3=> ?_)
 ·refine gd Y ?_ ?_
  ·exact gx hJ2
  exact gx hJ2
 refine gJ 4 (fun v4=> [.v 20 (.ob v4)]) Y (fun _=>Y) (fun J3 hJ3=> ?_) (fun v4=> ?_)
 ·refine gd Y ?_ ?_
  ·exact gx hJ3
  exact gx hJ3
 exact gr
theorem b8i(n:Nat)(t1:Tariff)(names1:(List Bs)):FnC Wt 18 [.agg [.str t1.Name,.int .i64 t1.Fee.Op,.int .i64 t1.Fee.N,.str t1.Fee.Name,.sl 0 t1.Fee.Args,.int .i64 t1.Cap],.sl 1 names1] (a4t n t1 names1) (fun r=> .int .i64 r):=by
 refine fk (n:=29) Tryz.func18 fun F0 w0 r=> ?_;unfold a4t;refine gK (b8w _ _) Y Y Y fun v1=> ?_;refine gc Y ?_ ?_
 ·exact gr
 refine gK (c2o _ _) Y Y Y fun v2=> ?_;refine gc Y ?_ ?_
 ·exact gr
 refine gK (b8q _ _ _) Y Y Y fun v3=> ?_;refine gJ 3 (fun v4=> [.v 27 (.ob v4)]) Y (fun _=>Y) (fun J1 hJ1=> ?_) (fun v4=> ?_)
 ·refine gd Y ?_ ?_
  ·exact gx hJ1
  exact gx hJ1
 refine gc Y ?_ ?_
 ·exact gr
 exact gr
theorem c9c(n:Nat)(x1:Expr)(names1:(List Bs)):FnC Wt 32 [.agg [.int .i64 x1.Op,.int .i64 x1.N,.str x1.Name,.sl 0 x1.Args],.sl 1 names1] (b1z n x1 names1) (fun r=> .tup [.int .i64 r.1,.int .i64 r.2]):=by
 refine fk (n:=19) Tryz.func32 fun F0 w0 r=> ?_;unfold b1z;refine gK (b8w _ _) Y Y Y fun v1=> ?_;refine gc Y ?_ ?_
 ·exact gr
 refine gK (c1p _ _) Y Y Y fun v2=> ?_;refine gc Y ?_ ?_
 ·exact gr
 refine gK (b8q _ _ _) Y Y Y fun v3=> ?_;exact gr
set_option maxRecDepth 1000000
set_option maxHeartbeats 40000000
theorem d1v(n:Nat)(ax1:Big)(b1:Big):FnC Wt 122 [.agg [.int .i64 ax1.Sign,.sl 2 ax1.Digits],.agg [.int .i64 b1.Sign,.sl 2 b1.Digits]] (b1v n ax1 b1) (fun r=> .ob r):=by
 refine fk (n:=38) Tryz.func122 fun F0 w0 r=> ?_;unfold b1v;refine gJ 8 (fun v1=> [.v 19 (.ob v1)]) Y (fun _=>Y) (fun J1 hJ1=> ?_) (fun v1=> ?_)
 ·refine gd Y ?_ ?_
  ·exact gx hJ1
  exact gx hJ1
 refine gc Y ?_ ?_
 ·exact gr
 refine a1h ((fun k0 m(s:Int)=>ref04_Same_L1 n ax1 b1 k0 m s) _) (fun(s:Int)=> [.v 5 (.int .i64 s)]) (fun _=>Y) _ Y Y (fun _=>Y) Y fun K2 m2 hK2 i1=> ?_;refine gc Y ?_ ?_
 ·refine gG Y (by kernel_rfl) ?_;refine gV Y fun ex1=> ?_;refine gV Y fun ex2=> ?_;refine gc Y ?_ ?_
  ·exact gr
  exact ge hK2 _
 exact gr
theorem a1u(n:Nat)(ax1:Big):FnC Wt 117 [.agg [.int .i64 ax1.Sign,.sl 2 ax1.Digits]] (a1l n ax1) (fun r=> .ob r):=by
 refine fk (n:=56) Tryz.func117 fun F0 w0 r=> ?_;unfold a1l;refine a1h ((fun k0 m(s:Int)=>a7b n ax1 k0 m s) _) (fun(s:Int)=> [.v 3 (.int .i64 s)]) (fun _=>Y) _ Y Y (fun _=>Y) Y fun K1 m1 hK1 i1=> ?_;refine gc Y ?_ ?_
 ·refine gV Y fun ex2=> ?_;refine gJ 7 (fun v4=> [.v 25 (.ob v4)]) Y (fun _=>Y) (fun J2 hJ2=> ?_) (fun v4=> ?_)
  ·refine gd Y ?_ ?_
   ·exact gx hJ2
   refine gA ?_;refine gV Y fun ex3=> ?_;exact gx hJ2
  refine gc Y ?_ ?_
  ·exact gr
  exact ge hK1 _
 refine gJ 4 (fun v1=> [.v 36 (.ob v1)]) Y (fun _=>Y) (fun J3 hJ3=> ?_) (fun v1=> ?_)
 ·refine gd Y ?_ ?_
  ·exact gx hJ3
  exact gx hJ3
 refine gJ 7 (fun v2=> [.v 44 (.ob v2)]) Y (fun _=>Y) (fun J4 hJ4=> ?_) (fun v2=> ?_)
 ·refine gd Y ?_ ?_
  ·exact gx hJ4
  exact gx hJ4
 refine gc Y ?_ ?_
 ·exact gr
 refine gJ 8 (fun v3=> [.v 55 (.ob v3)]) Y (fun _=>Y) (fun J5 hJ5=> ?_) (fun v3=> ?_)
 ·refine gd Y ?_ ?_
  ·exact gx hJ5
  refine gA ?_;refine gV Y fun ex1=> ?_;exact gx hJ5
 exact gr
theorem a7k(n:Nat)(l1:(List Int)):FnO Wt 180 [.sl 2 l1] (a1w n l1) 3 1 2 (fun r=>r):=by
 refine b7j (n:=23) Tryz.func180 Y Y Y (fun _ _=>by kernel_rfl) fun F0 w0 r=> ?_;unfold a1w;refine a1h ((fun k0 m(s:Int)=>a8e n l1 k0 m s) _) (fun(s:Int)=> [.v 3 (.int .i64 s)]) (fun _=>Y) _ Y Y (fun _=>Y) Y fun K1 m1 hK1 nx1=> ?_;refine gJ 7 (fun v1=> [.v 15 (.ob v1)]) Y (fun _=>Y) (fun J2 hJ2=> ?_) (fun v1=> ?_)
 ·refine gd Y ?_ ?_
  ·refine gA ?_;refine gV Y fun ex1=> ?_;exact gx hJ2
  exact gx hJ2
 refine gc Y ?_ ?_
 ·exact ge hK1 _
 refine gV Y fun l2=> ?_;refine gP Y fun l3=> ?_;exact gRO Y
theorem a3o(n:Nat)(sign1:Int)(l1:(List Int)):FnC Wt 120 [.int .i64 sign1,.sl 2 l1] (a1r n sign1 l1) (fun r=> .agg [.int .i64 r.Sign,.sl 2 r.Digits]):=by
 refine fk (n:=15) Tryz.func120 fun F0 w0 r=> ?_;unfold a1r;refine gO (a7k _ _) Y Y Y fun v1=> ?_;refine gc Y ?_ ?_
 ·exact gr
 exact gr
theorem c1y(n:Nat)(nx1:Int):FnC Wt 119 [.int .i64 nx1] (b3f n nx1) (fun r=> .agg [.int .i64 r.Sign,.sl 2 r.Digits]):=by
 refine fk (n:=28) Tryz.func119 fun F0 w0 r=> ?_;unfold b3f;refine gc Y ?_ ?_
 ·exact gr
 refine gd Y ?_ ?_
 ·refine gB ?_;refine a1h ((fun k0 m(s:Int×List Int)=>b0n n k0 m s.1 s.2) _) (fun(s:Int×List Int)=> [.v 0 (.int .i64 s.1),.r 4 2 s.2]) (fun _=>Y) (_,_) Y Y (fun _=>Y) Y fun K1 m1 hK1 z1=> ?_;obtain⟨nx2,l1⟩:=z1;dsimp only;refine gc Y ?_ ?_
  ·refine gV Y fun q1=> ?_;refine gd Y ?_ ?_
   ·refine gB ?_;refine gP Y fun l3=> ?_;refine gV Y fun q2=> ?_;exact ge hK1 (_,_)
   refine gB ?_;refine gP Y fun l3=> ?_;refine gV Y fun q2=> ?_;exact ge hK1 (_,_)
  refine gK (a3o _ _ _) Y Y Y fun v1=> ?_;exact gr
 refine gB ?_;refine a1h ((fun k0 m(s:Int×List Int)=>b0n n k0 m s.1 s.2) _) (fun(s:Int×List Int)=> [.v 0 (.int .i64 s.1),.r 4 2 s.2]) (fun _=>Y) (_,_) Y Y (fun _=>Y) Y fun K2 m2 hK2 z2=> ?_;obtain⟨nx2,l1⟩:=z2;dsimp only;refine gc Y ?_ ?_
 ·refine gV Y fun q1=> ?_;refine gd Y ?_ ?_
  ·refine gB ?_;refine gP Y fun l3=> ?_;refine gV Y fun q2=> ?_;exact ge hK2 (_,_)
  refine gB ?_;refine gP Y fun l3=> ?_;refine gV Y fun q2=> ?_;exact ge hK2 (_,_)
 refine gK (a3o _ _ _) Y Y Y fun v1=> ?_;exact gr
theorem a5l(n:Nat)(l1:(List Int))(i1:Int):FnC Wt 181 [.sl 2 l1,.int .i64 i1] (a4i n l1 i1) (fun r=> .int .i64 r):=by
 refine fk (n:=13) Tryz.func181 fun F0 w0 r=> ?_;unfold a4i;refine gc Y ?_ ?_
 ·refine gV Y fun ex1=> ?_;exact gr
 exact gr
theorem b6r(n:Nat)(ax1:(List Int))(b1:(List Int)):FnC Wt 123 [.sl 2 ax1,.sl 2 b1] (a6f n ax1 b1) (fun r=> .ob r):=by
 refine fk (n:=30) Tryz.func123 fun F0 w0 r=> ?_;unfold a6f;refine a1h ((fun k0 m(s:Int)=>a7x n ax1 b1 k0 m s) _) (fun(s:Int)=> [.v 5 (.int .i64 s)]) (fun _=>Y) _ Y Y (fun _=>Y) Y fun K1 m1 hK1 i1=> ?_;refine gc Y ?_ ?_
 ·refine gK (a5l _ _ _) Y Y Y fun v1=> ?_;refine gK (a5l _ _ _) Y Y Y fun v2=> ?_;refine gc Y ?_ ?_
  ·refine gK (a5l _ _ _) Y Y Y fun v3=> ?_;refine gK (a5l _ _ _) Y Y Y fun v4=> ?_;exact gr
  exact ge hK1 _
 exact gr
theorem c2y(n:Nat)(ax1:(List Int))(b1:(List Int)):FnO Wt 127 [.sl 2 ax1,.sl 2 b1] (a8f n ax1 b1) 3 1 2 (fun r=>r):=by
 refine b7j (n:=43) Tryz.func127 Y Y Y (fun _ _=>by kernel_rfl) fun F0 w0 r=> ?_;unfold a8f;refine a1h ((fun k0 m(s:Int×Int×List Int)=>a9o n ax1 b1 k0 m s.1 s.2.1 s.2.2) _) (fun(s:Int×Int×List Int)=> [.r 5 2 s.2.2,.v 6 (.int .i64 s.1),.v 7 (.int .i64 s.2.1)]) (fun _=>Y) (_,_,_) Y Y (fun _=>Y) Y fun K1 m1 hK1 z1=> ?_;obtain⟨carry1,i1,l1⟩:=z1;dsimp only;refine gJ 5 (fun v2=> [.v 18 (.ob v2)]) Y (fun _=>Y) (fun J2 hJ2=> ?_) (fun v2=> ?_)
 ·refine gd Y ?_ ?_
  ·exact gx hJ2
  exact gx hJ2
 refine gJ 3 (fun v3=> [.v 22 (.ob v3)]) Y (fun _=>Y) (fun J3 hJ3=> ?_) (fun v3=> ?_)
 ·refine gd Y ?_ ?_
  ·exact gx hJ3
  exact gx hJ3
 refine gc Y ?_ ?_
 ·refine gK (a5l _ _ _) Y Y Y fun v4=> ?_;refine gK (a5l _ _ _) Y Y Y fun v5=> ?_;refine gV Y fun q1=> ?_;refine gP Y fun l3=> ?_;refine gV Y fun q2=> ?_;exact ge hK1 (_,_,_)
 refine gO (a7k _ _) Y Y Y fun v1=> ?_;exact gRO Y
theorem b1q(n:Nat)(ax1:(List Int))(b1:(List Int)):FnO Wt 128 [.sl 2 ax1,.sl 2 b1] (a2q n ax1 b1) 3 1 2 (fun r=>r):=by
 refine b7j (n:=35) Tryz.func128 Y Y Y (fun _ _=>by kernel_rfl) fun F0 w0 r=> ?_;unfold a2q;refine a1h ((fun k0 m(s:Int×Int×List Int)=>a5w n ax1 b1 k0 m s.1 s.2.1 s.2.2) _) (fun(s:Int×Int×List Int)=> [.r 5 2 s.2.2,.v 6 (.int .i64 s.1),.v 7 (.int .i64 s.2.1)]) (fun _=>Y) (_,_,_) Y Y (fun _=>Y) Y fun K1 m1 hK1 z1=> ?_;obtain⟨borrow1,i1,l1⟩:=z1;dsimp only;refine gc Y ?_ ?_
 ·refine gG Y (by kernel_rfl) ?_;refine gV Y fun ex1=> ?_;refine gQ (a5l _ _ _) Y Y Y (fun _=>Y) fun v2=> ?_;refine gM (fun j2=> [.v 6 (.int .i64 j2.1),.v 8 (.int .i64 j2.2)]) Y (fun _=>Y) (fun J2 hJ2=> ?_) (fun j2=> ?_)
  ·refine gd Y ?_ ?_
   ·exact gx hJ2
   exact gx hJ2
  obtain⟨borrow2,nx1⟩:=j2;dsimp only;refine gP Y fun l3=> ?_;exact ge hK1 (_,_,_)
 refine gO (a7k _ _) Y Y Y fun v1=> ?_;exact gRO Y
theorem b4y(n:Nat)(ax1:(List Int))(b1:(List Int)):FnO Wt 121 [.sl 2 ax1,.sl 2 b1] (a4j n ax1 b1) 3 1 2 (fun r=>r):=by
 refine b7j (n:=60) Tryz.func121 Y Y Y (fun _ _=>by kernel_rfl) fun F0 w0 r=> ?_;unfold a4j;refine gMk wzOk Y fun l1=> ?_;refine a1h ((fun k0 m(s:Int×List Int)=>a4s n ax1 b1 k0 m s.1 s.2) _) (fun(s:Int×List Int)=> [.r 5 2 s.2,.v 6 (.int .i64 s.1)]) (fun _=>Y) (_,_) Y Y (fun _=>Y) Y fun K1 m1 hK1 z1=> ?_;obtain⟨i1,l2⟩:=z1;dsimp only;refine gc Y ?_ ?_
 ·refine a1h ((fun k0 m(s:Int×Int×List Int)=>a8q n ax1 b1 i1 k0 m s.1 s.2.1 s.2.2) _) (fun(s:Int×Int×List Int)=> [.r 5 2 s.2.2,.v 7 (.int .i64 s.1),.v 8 (.int .i64 s.2.1)]) (fun _=>Y) (_,_,_) Y Y (fun _=>Y) Y fun K2 m2 hK2 z2=> ?_;obtain⟨carry1,k1,l4⟩:=z2;dsimp only;refine gJ 3 (fun v2=> [.v 29 (.ob v2)]) Y (fun _=>Y) (fun J3 hJ3=> ?_) (fun v2=> ?_)
  ·refine gd Y ?_ ?_
   ·exact gx hJ3
   exact gx hJ3
  refine gc Y ?_ ?_
  ·refine gG Y (by kernel_rfl) ?_;refine gV Y fun ex1=> ?_;refine gV Y fun ex2=> ?_;refine gQ (a5l _ _ _) Y Y Y (fun _=>Y) fun v3=> ?_;refine gV Y fun q1=> ?_;refine gV Y fun _=> ?_;refine gW Y Y fun l6=> ?_;refine gV Y fun q2=> ?_;exact ge hK2 (_,_,_)
  exact ge hK1 (_,_)
 refine gO (a7k _ _) Y Y Y fun v1=> ?_;exact gRO Y
theorem c2x(n:Nat)(ax1:(List Int))(b1:(List Int)):FnC Wt 179 [.sl 2 ax1,.sl 2 b1] (a9j n ax1 b1) (fun r=> .tup [.sl 2 r.1,.sl 2 r.2]):=by
 refine fk (n:=60) Tryz.func179 fun F0 w0 r=> ?_;unfold a9j;refine gMk wzOk Y fun l1=> ?_;refine a1h ((fun k0 m(s:(List Int)×Int×List Int)=>a6t n ax1 b1 k0 m s.1 s.2.1 s.2.2) _) (fun(s:(List Int)×Int×List Int)=> [.r 6 2 s.2.2,.v 7 (.sl 2 s.1),.v 8 (.int .i64 s.2.1)]) (fun _=>Y) (_,_,_) Y Y (fun _=>Y) Y fun K1 m1 hK1 z1=> ?_;obtain⟨rx1,i1,l2⟩:=z1;dsimp only;refine gc Y ?_ ?_
 ·refine gV Y fun ex1=> ?_;refine gP Y fun l4=> ?_;refine gO (a7k _ _) Y Y Y fun v2=> ?_;refine gFr 7 Y ?_;refine a1h ((fun k0 m(s:Int×Int)=>a8c n b1 v2 k0 m s.1 s.2) _) (fun(s:Int×Int)=> [.v 9 (.int .i64 s.1),.v 10 (.int .i64 s.2)]) (fun _=>Y) (_,_) Y Y (fun _=>Y) Y fun K2 m2 hK2 z2=> ?_;obtain⟨lo1,hi1⟩:=z2;dsimp only;refine gc Y ?_ ?_
  ·refine gV Y fun q1=> ?_;refine gO (b4y _ _ _) Y Y Y fun v6=> ?_;refine gK (b6r _ _ _) Y Y Y fun v7=> ?_;refine gc Y ?_ ?_
   ·exact ge hK2 (_,_)
   exact ge hK2 (_,_)
  refine gV Y fun _=> ?_;refine gW Y Y fun l5=> ?_;refine gO (a7k _ _) Y Y Y fun v3=> ?_;refine gO (b4y _ _ _) Y Y Y fun v4=> ?_;refine gO (b1q _ _ _) Y Y Y fun v5=> ?_;refine gFr 7 Y ?_;exact ge hK1 (_,_,_)
 refine gO (a7k _ _) Y Y Y fun v1=> ?_;exact gr
theorem b7c(n:Nat)(ax1:Big)(b1:Big):FnC Wt 63 [.agg [.int .i64 ax1.Sign,.sl 2 ax1.Digits],.agg [.int .i64 b1.Sign,.sl 2 b1.Digits]] (a7y n ax1 b1) (fun r=> .int .i64 r):=by
 refine fk (n:=37) Tryz.func63 fun F0 w0 r=> ?_;unfold a7y;refine gK (a1u _ _) Y Y Y fun v1=> ?_;refine gJ 4 (fun v2=> [.v 12 (.ob v2)]) Y (fun _=>Y) (fun J1 hJ1=> ?_) (fun v2=> ?_)
 ·refine gd Y ?_ ?_
  ·exact gx hJ1
  refine gA ?_;refine gK (a1u _ _) Y Y Y fun v6=> ?_;exact gx hJ1
 refine gJ 4 (fun v3=> [.v 17 (.ob v3)]) Y (fun _=>Y) (fun J2 hJ2=> ?_) (fun v3=> ?_)
 ·refine gd Y ?_ ?_
  ·exact gx hJ2
  refine gA ?_;refine gK (d1v _ _ _) Y Y Y fun v5=> ?_;exact gx hJ2
 refine gc Y ?_ ?_
 ·exact gr
 refine gc Y ?_ ?_
 ·refine gc Y ?_ ?_
  ·exact gr
  exact gr
 refine gG Y (by kernel_rfl) ?_;refine gQ (b6r _ _ _) Y Y Y (fun _=>Y) fun v4=> ?_;refine gc Y ?_ ?_
 ·exact gr
 exact gr
theorem b4x(n:Nat)(ax1:Big):FnC Wt 125 [.agg [.int .i64 ax1.Sign,.sl 2 ax1.Digits]] (b0x n ax1) (fun r=> .agg [.int .i64 r.Sign,.sl 2 r.Digits]):=by
 refine fk (n:=13) Tryz.func125 fun F0 w0 r=> ?_;unfold b0x;refine gK (a1u _ _) Y Y Y fun v1=> ?_;refine gc Y ?_ ?_
 ·exact gr
 refine gK (a3o _ _ _) Y Y Y fun v2=> ?_;exact gr
theorem c4n(n:Nat)(ax1:Big)(b1:Big):FnC Wt 68 [.agg [.int .i64 ax1.Sign,.sl 2 ax1.Digits],.agg [.int .i64 b1.Sign,.sl 2 b1.Digits]] (b4h n ax1 b1) (fun r=> .tup [.agg [.int .i64 r.1.Sign,.sl 2 r.1.Digits],.int .i64 r.2]):=by
 refine fk (n:=62) Tryz.func68 fun F0 w0 r=> ?_;unfold b4h;refine gK (a1u _ _) Y Y Y fun v1=> ?_;refine gJ 4 (fun v2=> [.v 13 (.ob v2)]) Y (fun _=>Y) (fun J1 hJ1=> ?_) (fun v2=> ?_)
 ·refine gd Y ?_ ?_
  ·exact gx hJ1
  refine gA ?_;refine gK (a1u _ _) Y Y Y fun v12=> ?_;exact gx hJ1
 refine gc Y ?_ ?_
 ·exact gr
 refine gJ 4 (fun v3=> [.v 22 (.ob v3)]) Y (fun _=>Y) (fun J2 hJ2=> ?_) (fun v3=> ?_)
 ·refine gd Y ?_ ?_
  ·exact gx hJ2
  exact gx hJ2
 refine gJ 6 (fun v4=> [.v 29 (.ob v4)]) Y (fun _=>Y) (fun J3 hJ3=> ?_) (fun v4=> ?_)
 ·refine gd Y ?_ ?_
  ·exact gx hJ3
  exact gx hJ3
 refine gc Y ?_ ?_
 ·refine gHs [(4,(pL [0,2,4,6,8,10,12,14,16,19,21,23,25] .nil)),(6,(pL [0,2,4,6,8,10,13,15,17,19] .nil)),(7,(pL [0,2,4,6,8,10,13,15,17,19] .nil))] Y (by kernel_rfl) Y Y fun Ky=> ?_;refine gO (c2y _ _ _) Y Y Y fun v5=> ?_;refine gK (a3o _ _ _) Y Y Y fun v6=> ?_;refine gHe Y ?_;exact gr
 refine gK (b6r _ _ _) Y Y Y fun v7=> ?_;refine gc Y ?_ ?_
 ·refine gHs [(4,(pL [0,2,4,6,8,10,12,14,16,19,21,23,25] .nil)),(6,(pL [0,2,4,6,8,10,13,15,17,19] .nil)),(7,(pL [0,2,4,6,8,10,13,15,17,19] .nil))] Y (by kernel_rfl) Y Y fun Ky=> ?_;refine gO (b1q _ _ _) Y Y Y fun v8=> ?_;refine gK (a3o _ _ _) Y Y Y fun v9=> ?_;refine gHe Y ?_;exact gr
 refine gHs [(4,(pL [0,2,4,6,8,10,12,14,16,19,21,23,25] .nil)),(6,(pL [0,2,4,6,8,10,13,15,17,19] .nil)),(7,(pL [0,2,4,6,8,10,13,15,17,19] .nil))] Y (by kernel_rfl) Y Y fun Ky=> ?_;refine gO (b1q _ _ _) Y Y Y fun v10=> ?_;refine gK (a3o _ _ _) Y Y Y fun v11=> ?_;refine gHe Y ?_;exact gr
theorem d4q(n:Nat)(ax1:Big)(b1:Big):FnC Wt 65 [.agg [.int .i64 ax1.Sign,.sl 2 ax1.Digits],.agg [.int .i64 b1.Sign,.sl 2 b1.Digits]] (b7n n ax1 b1) (fun r=> .tup [.agg [.int .i64 r.1.Sign,.sl 2 r.1.Digits],.int .i64 r.2]):=by
 refine fk (n:=21) Tryz.func65 fun F0 w0 r=> ?_;unfold b7n;refine gK (a1u _ _) Y Y Y fun v1=> ?_;refine gc Y ?_ ?_
 ·exact gr
 refine gA ?_;refine gHs [(3,(pL [0,2] (.two 2 7 (pL [] (.two 3 7 (pL [8,10,12,15,17,19] .nil) (pL [7,9,10,12,17,19] .nil))) (pL [5,7,9,10,12,17,19] .nil))))] Y (by kernel_rfl) Y Y fun Ky=> ?_;refine gH2 Y ?_ ?_;all_goals
  refine gK (b4x _ _) Y Y Y fun v2=> ?_;refine gA ?_;try refine gH2 rfl ?_ ?_
  all_goals
   refine gK (c4n _ _ _) Y Y Y fun v3=> ?_;refine gB ?_;refine gHe Y ?_;exact gr
theorem a4h(n:Nat)(ax1:Big)(b1:Big):FnC Wt 62 [.agg [.int .i64 ax1.Sign,.sl 2 ax1.Digits],.agg [.int .i64 b1.Sign,.sl 2 b1.Digits]] (a2z n ax1 b1) (fun r=> .tup [.agg [.int .i64 r.1.Sign,.sl 2 r.1.Digits],.int .i64 r.2]):=by
 refine fk (n:=26) Tryz.func62 fun F0 w0 r=> ?_;unfold a2z;refine gK (a1u _ _) Y Y Y fun v1=> ?_;refine gJ 4 (fun v2=> [.v 13 (.ob v2)]) Y (fun _=>Y) (fun J1 hJ1=> ?_) (fun v2=> ?_)
 ·refine gd Y ?_ ?_
  ·exact gx hJ1
  refine gA ?_;refine gK (a1u _ _) Y Y Y fun v5=> ?_;exact gx hJ1
 refine gc Y ?_ ?_
 ·exact gr
 refine gHs [(3,(pL [0,2,4,6,8,10,12,14,16,19,21,23,25] .nil))] Y (by kernel_rfl) Y Y fun Ky=> ?_;refine gO (b4y _ _ _) Y Y Y fun v3=> ?_;refine gK (a3o _ _ _) Y Y Y fun v4=> ?_;refine gHe Y ?_;exact gr
theorem c5s(n:Nat)(ax1:Big)(b1:Big):FnC Wt 126 [.agg [.int .i64 ax1.Sign,.sl 2 ax1.Digits],.agg [.int .i64 b1.Sign,.sl 2 b1.Digits]] (b1g n ax1 b1) (fun r=> .tup [.agg [.int .i64 r.1.Sign,.sl 2 r.1.Digits],.agg [.int .i64 r.2.1.Sign,.sl 2 r.2.1.Digits],.int .i64 r.2.2]):=by
 refine fk (n:=65) Tryz.func126 fun F0 w0 r=> ?_;unfold b1g;refine gK (a1u _ _) Y Y Y fun v1=> ?_;refine gJ 4 (fun v2=> [.v 16 (.ob v2)]) Y (fun _=>Y) (fun J1 hJ1=> ?_) (fun v2=> ?_)
 ·refine gd Y ?_ ?_
  ·exact gx hJ1
  refine gA ?_;refine gK (a1u _ _) Y Y Y fun v11=> ?_;exact gx hJ1
 refine gc Y ?_ ?_
 ·exact gr
 refine gc Y ?_ ?_
 ·exact gr
 refine gK (c2x _ _ _) Y Y Y fun v3=> ?_;refine gJ 4 (fun v4=> [.v 42 (.ob v4)]) Y (fun _=>Y) (fun J2 hJ2=> ?_) (fun v4=> ?_)
 ·refine gd Y ?_ ?_
  ·exact gx hJ2
  exact gx hJ2
 refine gc Y ?_ ?_
 ·refine gHs [(7,(pL [0,2,4,6,8,10,14,16,18,13,21,23,25,27] .nil)),(8,(pL [0,8,10,12,14,16,3,5,7,19,21,23,25,27] .nil))] Y (by kernel_rfl) Y Y fun Ky=> ?_;refine gK (a3o _ _ _) Y Y Y fun v5=> ?_;refine gK (a3o _ _ _) Y Y Y fun v6=> ?_;refine gHe Y ?_;exact gr
 refine gHs [(7,(pL [0,2,4,6,8,10,14,16,18,13,21,23,25,27] .nil)),(8,(pL [0,8,10,12,14,16,3,5,7,19,21,23,25,27] .nil))] Y (by kernel_rfl) Y Y fun Ky=> ?_;refine gO (c2y _ _ _) Y Y Y fun v7=> ?_;refine gK (a3o _ _ _) Y Y Y fun v8=> ?_;refine gO (b1q _ _ _) Y Y Y fun v9=> ?_;refine gK (a3o _ _ _) Y Y Y fun v10=> ?_;refine gHe Y ?_;exact gr
theorem c5e(n:Nat)(ax1:Big)(b1:Big):FnC Wt 118 [.agg [.int .i64 ax1.Sign,.sl 2 ax1.Digits],.agg [.int .i64 b1.Sign,.sl 2 b1.Digits]] (b2s n ax1 b1) (fun r=> .tup [.agg [.int .i64 r.1.Sign,.sl 2 r.1.Digits],.int .i64 r.2]):=by
 refine fk (n:=36) Tryz.func118 fun F0 w0 r=> ?_;unfold b2s;refine gK (a1u _ _) Y Y Y fun v1=> ?_;refine gJ 4 (fun v2=> [.v 17 (.ob v2)]) Y (fun _=>Y) (fun J1 hJ1=> ?_) (fun v2=> ?_)
 ·refine gd Y ?_ ?_
  ·exact gx hJ1
  refine gA ?_;refine gK (a1u _ _) Y Y Y fun v5=> ?_;exact gx hJ1
 refine gc Y ?_ ?_
 ·exact gr
 refine a1h ((fun k0 m(s:(List Int)×(List Int))=>a9g n k0 m s.1 s.2) _) (fun(s:(List Int)×(List Int))=> [.v 6 (.sl 2 s.1),.v 7 (.sl 2 s.2)]) (fun _=>Y) (_,_) Y Y (fun _=>Y) Y fun K2 m2 hK2 z2=> ?_;obtain⟨x1,y1⟩:=z2;dsimp only;refine gc Y ?_ ?_
 ·refine gK (c2x _ _ _) Y Y Y fun v4=> ?_;exact ge hK2 (_,_)
 refine gK (a3o _ _ _) Y Y Y fun v3=> ?_;exact gr
set_option maxRecDepth 1000000
set_option maxHeartbeats 40000000
theorem a1j(n:Nat)(f1:Frac):FnC Wt 57 [.agg [.int .i64 f1.P.Sign,.sl 2 f1.P.Digits,.int .i64 f1.Q.Sign,.sl 2 f1.Q.Digits]] (a0y n f1) (fun r=> .ob r):=by
 refine fk (n:=33) Tryz.func57 fun F0 w0 r=> ?_;unfold a0y;refine gK (a1u _ _) Y Y Y fun v1=> ?_;refine gJ 5 (fun v2=> [.v 14 (.ob v2)]) Y (fun _=>Y) (fun J1 hJ1=> ?_) (fun v2=> ?_)
 ·refine gd Y ?_ ?_
  ·exact gx hJ1
  refine gA ?_;refine gK (a1u _ _) Y Y Y fun v7=> ?_;exact gx hJ1
 refine gJ 5 (fun v3=> [.v 20 (.ob v3)]) Y (fun _=>Y) (fun J2 hJ2=> ?_) (fun v3=> ?_)
 ·refine gd Y ?_ ?_
  ·exact gx hJ2
  exact gx hJ2
 refine gc Y ?_ ?_
 ·exact gr
 refine gK (c5e _ _ _) Y Y Y fun v4=> ?_;refine gHs [(4,(pL [0,3,5,7,9] .nil))] Y (by kernel_rfl) Y Y fun Ky=> ?_;refine gK (c1y _ _) Y Y Y fun v5=> ?_;refine gK (b7c _ _ _) Y Y Y fun v6=> ?_;refine gHe Y ?_;exact gr
theorem b2c(n:Nat)(p1:Big)(q1:Big):FnC Wt 66 [.agg [.int .i64 p1.Sign,.sl 2 p1.Digits],.agg [.int .i64 q1.Sign,.sl 2 q1.Digits]] (a9z n p1 q1) (fun r=> .tup [.agg [.int .i64 r.1.P.Sign,.sl 2 r.1.P.Digits,.int .i64 r.1.Q.Sign,.sl 2 r.1.Q.Digits],.int .i64 r.2]):=by
 refine fk (n:=57) Tryz.func66 fun F0 w0 r=> ?_;unfold a9z;refine gK (a1u _ _) Y Y Y fun v1=> ?_;refine gJ 4 (fun v2=> [.v 21 (.ob v2)]) Y (fun _=>Y) (fun J1 hJ1=> ?_) (fun v2=> ?_)
 ·refine gd Y ?_ ?_
  ·exact gx hJ1
  refine gA ?_;refine gK (a1u _ _) Y Y Y fun v8=> ?_;exact gx hJ1
 refine gc Y ?_ ?_
 ·exact gr
 refine gc Y ?_ ?_
 ·exact gr
 refine gM (fun j2=> [.b 2 [.int .i64 j2.2.2.1,.sl 2 j2.2.2.2],.b 3 [.int .i64 j2.1,.sl 2 j2.2.1]]) Y (fun _=>Y) (fun J2 hJ2=> ?_) (fun j2=> ?_)
 ·refine gd Y ?_ ?_
  ·refine gA ?_;refine gK (b4x _ _) Y Y Y fun v6=> ?_;refine gA ?_;refine gK (b4x _ _) Y Y Y fun v7=> ?_;exact gx hJ2
  exact gx hJ2
 obtain⟨f1,f2,f3,f4⟩:=j2;dsimp only;refine gK (c5e _ _ _) Y Y Y fun v3=> ?_;refine gK (c5s _ _ _) Y Y Y fun v4=> ?_;refine gK (c5s _ _ _) Y Y Y fun v5=> ?_;exact gr
theorem d8n(n:Nat)(p1:Int)(q1:Int):FnC Wt 59 [.int .i64 p1,.int .i64 q1] (c0n n p1 q1) (fun r=> .tup [.agg [.int .i64 r.1.P.Sign,.sl 2 r.1.P.Digits,.int .i64 r.1.Q.Sign,.sl 2 r.1.Q.Digits],.int .i64 r.2]):=by
 refine fk (n:=13) Tryz.func59 fun F0 w0 r=> ?_;unfold c0n;refine gK (c1y _ _) Y Y Y fun v1=> ?_;refine gK (c1y _ _) Y Y Y fun v2=> ?_;refine gK (b2c _ _ _) Y Y Y fun v3=> ?_;exact gr
theorem d3d(n:Nat)(f1:Frac):FnC Wt 159 [.agg [.int .i64 f1.P.Sign,.sl 2 f1.P.Digits,.int .i64 f1.Q.Sign,.sl 2 f1.Q.Digits]] (b4b n f1) (fun r=> .agg [.int .i64 r.P.Sign,.sl 2 r.P.Digits,.int .i64 r.Q.Sign,.sl 2 r.Q.Digits]):=by
 refine fk (n:=13) Tryz.func159 fun F0 w0 r=> ?_;unfold b4b;refine gK (a1j _ _) Y Y Y fun v1=> ?_;refine gc Y ?_ ?_
 ·exact gr
 refine gHs [(3,(pL [0,2,6,8,5,11,13] .nil))] Y (by kernel_rfl) Y Y fun Ky=> ?_;refine gK (b4x _ _) Y Y Y fun v2=> ?_;refine gHe Y ?_;exact gr
theorem b4l(n:Nat)(ax1:Frac)(b1:Frac):FnC Wt 31 [.agg [.int .i64 ax1.P.Sign,.sl 2 ax1.P.Digits,.int .i64 ax1.Q.Sign,.sl 2 ax1.Q.Digits],.agg [.int .i64 b1.P.Sign,.sl 2 b1.P.Digits,.int .i64 b1.Q.Sign,.sl 2 b1.Q.Digits]] (a7m n ax1 b1) (fun r=> .tup [.agg [.int .i64 r.1.P.Sign,.sl 2 r.1.P.Digits,.int .i64 r.1.Q.Sign,.sl 2 r.1.Q.Digits],.int .i64 r.2]):=by
 refine fk (n:=58) Tryz.func31 fun F0 w0 r=> ?_;unfold a7m;refine gK (a1j _ _) Y Y Y fun v1=> ?_;refine gJ 4 (fun v2=> [.v 21 (.ob v2)]) Y (fun _=>Y) (fun J1 hJ1=> ?_) (fun v2=> ?_)
 ·refine gd Y ?_ ?_
  ·exact gx hJ1
  refine gA ?_;refine gK (a1j _ _) Y Y Y fun v8=> ?_;exact gx hJ1
 refine gc Y ?_ ?_
 ·exact gr
 refine gK (a4h _ _ _) Y Y Y fun v3=> ?_;refine gK (a4h _ _ _) Y Y Y fun v4=> ?_;refine gK (a4h _ _ _) Y Y Y fun v5=> ?_;refine gK (c4n _ _ _) Y Y Y fun v6=> ?_;refine gK (b2c _ _ _) Y Y Y fun v7=> ?_;exact gr
theorem d3f(n:Nat)(ax1:Frac)(b1:Frac):FnC Wt 27 [.agg [.int .i64 ax1.P.Sign,.sl 2 ax1.P.Digits,.int .i64 ax1.Q.Sign,.sl 2 ax1.Q.Digits],.agg [.int .i64 b1.P.Sign,.sl 2 b1.P.Digits,.int .i64 b1.Q.Sign,.sl 2 b1.Q.Digits]] (b7b n ax1 b1) (fun r=> .tup [.agg [.int .i64 r.1.P.Sign,.sl 2 r.1.P.Digits,.int .i64 r.1.Q.Sign,.sl 2 r.1.Q.Digits],.int .i64 r.2]):=by
 refine fk (n:=58) Tryz.func27 fun F0 w0 r=> ?_;unfold b7b;refine gK (a1j _ _) Y Y Y fun v1=> ?_;refine gJ 4 (fun v2=> [.v 21 (.ob v2)]) Y (fun _=>Y) (fun J1 hJ1=> ?_) (fun v2=> ?_)
 ·refine gd Y ?_ ?_
  ·exact gx hJ1
  refine gA ?_;refine gK (a1j _ _) Y Y Y fun v8=> ?_;exact gx hJ1
 refine gc Y ?_ ?_
 ·exact gr
 refine gK (a4h _ _ _) Y Y Y fun v3=> ?_;refine gK (a4h _ _ _) Y Y Y fun v4=> ?_;refine gK (a4h _ _ _) Y Y Y fun v5=> ?_;refine gK (d4q _ _ _) Y Y Y fun v6=> ?_;refine gK (b2c _ _ _) Y Y Y fun v7=> ?_;exact gr
theorem b4r(n:Nat)(ax1:Frac)(b1:Frac):FnC Wt 60 [.agg [.int .i64 ax1.P.Sign,.sl 2 ax1.P.Digits,.int .i64 ax1.Q.Sign,.sl 2 ax1.Q.Digits],.agg [.int .i64 b1.P.Sign,.sl 2 b1.P.Digits,.int .i64 b1.Q.Sign,.sl 2 b1.Q.Digits]] (a8s n ax1 b1) (fun r=> .tup [.agg [.int .i64 r.1.P.Sign,.sl 2 r.1.P.Digits,.int .i64 r.1.Q.Sign,.sl 2 r.1.Q.Digits],.int .i64 r.2]):=by
 refine fk (n:=40) Tryz.func60 fun F0 w0 r=> ?_;unfold a8s;refine gK (a1j _ _) Y Y Y fun v1=> ?_;refine gJ 4 (fun v2=> [.v 17 (.ob v2)]) Y (fun _=>Y) (fun J1 hJ1=> ?_) (fun v2=> ?_)
 ·refine gd Y ?_ ?_
  ·exact gx hJ1
  refine gA ?_;refine gK (a1j _ _) Y Y Y fun v6=> ?_;exact gx hJ1
 refine gc Y ?_ ?_
 ·exact gr
 refine gK (a4h _ _ _) Y Y Y fun v3=> ?_;refine gK (a4h _ _ _) Y Y Y fun v4=> ?_;refine gK (b2c _ _ _) Y Y Y fun v5=> ?_;exact gr
theorem c6i(n:Nat)(ax1:Frac)(b1:Frac):FnC Wt 156 [.agg [.int .i64 ax1.P.Sign,.sl 2 ax1.P.Digits,.int .i64 ax1.Q.Sign,.sl 2 ax1.Q.Digits],.agg [.int .i64 b1.P.Sign,.sl 2 b1.P.Digits,.int .i64 b1.Q.Sign,.sl 2 b1.Q.Digits]] (b4c n ax1 b1) (fun r=> .tup [.agg [.int .i64 r.1.P.Sign,.sl 2 r.1.P.Digits,.int .i64 r.1.Q.Sign,.sl 2 r.1.Q.Digits],.int .i64 r.2]):=by
 refine fk (n:=45) Tryz.func156 fun F0 w0 r=> ?_;unfold b4c;refine gK (a1j _ _) Y Y Y fun v1=> ?_;refine gJ 4 (fun v2=> [.v 17 (.ob v2)]) Y (fun _=>Y) (fun J1 hJ1=> ?_) (fun v2=> ?_)
 ·refine gd Y ?_ ?_
  ·exact gx hJ1
  refine gA ?_;refine gK (a1j _ _) Y Y Y fun v6=> ?_;exact gx hJ1
 refine gc Y ?_ ?_
 ·exact gr
 refine gc Y ?_ ?_
 ·exact gr
 refine gK (a4h _ _ _) Y Y Y fun v3=> ?_;refine gK (a4h _ _ _) Y Y Y fun v4=> ?_;refine gK (b2c _ _ _) Y Y Y fun v5=> ?_;exact gr
theorem a6r(n:Nat)(nx1:Int):FnC Wt 26 [.int .i64 nx1] (a2v n nx1) (fun r=> .agg [.int .i64 r.P.Sign,.sl 2 r.P.Digits,.int .i64 r.Q.Sign,.sl 2 r.Q.Digits]):=by
 refine fk (n:=11) Tryz.func26 fun F0 w0 r=> ?_;unfold a2v;refine gK (d8n _ _ _) Y Y Y fun v1=> ?_;exact gr
theorem c3e(n:Nat)(f1:Frac):FnC Wt 58 [.agg [.int .i64 f1.P.Sign,.sl 2 f1.P.Digits,.int .i64 f1.Q.Sign,.sl 2 f1.Q.Digits]] (a7d n f1) (fun r=> .int .i64 r):=by
 refine fk (n:=9) Tryz.func58 fun F0 w0 r=> ?_;unfold a7d;refine gK (a1j _ _) Y Y Y fun v1=> ?_;refine gc Y ?_ ?_
 ·exact gr
 exact gr
theorem a4y(n:Nat)(ax1:Frac)(b1:Frac):FnC Wt 23 [.agg [.int .i64 ax1.P.Sign,.sl 2 ax1.P.Digits,.int .i64 ax1.Q.Sign,.sl 2 ax1.Q.Digits],.agg [.int .i64 b1.P.Sign,.sl 2 b1.P.Digits,.int .i64 b1.Q.Sign,.sl 2 b1.Q.Digits]] (a2f n ax1 b1) (fun r=> .int .i64 r):=by
 refine fk (n:=36) Tryz.func23 fun F0 w0 r=> ?_;unfold a2f;refine gK (a1j _ _) Y Y Y fun v1=> ?_;refine gJ 4 (fun v2=> [.v 16 (.ob v2)]) Y (fun _=>Y) (fun J1 hJ1=> ?_) (fun v2=> ?_)
 ·refine gd Y ?_ ?_
  ·exact gx hJ1
  refine gA ?_;refine gK (a1j _ _) Y Y Y fun v6=> ?_;exact gx hJ1
 refine gc Y ?_ ?_
 ·exact gr
 refine gK (a4h _ _ _) Y Y Y fun v3=> ?_;refine gK (a4h _ _ _) Y Y Y fun v4=> ?_;refine gK (b7c _ _ _) Y Y Y fun v5=> ?_;exact gr
theorem d3c(n:Nat)(ax1:Frac)(b1:Frac):FnC Wt 29 [.agg [.int .i64 ax1.P.Sign,.sl 2 ax1.P.Digits,.int .i64 ax1.Q.Sign,.sl 2 ax1.Q.Digits],.agg [.int .i64 b1.P.Sign,.sl 2 b1.P.Digits,.int .i64 b1.Q.Sign,.sl 2 b1.Q.Digits]] (b7o n ax1 b1) (fun r=> .tup [.agg [.int .i64 r.1.P.Sign,.sl 2 r.1.P.Digits,.int .i64 r.1.Q.Sign,.sl 2 r.1.Q.Digits],.int .i64 r.2]):=by
 refine fk (n:=21) Tryz.func29 fun F0 w0 r=> ?_;unfold b7o;refine gK (a1j _ _) Y Y Y fun v1=> ?_;refine gJ 4 (fun v2=> [.v 13 (.ob v2)]) Y (fun _=>Y) (fun J1 hJ1=> ?_) (fun v2=> ?_)
 ·refine gd Y ?_ ?_
  ·exact gx hJ1
  refine gA ?_;refine gK (a1j _ _) Y Y Y fun v4=> ?_;exact gx hJ1
 refine gc Y ?_ ?_
 ·exact gr
 refine gK (a4y _ _ _) Y Y Y fun v3=> ?_;refine gc Y ?_ ?_
 ·exact gr
 exact gr
theorem d4t(n:Nat)(ax1:Frac)(b1:Frac):FnC Wt 30 [.agg [.int .i64 ax1.P.Sign,.sl 2 ax1.P.Digits,.int .i64 ax1.Q.Sign,.sl 2 ax1.Q.Digits],.agg [.int .i64 b1.P.Sign,.sl 2 b1.P.Digits,.int .i64 b1.Q.Sign,.sl 2 b1.Q.Digits]] (b7s n ax1 b1) (fun r=> .tup [.agg [.int .i64 r.1.P.Sign,.sl 2 r.1.P.Digits,.int .i64 r.1.Q.Sign,.sl 2 r.1.Q.Digits],.int .i64 r.2]):=by
 refine fk (n:=21) Tryz.func30 fun F0 w0 r=> ?_;unfold b7s;refine gK (a1j _ _) Y Y Y fun v1=> ?_;refine gJ 4 (fun v2=> [.v 13 (.ob v2)]) Y (fun _=>Y) (fun J1 hJ1=> ?_) (fun v2=> ?_)
 ·refine gd Y ?_ ?_
  ·exact gx hJ1
  refine gA ?_;refine gK (a1j _ _) Y Y Y fun v4=> ?_;exact gx hJ1
 refine gc Y ?_ ?_
 ·exact gr
 refine gK (a4y _ _ _) Y Y Y fun v3=> ?_;refine gc Y ?_ ?_
 ·exact gr
 exact gr
set_option maxRecDepth 1000000
set_option maxHeartbeats 40000000
theorem c9h(n:Nat)(nx1:Int)(high1:Int):FnC Wt 106 [.int .i64 nx1,.int .i64 high1] (c3a n nx1 high1) (fun r=> .ob r):=by
 refine fk (n:=12) Tryz.func106 fun F0 w0 r=> ?_;unfold c3a;refine gJ 4 (fun v1=> [.v 11 (.ob v1)]) Y (fun _=>Y) (fun J1 hJ1=> ?_) (fun v1=> ?_)
 ·refine gd Y ?_ ?_
  ·exact gx hJ1
  exact gx hJ1
 exact gr
theorem d0j(n:Nat)(k1:Int):FnC Wt 105 [.int .i64 k1] (a9e n k1) (fun r=> .ob r):=by
 refine fk (n:=6) Tryz.func105 fun F0 w0 r=> ?_;unfold a9e;refine gK (c9h _ _ _) Y Y Y fun v1=> ?_;exact gr
theorem d0w(n:Nat)(wx1:Frac):FnC Wt 107 [.agg [.int .i64 wx1.P.Sign,.sl 2 wx1.P.Digits,.int .i64 wx1.Q.Sign,.sl 2 wx1.Q.Digits]] (a9f n wx1) (fun r=> .ob r):=by
 refine fk (n:=11) Tryz.func107 fun F0 w0 r=> ?_;unfold a9f;refine gK (a2a _ _) Y Y Y fun v1=> ?_;refine gJ 4 (fun v2=> [.v 10 (.ob v2)]) Y (fun _=>Y) (fun J1 hJ1=> ?_) (fun v2=> ?_)
 ·refine gd Y ?_ ?_
  ·exact gx hJ1
  refine gA ?_;refine gK (b9s _ _) Y Y Y fun v3=> ?_;exact gx hJ1
 exact gr
theorem a8m(n:Nat)(s1:(List Frac))(f1:(Frac->Option Bool)):FnH Wt 94 [.sl 3 s1] ⟨Frac,Bool,fun q=> [.agg [.int .i64 q.P.Sign,.sl 2 q.P.Digits,.int .i64 q.Q.Sign,.sl 2 q.Q.Digits]],fun q=>f1 q,fun r=> .ob r⟩ (a2c n s1 f1) (fun r=> .int .i64 r):=by
 refine b4d (n:=19) Tryz.func94 Y Y Y (fun _ _=>by kernel_rfl) fun F0 w0 r u=> ?_;unfold a2c;refine a1h ((fun k0 m(s:Int)=>slices_IndexFunc_api_Frac_api_Frac_L1 n s1 f1 k0 m s) _) (fun(s:Int)=> [.v 8 (.int .i64 s)]) (fun _=>Y) _ Y Y (fun _=>Y) Y fun K1 m1 hK1 i1=> ?_;refine gc Y ?_ ?_
 ·refine gV Y fun ex1=> ?_;refine gKv (T:=Wt) (Φ:=⟨Frac,Bool,fun q=> [.agg [.int .i64 q.P.Sign,.sl 2 q.P.Digits,.int .i64 q.Q.Sign,.sl 2 q.Q.Digits]],fun q=>f1 q,fun r=> .ob r⟩) (u:=u) ex1 Y Y Y fun v1=> ?_;refine gc Y ?_ ?_
  ·exact gr
  exact ge hK1 _
 exact gr
theorem a2j(n:Nat)(s1:(List Frac))(f1:(Frac->Option Bool)):FnH Wt 45 [.sl 3 s1] ⟨Frac,Bool,fun q=> [.agg [.int .i64 q.P.Sign,.sl 2 q.P.Digits,.int .i64 q.Q.Sign,.sl 2 q.Q.Digits]],fun q=>f1 q,fun r=> .ob r⟩ (a0n n s1 f1) (fun r=> .ob r):=by
 refine b4d (n:=9) Tryz.func45 Y Y Y (fun _ _=>by kernel_rfl) fun F0 w0 r u=> ?_;unfold a0n;refine gKh (FnH.up (a8m n _ f1)) Y Y Y b8a fun v1=> ?_;exact gr
theorem d5b(n:Nat)(f1:Facts)(weights1:(List Frac))(nx1:Int):FnC Wt 51 [.agg [.sl 2 f1.Lifts,.int .i64 f1.Persons,.int .i64 f1.Flats],.sl 3 weights1,.int .i64 nx1] (b6l n f1 weights1 nx1) (fun r=> .ob r):=by
 refine fk (n:=43) Tryz.func51 fun F0 w0 r=> ?_;unfold b6l;refine gJ 5 (fun v1=> [.v 19 (.ob v1)]) Y (fun _=>Y) (fun J1 hJ1=> ?_) (fun v1=> ?_)
 ·refine gd Y ?_ ?_
  ·exact gx hJ1
  exact gx hJ1
 refine gJ 4 (fun v2=> [.v 24 (.ob v2)]) Y (fun _=>Y) (fun J2 hJ2=> ?_) (fun v2=> ?_)
 ·refine gd Y ?_ ?_
  ·refine gA ?_;refine gK (c9h _ _ _) Y Y Y fun v9=> ?_;exact gx hJ2
  exact gx hJ2
 refine gJ 4 (fun v3=> [.v 29 (.ob v3)]) Y (fun _=>Y) (fun J3 hJ3=> ?_) (fun v3=> ?_)
 ·refine gd Y ?_ ?_
  ·refine gA ?_;refine gK (c9h _ _ _) Y Y Y fun v8=> ?_;exact gx hJ3
  exact gx hJ3
 refine gJ 6 (fun v4=> [.v 36 (.ob v4)]) Y (fun _=>Y) (fun J4 hJ4=> ?_) (fun v4=> ?_)
 ·refine gd Y ?_ ?_
  ·refine gA ?_;refine gKh (a6x n _ (a9e n)) Y Y Y (fvA Y Y (fun q=>d0j n q) default) fun v7=> ?_;exact gx hJ4
  exact gx hJ4
 refine gJ 5 (fun v5=> [.v 42 (.ob v5)]) Y (fun _=>Y) (fun J5 hJ5=> ?_) (fun v5=> ?_)
 ·refine gd Y ?_ ?_
  ·refine gA ?_;refine gKh (a2j n _ (a9f n)) Y Y Y (fvA Y Y (fun q=>d0w n q) default) fun v6=> ?_;exact gx hJ5
  exact gx hJ5
 exact gr
theorem d3v(n:Nat)(f1:Frac):FnC Wt 52 [.agg [.int .i64 f1.P.Sign,.sl 2 f1.P.Digits,.int .i64 f1.Q.Sign,.sl 2 f1.Q.Digits]] (b6h n f1) (fun r=> .agg [.int .i64 r.P.Sign,.sl 2 r.P.Digits,.int .i64 r.Q.Sign,.sl 2 r.Q.Digits]):=by
 refine fk (n:=16) Tryz.func52 fun F0 w0 r=> ?_;unfold b6h;refine gA ?_;refine gHs [(1,(pL [0,2,8,10] (.two 2 6 (pL [] (.two 3 6 (pL [13,16,18,15,21,23,25,27] .nil) (pL [7,16,18,15,21,23,25,27] .nil))) (pL [5,7,16,18,15,21,23,25,27] .nil))))] Y (by kernel_rfl) Y Y fun Ky=> ?_;refine gH2 Y ?_ ?_;all_goals
  try refine gH2 rfl ?_ ?_
  all_goals
   refine gO (a2t _ _) Y Y Y fun v1=> ?_;refine gA ?_;refine gO (a2t _ _) Y Y Y fun v2=> ?_;refine gB ?_;refine gHe Y ?_;exact gr
theorem c6r(n:Nat)(op1:Int)(ax1:Frac)(b1:Frac):FnC Wt 112 [.int .i64 op1,.agg [.int .i64 ax1.P.Sign,.sl 2 ax1.P.Digits,.int .i64 ax1.Q.Sign,.sl 2 ax1.Q.Digits],.agg [.int .i64 b1.P.Sign,.sl 2 b1.P.Digits,.int .i64 b1.Q.Sign,.sl 2 b1.Q.Digits]] (a9u n op1 ax1 b1) (fun r=> .agg [.int .i64 r.P.Sign,.sl 2 r.P.Digits,.int .i64 r.Q.Sign,.sl 2 r.Q.Digits]):=by
 refine fk (n:=58) Tryz.func112 fun F0 w0 r=> ?_;unfold a9u;refine gc Y ?_ ?_
 ·refine gK (b8c _ _ _) Y Y Y fun v1=> ?_;exact gr
 refine gc Y ?_ ?_
 ·refine gK (d8b _ _ _) Y Y Y fun v2=> ?_;exact gr
 refine gc Y ?_ ?_
 ·refine gK (c1v _ _ _) Y Y Y fun v3=> ?_;exact gr
 refine gc Y ?_ ?_
 ·refine gK (d7l _ _ _) Y Y Y fun v4=> ?_;exact gr
 refine gc Y ?_ ?_
 ·refine gK (d8l _ _ _) Y Y Y fun v5=> ?_;exact gr
 refine gc Y ?_ ?_
 ·refine gK (c8c _ _ _) Y Y Y fun v6=> ?_;exact gr
 exact gr
theorem b9e(n:Nat):(∀(k1:known)(x1:Expr),FnC Wt 53 [.agg [.sl 1 k1.nz,.sl 2 k1.facts.Lifts,.int .i64 k1.facts.Persons,.int .i64 k1.facts.Flats,.sl 3 k1.wgs],.agg [.int .i64 x1.Op,.int .i64 x1.N,.str x1.Name,.sl 0 x1.Args]] (fee_known_number n k1 x1) (fun r=> .agg [.int .i64 r.P.Sign,.sl 2 r.P.Digits,.int .i64 r.Q.Sign,.sl 2 r.Q.Digits]))/\(∀(k1:known)(x1:Expr),FnC Wt 111 [.agg [.sl 1 k1.nz,.sl 2 k1.facts.Lifts,.int .i64 k1.facts.Persons,.int .i64 k1.facts.Flats,.sl 3 k1.wgs],.agg [.int .i64 x1.Op,.int .i64 x1.N,.str x1.Name,.sl 0 x1.Args]] (fee_known_truth n k1 x1) (fun r=> .ob r)):=by
 induction n with
 |zero=>exact⟨fun _ _=>b1k (fun _ _=>by kernel_rfl),fun _ _=>b1k (fun _ _=>by kernel_rfl)⟩
 |succ n ih=>
  refine⟨?_,?_⟩
  ·intro k1 x1;refine fk (n:=81) Tryz.func53 fun F0 w0 r=> ?_;rw [fee_known_number_s];refine gK (a4n _ _ _) Y Y Y fun v1=> ?_;refine gc Y ?_ ?_
   ·refine gK (a6h _ _) Y Y Y fun v2=> ?_;exact gr
   refine gc Y ?_ ?_
   ·refine gV Y fun ex1=> ?_;refine gK (a6h _ _) Y Y Y fun v3=> ?_;exact gr
   refine gc Y ?_ ?_
   ·refine gK (a6h _ _) Y Y Y fun v4=> ?_;exact gr
   refine gc Y ?_ ?_
   ·refine gK (a6h _ _) Y Y Y fun v5=> ?_;exact gr
   refine gc Y ?_ ?_
   ·refine gV Y fun ex2=> ?_;exact gr
   refine gc Y ?_ ?_
   ·refine gHs [(0,(pL [0,2,5] .nil)),(1,(pL [0,4,2,6,9,11] .nil)),(6,(pL [0,2,6,4,8,10,13,15] .nil)),(12,(pL [0,4,2,6,8,11] .nil)),(14,(pL [2,0,4,6,8,11] .nil)),(15,(pL [0,2,4,6,8,11,13] .nil)),(16,(pL [0,2,4,6,8,11,13] .nil)),(17,(pL [0,2,4,6,8,10,12,16,18,20,22,24,15,27,29,31] .nil))] Y (by kernel_rfl) Y Y fun Ky=> ?_;refine gV Y fun ex3=> ?_;refine gK (ih.2 _ _) Y Y Y fun v6=> ?_;refine gHe Y ?_;refine gc Y ?_ ?_
    ·refine gHs [(0,(pL [0,2,5] .nil)),(1,(pL [0,4,2,6,9,11] .nil)),(6,(pL [0,2,6,4,8,10,13,15] .nil)),(12,(pL [0,4,2,6,8,11] .nil)),(14,(pL [2,0,4,6,8,11] .nil)),(15,(pL [0,2,4,6,8,11,13] .nil)),(16,(pL [0,2,4,6,8,11,13] .nil)),(17,(pL [0,2,4,6,8,10,12,16,18,20,22,24,15,27,29,31] .nil))] Y (by kernel_rfl) Y Y fun Ky=> ?_;refine gV Y fun ex4=> ?_;refine gK (ih.1 _ _) Y Y Y fun v7=> ?_;refine gHe Y ?_;exact gr
    refine gHs [(0,(pL [0,2,5] .nil)),(1,(pL [0,4,2,6,9,11] .nil)),(6,(pL [0,2,6,4,8,10,13,15] .nil)),(12,(pL [0,4,2,6,8,11] .nil)),(14,(pL [2,0,4,6,8,11] .nil)),(15,(pL [0,2,4,6,8,11,13] .nil)),(16,(pL [0,2,4,6,8,11,13] .nil)),(17,(pL [0,2,4,6,8,10,12,16,18,20,22,24,15,27,29,31] .nil))] Y (by kernel_rfl) Y Y fun Ky=> ?_;refine gV Y fun ex5=> ?_;refine gK (ih.1 _ _) Y Y Y fun v8=> ?_;refine gHe Y ?_;exact gr
   refine gHs [(0,(pL [0,2,5] .nil)),(1,(pL [0,4,2,6,9,11] .nil)),(6,(pL [0,2,6,4,8,10,13,15] .nil)),(12,(pL [0,4,2,6,8,11] .nil)),(14,(pL [2,0,4,6,8,11] .nil)),(15,(pL [0,2,4,6,8,11,13] .nil)),(16,(pL [0,2,4,6,8,11,13] .nil)),(17,(pL [0,2,4,6,8,10,12,16,18,20,22,24,15,27,29,31] .nil))] Y (by kernel_rfl) Y Y fun Ky=> ?_;refine gV Y fun ex6=> ?_;refine gV Y fun ex7=> ?_;refine gK (ih.1 _ _) Y Y Y fun v9=> ?_;refine gK (ih.1 _ _) Y Y Y fun v10=> ?_;refine gK (c6r _ _ _ _) Y Y Y fun v11=> ?_;refine gHe Y ?_;exact gr
  intro k1 x1;refine fk (n:=69) Tryz.func111 fun F0 w0 r=> ?_;rw [fee_known_truth_s];refine gc Y ?_ ?_
  ·refine gHs [(0,(pL [0,2,5] .nil)),(3,(pL [2,0,4,6,8,11,13,15] .nil)),(5,(pL [2,0,4,6,8,11,13,16,14,19,21,23,25,27,29] .nil)),(7,(pL [2,0,4,6,8,11,13,16,14,19,21,23,25,27,29] .nil)),(8,(pL [0,2,4,6,8,12,14,16,18,20,11,23,25,27] .nil))] Y (by kernel_rfl) Y Y fun Ky=> ?_;refine gV Y fun ex1=> ?_;refine gK (ih.2 _ _) Y Y Y fun v1=> ?_;refine gHe Y ?_;exact gr
  refine gc Y ?_ ?_
  ·refine gHs [(0,(pL [0,2,5] .nil)),(3,(pL [2,0,4,6,8,11,13,15] .nil)),(5,(pL [2,0,4,6,8,11,13,16,14,19,21,23,25,27,29] .nil)),(7,(pL [2,0,4,6,8,11,13,16,14,19,21,23,25,27,29] .nil)),(8,(pL [0,2,4,6,8,12,14,16,18,20,11,23,25,27] .nil))] Y (by kernel_rfl) Y Y fun Ky=> ?_;refine gV Y fun ex2=> ?_;refine gK (ih.2 _ _) Y Y Y fun v2=> ?_;refine gd Y ?_ ?_
   ·refine gA ?_;refine gV Y fun ex3=> ?_;refine gA ?_;refine gK (ih.2 _ _) Y Y Y fun v4=> ?_;refine gB ?_;refine gHe Y ?_;exact gr
   refine gB ?_;refine gHe Y ?_;exact gr
  refine gc Y ?_ ?_
  ·refine gHs [(0,(pL [0,2,5] .nil)),(3,(pL [2,0,4,6,8,11,13,15] .nil)),(5,(pL [2,0,4,6,8,11,13,16,14,19,21,23,25,27,29] .nil)),(7,(pL [2,0,4,6,8,11,13,16,14,19,21,23,25,27,29] .nil)),(8,(pL [0,2,4,6,8,12,14,16,18,20,11,23,25,27] .nil))] Y (by kernel_rfl) Y Y fun Ky=> ?_;refine gV Y fun ex4=> ?_;refine gK (ih.2 _ _) Y Y Y fun v5=> ?_;refine gd Y ?_ ?_
   ·refine gB ?_;refine gHe Y ?_;exact gr
   refine gA ?_;refine gV Y fun ex5=> ?_;refine gA ?_;refine gK (ih.2 _ _) Y Y Y fun v7=> ?_;refine gB ?_;refine gHe Y ?_;exact gr
  refine gHs [(0,(pL [0,2,5] .nil)),(3,(pL [2,0,4,6,8,11,13,15] .nil)),(5,(pL [2,0,4,6,8,11,13,16,14,19,21,23,25,27,29] .nil)),(7,(pL [2,0,4,6,8,11,13,16,14,19,21,23,25,27,29] .nil)),(8,(pL [0,2,4,6,8,12,14,16,18,20,11,23,25,27] .nil))] Y (by kernel_rfl) Y Y fun Ky=> ?_;refine gV Y fun ex6=> ?_;refine gV Y fun ex7=> ?_;refine gK (ih.1 _ _) Y Y Y fun v8=> ?_;refine gK (ih.1 _ _) Y Y Y fun v9=> ?_;refine gK (b3l _ _ _) Y Y Y fun v10=> ?_;refine gHe Y ?_;refine gc Y ?_ ?_
  ·exact gr
  exact gr
theorem c0p(n:Nat)(k1:known)(x1:Expr):FnC Wt 53 [.agg [.sl 1 k1.nz,.sl 2 k1.facts.Lifts,.int .i64 k1.facts.Persons,.int .i64 k1.facts.Flats,.sl 3 k1.wgs],.agg [.int .i64 x1.Op,.int .i64 x1.N,.str x1.Name,.sl 0 x1.Args]] (fee_known_number n k1 x1) (fun r=> .agg [.int .i64 r.P.Sign,.sl 2 r.P.Digits,.int .i64 r.Q.Sign,.sl 2 r.Q.Digits]):=(b9e n).1 k1 x1
theorem c5a(n:Nat)(t1:Tariff)(names1:(List Bs))(f1:Facts)(weights1:(List Frac)):FnC Wt 17 [.agg [.str t1.Name,.int .i64 t1.Fee.Op,.int .i64 t1.Fee.N,.str t1.Fee.Name,.sl 0 t1.Fee.Args,.int .i64 t1.Cap],.sl 1 names1,.agg [.sl 2 f1.Lifts,.int .i64 f1.Persons,.int .i64 f1.Flats],.sl 3 weights1] (a6e n t1 names1 f1 weights1) (fun r=> .tup [.agg [.int .i64 r.1.P.Sign,.sl 2 r.1.P.Digits,.int .i64 r.1.Q.Sign,.sl 2 r.1.Q.Digits],.int .i64 r.2]):=by
 refine fk (n:=33) Tryz.func17 fun F0 w0 r=> ?_;unfold a6e;refine gK (b8i _ _ _) Y Y Y fun v1=> ?_;refine gc Y ?_ ?_
 ·exact gr
 refine gK (d5b _ _ _ _) Y Y Y fun v2=> ?_;refine gc Y ?_ ?_
 ·exact gr
 refine gK (c0p _ _ _) Y Y Y fun v3=> ?_;refine gK (d3v _ _) Y Y Y fun v4=> ?_;exact gr
theorem d3g(n:Nat)(t1:Tariff)(names1:(List Bs))(f1:Facts)(weights1:(List Frac)):FnC Wt 35 [.agg [.str t1.Name,.int .i64 t1.Fee.Op,.int .i64 t1.Fee.N,.str t1.Fee.Name,.sl 0 t1.Fee.Args,.int .i64 t1.Cap],.sl 1 names1,.agg [.sl 2 f1.Lifts,.int .i64 f1.Persons,.int .i64 f1.Flats],.sl 3 weights1] (b6m n t1 names1 f1 weights1) (fun r=> .ob r):=by
 refine fk (n:=68) Tryz.func35 fun F0 w0 r=> ?_;unfold b6m;refine a1h ((fun k0 m(s:Int)=>ref36_Few_L1 n names1 k0 m s) _) (fun(s:Int)=> [.v 9 (.int .i64 s)]) (fun _=>Y) _ Y Y (fun _=>Y) Y fun K1 m1 hK1 i1=> ?_;refine gJ 3 (fun v8=> [.v 18 (.ob v8)]) Y (fun _=>Y) (fun J2 hJ2=> ?_) (fun v8=> ?_)
 ·refine gd Y ?_ ?_
  ·exact gx hJ2
  exact gx hJ2
 refine gc Y ?_ ?_
 ·refine gV Y fun ex2=> ?_;refine gc Y ?_ ?_
  ·exact gr
  exact ge hK1 _
 refine a1h ((fun k0 m(s:Int)=>ref36_Few_L2 n weights1 k0 m s) _) (fun(s:Int)=> [.v 10 (.int .i64 s)]) (fun _=>Y) _ Y Y (fun _=>Y) Y fun K3 m3 hK3 i2=> ?_;refine gJ 3 (fun v6=> [.v 34 (.ob v6)]) Y (fun _=>Y) (fun J4 hJ4=> ?_) (fun v6=> ?_)
 ·refine gd Y ?_ ?_
  ·exact gx hJ4
  exact gx hJ4
 refine gc Y ?_ ?_
 ·refine gV Y fun ex1=> ?_;refine gK (b9d _ _ _) Y Y Y fun v7=> ?_;refine gc Y ?_ ?_
  ·exact gr
  exact ge hK3 _
 refine gK (b9u _ _ _ _) Y Y Y fun v1=> ?_;refine gJ 5 (fun v2=> [.v 51 (.ob v2)]) Y (fun _=>Y) (fun J5 hJ5=> ?_) (fun v2=> ?_)
 ·refine gd Y ?_ ?_
  ·exact gx hJ5
  exact gx hJ5
 refine gJ 4 (fun v3=> [.v 56 (.ob v3)]) Y (fun _=>Y) (fun J6 hJ6=> ?_) (fun v3=> ?_)
 ·refine gd Y ?_ ?_
  ·exact gx hJ6
  exact gx hJ6
 refine gJ 5 (fun v4=> [.v 62 (.ob v4)]) Y (fun _=>Y) (fun J7 hJ7=> ?_) (fun v4=> ?_)
 ·refine gd Y ?_ ?_
  ·exact gx hJ7
  exact gx hJ7
 refine gJ 4 (fun v5=> [.v 67 (.ob v5)]) Y (fun _=>Y) (fun J8 hJ8=> ?_) (fun v5=> ?_)
 ·refine gd Y ?_ ?_
  ·exact gx hJ8
  exact gx hJ8
 exact gr
end M
end Go.Proofs.YthaegflpecbfgaaGreatDoor
