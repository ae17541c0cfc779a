/- Several texts in one, for FormTells.card: what the theorem leans on. -/
import Derived.Laws.CopyRow
import Derived.Shelf.Spec.SlicesGrow
import Derived.Test.YthaegflpecbfgaaGreatDoorPu4
set_option maxHeartbeats 1000000
set_option maxRecDepth 1000000
set_option linter.unusedVariables false
set_option linter.unusedSimpArgs false
namespace Go.Proofs.YthaegflpecbfgaaGreatDoor
namespace Rt
open Go Go.RowKit
set_option linter.unusedVariables false
set_option linter.unusedSimpArgs false
mutual
def AV.ren{ty:Nat->Type}(g:Nat->Nat):AV ty->AV ty | .agg l=> .agg (AV.renL g l) | .tup l=> .tup (AV.renL g l) | .clo f l=> .clo f (AV.renL g l) | .fb l o=> .fb (AV.renL g l) o | .bx j o=> .bx (g j) o | .sb j c k=> .sb (g j) c k | .row j=> .row (g j) | .rel j c x p o=> .rel (g j) c x p o | .rw j lo hi=> .rw (g j) lo hi | .int k x=> .int k x | .bool b=> .bool b | .ob b=> .ob b | .lb c b=> .lb c b | .str l=> .str l | .val v=> .val v | .sl c xs=> .sl c xs | .el c x o=> .el c x o | .any=> .any
def AV.renL{ty:Nat->Type}(g:Nat->Nat):List (AV ty)->List (AV ty) | []=> [] |x::l=>AV.ren g x::AV.renL g l end
def AO.ren{ty:Nat->Type}(g:Nat->Nat):AO ty->AO ty | .box T cs=> .box T (AV.renL g cs) | .row e q c xs=> .row e q c xs |_=> .gone
def renH{ty:Nat->Type}(g:Nat->Nat):List (AO ty)->List (AO ty) | []=> [] |o::l=>o.ren g::renH g l
section
variable{ty:Nat->Type}{rp:∀c,Rp (ty c)}{S S2:List OE}{F:Frz}{g:Nat->Nat}
mutual
theorem Conc.ren(h:∀(j:Nat)(e:OE),S[j]?=some e->S2[g j]?=some e):∀{x:AV ty}{v:Value},Conc rp S F x v->Conc rp S2 F (AV.ren g x) v
 | .int k x,v,h1=>h1
 | .bool b,v,h1=>h1
 | .ob b,v,h1=>h1
 | .lb c b,v,h1=>h1
 | .str l,v,h1=>h1
 | .val u,v,h1=>h1
 | .agg l,v,⟨cs,h1,h2⟩=>⟨cs,h1,ConcL.ren h h2⟩
 | .tup l,v,⟨cs,h1,h2⟩=>⟨cs,h1,ConcL.ren h h2⟩
 | .clo f l,v,⟨cs,h1,h2⟩=>⟨cs,h1,ConcL.ren h h2⟩
 | .fb l o,v,⟨b,cs,h1,h2,h3⟩=>⟨b,cs,h1,h2,ConcL.ren h h3⟩
 | .sl c xs,v,h1=>h1
 | .bx j o,v,⟨b,T,cs,h1,h2⟩=>⟨b,T,cs,h _ _ h1,h2⟩
 | .sb j c k,v,⟨b,T,cs,h1,h2⟩=>⟨b,T,cs,h _ _ h1,h2⟩
 | .el c x o,v,h1=>h1
 | .row j,v,⟨e,q,a,m,n,xs,h1,h2⟩=>⟨e,q,a,m,n,xs,h _ _ h1,h2⟩
 | .rel j c x p o,v,⟨e,b,m,n,us,cs,h1,h2⟩=>⟨e,b,m,n,us,cs,h _ _ h1,h2⟩
 | .rw j lo hi,v,⟨e,q,b,m,n,xs,h1,h2⟩=>⟨e,q,b,m,n,xs,h _ _ h1,h2⟩
 | .any,v,_=>trivial
theorem ConcL.ren(h:∀(j:Nat)(e:OE),S[j]?=some e->S2[g j]?=some e):∀{l:List (AV ty)}{cs:List Value},ConcL rp S F l cs->ConcL rp S2 F (AV.renL g l) cs
 | [],_,h1=>h1
 |_::_,_,⟨v,k,h1,h2,h3⟩=>⟨v,k,h1,Conc.ren h h2,ConcL.ren h h3⟩
 end
theorem RelO.ren{K K2:Snap}(h:∀(j:Nat)(e:OE),S[j]?=some e->S2[g j]?=some e){o:AO ty}{e:OE}(h1:RelO rp K S F o e):RelO rp K2 S2 F (o.ren g) e:=by
 cases o with
 |box T cs=>obtain⟨b,us,e1,e2⟩:=h1;exact⟨b,us,e1,e2.ren h⟩
 |row el q c xs=>exact h1
 |_=>trivial
theorem d6n(g:Nat->Nat):∀H:List (AO ty),renH g H=H.map (AO.ren g)
 | []=>rfl
 |o::l=>by rw [renH,d6n g l];rfl
theorem RelH.append{K:Snap}{R:List OE}{H H2:List (AO ty)}{A B:List OE}(h:RelH rp K R F H A)(h2:RelH rp K R F H2 B):RelH rp K R F (H++H2) (A++B):=by
 refine⟨by rw [List.length_append,List.length_append,h.1,h2.1],fun i o ho=> ?_⟩;rcases Nat.lt_or_ge i H.length with hi|hi
 ·rw [List.getElem?_append_left hi]at ho;obtain⟨e,h3,h4⟩:=h.2 i o ho;exact⟨e,by rw [List.getElem?_append_left (by rw [<-h.1];exact hi)];exact h3,h4⟩
 rw [List.getElem?_append_right hi]at ho;obtain⟨e,h3,h4⟩:=h2.2 _ o ho;exact⟨e,by rw [List.getElem?_append_right (by rw [<-h.1];exact hi),<-h.1];exact h3,h4⟩
theorem RelH.renAt{K K2:Snap}{H:List (AO ty)}{B:List OE}(h:∀(j:Nat)(e:OE),S[j]?=some e->S2[g j]?=some e)(h1:RelH rp K S F H B):RelH rp K2 S2 F (renH g H) B:=by
 rw [d6n];refine⟨by rw [List.length_map];exact h1.1,fun i o ho=> ?_⟩;rw [List.getElem?_map]at ho;obtain⟨o',e1,rfl⟩:=Option.map_eq_some_iff.1 ho;obtain⟨e,h3,h4⟩:=h1.2 i o' e1;exact⟨e,h3,h4.ren h⟩
end
def addN(k j:Nat):Nat:=k+j
def e6s(i k j:Nat):Nat:=match Nat.beq j 0 with
 |true=>i
 |false=>k+(j-1)
section
variable{P:Program}(T:Tbl P)
def FnG(f:FuncId){ρ:Type}(az:List (AV T.ty))(m:Option ρ)(Hs:ρ->List (AO T.ty))(res:ρ->AV T.ty):Prop:= Ent P f/\∀r,m=some r->∀w F,Sat F w->T.gl F->∀us,ConcL T.rp [] F az us->Calls P f us.toArray w fun e w'=>∃v F' S,e= .returned v/\HS F w [] F' S w'/\RelH T.rp Snap.nil S F' (Hs r) S/\Conc T.rp S F' (res r) v
def FnLG(f:FuncId){ρ:Type}(t:TypeId)(cs az:List (AV T.ty))(m:Option ρ)(cs':ρ->List (AV T.ty))(Hs:ρ->List (AO T.ty))(res:ρ->AV T.ty):Prop:= Ent P f/\∀r,m=some r->∀w F,Sat F w->T.gl F->∀b ws us,w.heap[b]?=some (.cells ws.toArray t (0,0))->F b=none->ConcL T.rp [] F cs ws->ConcL T.rp [.box b t ws] F az us-> Calls P f us.toArray w fun e w'=>∃v F' ws' S,e= .returned v/\HS F w [b] F' (.box b t ws'::S) w'/\RelH T.rp Snap.nil (.box b t ws'::S) F' (.box t (cs' r)::Hs r) (.box b t ws'::S)/\Conc T.rp (.box b t ws'::S) F' (res r) v
def evGc(n:Nat)(s:St T.ty):Option (FuncId×List (AV T.ty)×(List (AO T.ty)->AV T.ty->St T.ty)):=match s with
 |⟨.ops all (o::l),k,e,H⟩=>match a9a all e o.guard,o.dst,o.op with
  |true,some d,.call ⟨.value c,args,_⟩=>match Nat.blt d n,opA e c,opL e args.toList with
   |true,some (.val (.func (.func f) fi ca)),some az=>match fi.toList,ca.toList,frzW T (H.length+1) az e H with
    | [],[],some (as',e',H')=>some (f,as',fun Hs v=>⟨.ops all l,k,(d,v.ren (addN H'.length))::e',H'++renH (addN H'.length) Hs⟩)
    |_,_,_=>none
   |_,_,_=>none
  |_,_,_=>none
 |_=>none
structure LVG(ty:Nat->Type)where
 f:FuncId
 t:TypeId
 cs:List (AV ty)
 az:List (AV ty)
 nx:List (AV ty)->List (AO ty)->AV ty->St ty
def f0i(n:Nat)(s:St T.ty):Option (LVG T.ty):=match s with
 |⟨.ops all (o::l),k,e,H⟩=>match a9a all e o.guard,o.dst,o.op with
  |true,some d,.call ⟨.value c,args,_⟩=>match Nat.blt d n,opA e c,opL e args.toList with
   |true,some (.val (.func (.func f) fi ca)),some az=>match fi.toList,ca.toList,lentOf T az with
    | [],[],some i=>match H[i]? with
      |some (.box _ cs0)=>match frzW T (H.length+1) (.agg cs0::az) e H with
       |some (_::as',e',H')=>match H'[i]? with
        |some (.box t cs)=>some ⟨f,t,cs,b5s T i as',fun cs' Hs v=>⟨.ops all l,k,(d,v.ren (e6s i H'.length))::e',H'.set i (.box t (AV.renL (e6s i H'.length) cs'))++renH (e6s i H'.length) Hs⟩⟩
        |_=>none
       |_=>none
      |_=>none
    |_,_,_=>none
   |_,_,_=>none
  |_,_,_=>none
 |_=>none
def evRX(fn:Func)(s:St T.ty):Option (List (AO T.ty)×AV T.ty):=match s with
 |⟨.out .ret,[],e,H⟩=>match resA T e H fn.results.toList with
  |some [x]=>some (H,x)
  |_=>none
 |_=>none
def evBs(n:Nat)(s:St T.ty):Option (St T.ty):=match s with
 |⟨.ops all (o::l),k,e,H⟩=>match a9a all e o.guard,o.dst,o.op with
  |true,some d,.buildSlice t kk ps=>match Nat.blt d n,T.und t with
   |true,some (.slice el)=>match T.size el,T.zero el with
    |some q,some _=>match Nat.ble (kk*q) 16777216,bldA T (fun i=>some (i*q,q)) e ps.toList (anys (kk*q))with
     |true,some cs=>some ⟨.ops all l,k,(d,.sb H.length (T.cod t) kk)::e,snoc (.box el cs) H⟩
     |_,_=>none
    |_,_=>none
   |_,_=>none
  |_,_,_=>none
 |_=>none
def evFi(i:Nat)(s:St T.ty):Option (St T.ty):=match s with
 |⟨c,k,e,H⟩=>match calm c,H[i]? with
  |true,some (.row _ _ _ _)=>match frzW T (H.length+1) [.row i] e H with
   |some (_,e',H')=>some ⟨c,k,e',H'⟩
   |none=>none
  |_,_=>none
def sbS{ty:Nat->Type}(c k:Nat)(xs:List (ty c))(c' k':Nat):AV ty:=match Nat.beq c' c,Nat.beq k' k with
 |true,true=> .sl c xs
 |_,_=> .any
def evFs(i c q k:Nat)(s:St T.ty):Option (St T.ty):=match s with
 |⟨ct,ks,e,H⟩=>match calm ct,H[i]? with
  |true,some (.box _ cs)=>match a9d cs,Nat.ble k maxLen,decL T c q k cs with
   |true,true,some xs=>match putA i .gone (d4l i (fun _=> .any) (sbS c k xs) H)with
    |some H'=>some ⟨ct,ks,e4p i (fun _=> .any) (sbS c k xs) e,H'⟩
    |none=>none
   |_,_,_=>none
  |_,_=>none
end
section
variable{P:Program}{T:Tbl P}{Q:Exit->Act->World->Prop}{n:Nat}{F0:Frz}{w0:World}{X:List Nat}{Kz:Snap}{ρ:Type}
theorem f1p{s s':St T.ty}(h:evBs T n s=some s')(k:Sm T Q n F0 w0 X Kz s'):Sm T Q n F0 w0 X Kz s:=by
 unfold evBs at h;split at h
 ·rename_i all o l its e H;split at h
  ·rename_i d t kk ps hg hd ho;split at h
   ·rename_i el hn hu;split at h
    ·rename_i q z hS hz;split at h
     ·rename_i cs hk1 hb;cases h;obtain⟨dst,op,type,pos,after,guard⟩:=o;dsimp only at hg hd ho;subst hd;subst ho;intro R F m w h1 h2 h3 hX;have hzl:=e0g z (kk*q);obtain⟨vl,us,g1,g2,g3,g4⟩:=c4m (us:=zws z (kk*q)) h1 hb (by
       have:=anys_ok (T:=T) (R:=R) (F:=F) (us:=zws z (kk*q))
       rwa [hzl]at this)
      obtain⟨ps⟩:=ps;have hrun:=fun w=>b8j (P:=P) (T.undOk hu) (T.sizeOk hS) (T.zeroOk hz) (Nat.le_of_ble_eq_true hk1) g3 w;have h4:HS F0 w0 X F (R++ [.box w.heap.size el us]) (w.alloc (.cells us.toArray el)):=
       (h3.add (World.grownBy_alloc w _ none) (e':= .box w.heap.size el us) (by show(w.alloc _).heap[w.heap.size]?=_;rw [heap_alloc_new]) (by simp [OE.blk])).addEnd
      have hk:Keep R F (R++ [.box w.heap.size el us]) F:=Keep.more (Frz.refl F);refine b5w rfl (by simpa using hn) (a2g h1 hg) (v:= .slice (some ⟨w.heap.size,0,none⟩) kk kk) (fun a ha=> ?_) (k _ F _ _ ((h1.mono hk).put ⟨w.heap.size,el,us,?_,rfl⟩) ?_ h4 (hX.keep hk))
      ·simp only [execOp];rw [b0j ha g1];simp [hrun w]
      ·rw [h2.1];simp
      show RelH _ _ _ _ (snoc _ H) _;rw [b3m];exact(h2.mono hk).add ⟨_,us,rfl,g2.mono hk⟩
     cases h
    cases h
   cases h
  cases h
 cases h
theorem gEq{r:ρ}{m m':Option ρ}{s:St T.ty}(e:m=m')(g:G T Q n F0 w0 X Kz r m' s):G T Q n F0 w0 X Kz r m s:=e▸g
theorem gBs{r:ρ}{m:Option ρ}{s s':St T.ty}(h:evBs T n (rn T n s)=some s')(g:G T Q n F0 w0 X Kz r m s'):G T Q n F0 w0 X Kz r m s:=fun hm=>a7h (f1p h (g hm))
theorem f2m{s:St T.ty}{f:FuncId}{as0:List (AV T.ty)}{nx:List (AO T.ty)->AV T.ty->St T.ty}(h:evGc T n s=some (f,as0,nx)){α:Type}{az:List (AV T.ty)}{mr:Option α}{Hs:α->List (AO T.ty)}{res:α->AV T.ty}(hF:FnG T f az mr Hs res)(hc:cnvL as0 az=az)(hp:a9d az=true){r:α}(hr:mr=some r)
 (k:Sm T Q n F0 w0 X Kz (nx (Hs r) (res r))):Sm T Q n F0 w0 X Kz s:=by
 unfold evGc at h;split at h
 ·rename_i all o l its e H;split at h
  ·rename_i d cc args ts hg hd ho;split at h
   ·rename_i f0 fi ca as1 hn hf hl;split at h
    ·rename_i as' e' H' hfi hca hz;cases h;intro R F m w h1 h2 h3 hX;obtain⟨us,g1,g2⟩:=c1a h1 hl;obtain⟨R',F',k1,k2,k3,k4,k5,k6⟩:=b0q hz h1 h2 h3 hX g2;have k7:=(k6.cnv az)
     rw [hc]at k7;obtain⟨u,g3,g4⟩:=a0r h1 hf;simp only [Conc]at g4;subst g4;have hfi:fi= #[]:=Array.toList_eq_nil_iff.1 hfi;have hca:ca= #[]:=Array.toList_eq_nil_iff.1 hca;subst hfi;subst hca;obtain⟨dst,op,type,pos,after,guard⟩:=o;dsimp only at hg hd ho;subst hd;subst ho;obtain⟨args⟩:=args;refine a1q (R:=fun v F' S=>RelH T.rp Snap.nil S F' (Hs r) S/\Conc T.rp S F' (res r) v) hF.1 (a2g h1 hg) hn g3 g1 k4
      ((hF.2 r hr w F' k4.sat k5.2 us (k7.pure hp)).mono fun _ _⟨v,F2,S,e1,e2,e3,e4⟩=>⟨v,F2,S,e1,e2,e3,e4⟩)
      (fun v F2 S w' hle hS⟨e1,e2⟩=> ?_)
     have hk:Keep R' F' (R'++S) F2:=Keep.more hle;have hre:∀(j:Nat)(en:OE),S[j]?=some en->(R'++S)[addN H'.length j]?=some en:=by
      intro j en hj;rw [k3.1,show addN R'.length j=R'.length+j from rfl,List.getElem?_append_right (by omega),Nat.add_sub_cancel_left];exact hj
     exact k (R'++S) F2 _ w' ((k2.mono hk).put (e2.ren hre)) ((k3.mono hk).append (e1.renAt hre)) (hS.perm List.perm_append_comm) (k5.keep hk)
    cases h
   cases h
  cases h
 cases h
theorem gGc{r:ρ}{α:Type}{x:Option α}{g:α->Option ρ}{f:FuncId}{as0 az:List (AV T.ty)}{Hs:α->List (AO T.ty)}{res:α->AV T.ty}{nx:List (AO T.ty)->AV T.ty->St T.ty}{s:St T.ty}(hF:FnG T f az x Hs res)(h:evGc T n (rn T n s)=some (f,as0,nx))(hc:cnvL as0 az=az)(hp:a9d az=true)
 (k:∀v,G T Q n F0 w0 X Kz r (g v) (nx (Hs v) (res v))):G T Q n F0 w0 X Kz r (x.bind g) s:=fun hm=>by
 obtain⟨v,hv,hm⟩:=bind_some hm;exact a7h (f2m h hF hc hp hv (k v hm))
theorem e6r{s:St T.ty}{q:LVG T.ty}(h:f0i T n s=some q){α:Type}{cs az:List (AV T.ty)}{mr:Option α}{cs':α->List (AV T.ty)}{Hs:α->List (AO T.ty)}{res:α->AV T.ty}(hF:FnLG T q.f q.t cs az mr cs' Hs res)(hc:cnvL q.cs cs=cs)(hcp:a9d cs=true)(ha:cnvL q.az az=az)(hp:pureL1 T q.az=true){r:α}(hr:mr=some r)
 (k:Sm T Q n F0 w0 X Kz (q.nx (cs' r) (Hs r) (res r))):Sm T Q n F0 w0 X Kz s:=by
 unfold f0i at h;split at h
 ·rename_i all o l its e H;split at h
  ·rename_i d cc args ts hg hd ho;split at h
   ·rename_i f0 fi ca as1 hn hf hl;split at h
    ·rename_i i hfi hca hlent;split at h
     ·rename_i t0 cs0 hi0;split at h
      ·rename_i x1 as' e' H' hz;split at h
       ·rename_i t csx hi;cases h;dsimp only at hF hc ha hp k;intro R F m w h1 h2 h3 hX;obtain⟨us,g1,g2⟩:=c1a h1 hl;obtain⟨en,b1,b0,ws0,rfl,b2⟩:=h2.2 i _ hi0;obtain⟨R',F',k1,k2,k3,k4,k5,v0,r0,k6,k7,k9⟩:=b0q (us:= .agg ws0.toArray::us) hz h1 h2 h3 hX ⟨_,_,rfl,⟨ws0,rfl,b2⟩,g2⟩;obtain⟨rfl,rfl⟩:=List.cons.inj k6;obtain⟨en,c1,b,ws,rfl,c2⟩:=k3.2 i _ hi;have c3:=c2.cnv cs;rw [hc]at c3;have k10:=(c1m c1 hp k9).cnv az;rw [ha]at k10;obtain⟨u,g3,g4⟩:=a0r h1 hf;simp only [Conc]at g4;subst g4;have hfi:fi= #[]:=Array.toList_eq_nil_iff.1 hfi;have hca:ca= #[]:=Array.toList_eq_nil_iff.1 hca;subst hfi;subst hca;obtain⟨dst,op,type,pos,after,guard⟩:=o;dsimp only at hg hd ho;subst hd;subst ho;obtain⟨args⟩:=args;refine d9r (R:=fun v F2 ws' S=>RelH T.rp Snap.nil (.box b t ws'::S) F2 (.box t (cs' r)::Hs r) (.box b t ws'::S)/\Conc T.rp (.box b t ws'::S) F2 (res r) v) hF.1 (a2g h1 hg) hn g3 g1 k4 c1
         ((hF.2 r hr w F' k4.sat k5.2 b ws us (k4.get c1) (k4.lendable c1) (c3.pure hcp) k10).mono fun _ _⟨v,F2,ws',S,e1,e2,e3,e4⟩=>⟨v,F2,ws',S,e1,e2,e3,e4⟩)
         (fun v F2 ws' S w' hle hS⟨e2,e3⟩=> ?_)
        have hlt:=(List.getElem?_eq_some_iff.1 c1).1;have hk:Keep R' F' (R'.set i (.box b t ws')++S) F2:=by
         refine⟨hle,fun j b' t' us' hj=> ?_,fun j e2 q a m' n' xs hj=> ?_⟩
         ·rw [List.getElem?_append_left (by rw [List.length_set];exact(List.getElem?_eq_some_iff.1 hj).1),List.getElem?_set]
          by_cases hij:i=j
          ·subst hij;rw [c1]at hj;cases hj;rw [if_pos rfl,if_pos hlt];exact⟨_,rfl⟩
          rw [if_neg hij];exact⟨_,hj⟩
         rw [List.getElem?_append_left (by rw [List.length_set];exact(List.getElem?_eq_some_iff.1 hj).1),List.getElem?_set]
         by_cases hij:i=j
         ·subst hij;rw [c1]at hj;cases hj
         rw [if_neg hij];exact hj
        have hre:∀(j:Nat)(en:OE),(OE.box b t ws'::S)[j]?=some en->(R'.set i (.box b t ws')++S)[e6s i H'.length j]?=some en:=by
         intro j en hj;cases j with
         |zero=>
          show(R'.set i (.box b t ws')++S)[i]?=some en;rw [List.getElem?_append_left (by rw [List.length_set];exact hlt),List.getElem?_set,if_pos rfl,if_pos hlt];exact hj
         |succ j=>
          show(R'.set i (.box b t ws')++S)[H'.length+j]?=some en;rw [k3.1,List.getElem?_append_right (by rw [List.length_set];omega),List.length_set,Nat.add_sub_cancel_left];exact hj
        obtain⟨en,d1,d2⟩:=e2.2 0 _ rfl;simp only [List.getElem?_cons_zero,Option.some.injEq]at d1;subst d1;have d3:RelH T.rp Snap.nil (.box b t ws'::S) F2 (Hs r) S:=⟨by simpa using e2.1,fun j o hj=>by simpa using e2.2 (j+1) o (by simpa using hj)⟩
        exact k (R'.set i (.box b t ws')++S) F2 _ w' ((k2.mono hk).put (e3.ren hre)) (((k3.mono hk).set i (RelO.ren (K:=Snap.nil) hre d2)).append (d3.renAt hre)) (hS.perm List.perm_append_comm) (k5.keep hk)
       cases h
      cases h
     cases h
    cases h
   cases h
  cases h
 cases h
theorem gLGc{r:ρ}{α:Type}{x:Option α}{g:α->Option ρ}{f:FuncId}{t:TypeId}{cs0 cs as0 az:List (AV T.ty)}{cs':α->List (AV T.ty)}{Hs:α->List (AO T.ty)}{res:α->AV T.ty}{nx:List (AV T.ty)->List (AO T.ty)->AV T.ty->St T.ty}{s:St T.ty}(hF:FnLG T f t cs az x cs' Hs res)(h:f0i T n (rn T n s)=some ⟨f,t,cs0,as0,nx⟩)(hc:cnvL cs0 cs=cs)(hcp:a9d cs=true)(ha:cnvL as0 az=az)(hp:pureL1 T as0=true)
 (k:∀v,G T Q n F0 w0 X Kz r (g v) (nx (cs' v) (Hs v) (res v))):G T Q n F0 w0 X Kz r (x.bind g) s:=fun hm=>by
 obtain⟨v,hv,hm⟩:=bind_some hm;exact a7h (e6r h hF hc hcp ha hp hv (k v hm))
def retG(T:Tbl P)(fn:Func)(F0:Frz)(w0:World)(Hs:ρ->List (AO T.ty))(res:ρ->AV T.ty)(r:ρ):Exit->Act->World->Prop:=bodyPost P fn fun e w'=>∃v F' S,e= .returned v/\HS F0 w0 [] F' S w'/\RelH T.rp Snap.nil S F' (Hs r) S/\Conc T.rp S F' (res r) v
def f5b(T:Tbl P)(fn:Func)(F0:Frz)(w0:World)(b:Nat)(t:TypeId)(cs':ρ->List (AV T.ty))(Hs:ρ->List (AO T.ty))(res:ρ->AV T.ty)(r:ρ):Exit->Act->World->Prop:=bodyPost P fn fun e w'=>∃v F' ws' S,e= .returned v/\HS F0 w0 [b] F' (.box b t ws'::S) w'/\RelH T.rp Snap.nil (.box b t ws'::S) F' (.box t (cs' r)::Hs r) (.box b t ws'::S)/\Conc T.rp (.box b t ws'::S) F' (res r) v
theorem e1o{fn:Func}{s:St T.ty}{H:List (AO T.ty)}{x:AV T.ty}(h:evRX T fn s=some (H,x)){A:Ending->World->Prop}(hA:∀R F w v,RelH T.rp Kz R F H R->HS F0 w0 X F R w->LG T X R F->Conc T.rp R F x v->A (.returned v) w):Sm T (bodyPost P fn A) n F0 w0 X Kz s:=by
 unfold evRX at h;split at h
 ·rename_i e H;split at h
  ·rename_i x hl;cases h;intro R F m w h1 h2 h3 hX;obtain⟨us,g1,g2⟩:=c2f (n:=n) h1 h2 h3 hl;obtain⟨v,us',rfl,g3,g4⟩:=g1;simp only [ConcL]at g4;subst g4;refine d7w (v:=v) (fun a' ha=> ?_) (hA R F w v h2 h3 hX g3);have g7:=g2 a' ha;rw [b7z,Array.mapM_eq_mapM_toList];simp [g7]
  cases h
 cases h
theorem gRG{fn:Func}{Hs:ρ->List (AO T.ty)}{res:ρ->AV T.ty}{r a:ρ}{s:St T.ty}(h:evRX T fn (rn T n s)=some (Hs a,res a)):G T (retG T fn F0 w0 Hs res r) n F0 w0 [] Snap.nil r (some a) s:=fun hm=>by
 cases hm;exact a7h (e1o h fun R F w v h2 h3 hX hc=>⟨v,F,R,rfl,h3,h2,hc⟩)
theorem gRLG{fn:Func}{b:Nat}{t:TypeId}{cs':ρ->List (AV T.ty)}{Hs:ρ->List (AO T.ty)}{res:ρ->AV T.ty}{r a:ρ}{s:St T.ty}(h:evRX T fn (rn T n s)=some (.box t (cs' a)::Hs a,res a)):G T (f5b T fn F0 w0 b t cs' Hs res r) n F0 w0 [b] Snap.nil r (some a) s:=fun hm=>by
 cases hm;refine a7h (e1o h fun R F w v h2 h3 hX hc=> ?_);obtain⟨en,c1,b',ws,rfl,c2⟩:=h2.2 0 _ rfl;obtain⟨t2,cs2,c3⟩:=hX.1 0 b rfl;rw [c1]at c3;cases c3;obtain⟨S,rfl⟩:∃S,R= .box b t ws::S:=by
  cases R with
  |nil=>cases c1
  |cons y S=>simp only [List.getElem?_cons_zero,Option.some.injEq]at c1;subst c1;exact⟨S,rfl⟩
 exact⟨v,F,ws,S,rfl,h3,h2,hc⟩
theorem f3r{f:FuncId}{fn:Func}{co:Code}(hf:P.funcs[f]?=some fn)(hb:fn.body=some co)(hn:fn.ntmps=n){az:List (AV T.ty)}(hle:Nat.ble az.length n=true)(he:Ent P f){m:Option ρ}{Hs:ρ->List (AO T.ty)}{res:ρ->AV T.ty}
 (h:∀F0 w0 r,G T (retG T fn F0 w0 Hs res r) n F0 w0 [] Snap.nil r m ⟨.code co,[],argE 0 az,[]⟩):FnG T f az m Hs res:=by
 refine⟨he,fun r hr w F hs hg us hus=> ?_⟩;refine a3c n hf hb hn (by rw [hus.len];exact hle) ?_;exact h F w r hr [] F _ w (b9i 0 hus) ⟨rfl,fun i o hi=>by simp at hi⟩ (HS.init hs) ⟨fun j b hb=>(by simp at hb),hg⟩
theorem e9m{f:FuncId}{fn:Func}{co:Code}(hf:P.funcs[f]?=some fn)(hb:fn.body=some co)(hn:fn.ntmps=n){cs az:List (AV T.ty)}(hle:Nat.ble az.length n=true)(he:Ent P f){m:Option ρ}{t:TypeId}{cs':ρ->List (AV T.ty)}{Hs:ρ->List (AO T.ty)}{res:ρ->AV T.ty}
 (h:∀F0 w0 b r,G T (f5b T fn F0 w0 b t cs' Hs res r) n F0 w0 [b] Snap.nil r m ⟨.code co,[],argE 0 az,[.box t cs]⟩):FnLG T f t cs az m cs' Hs res:=by
 refine⟨he,fun r hr w F hs hg b ws us hbx hfb hcs hus=> ?_⟩;refine a3c n hf hb hn (by rw [hus.len];exact hle) ?_;refine h F w b r hr [.box b t ws] F _ w (b9i 0 hus) ⟨rfl,fun i o hi=> ?_⟩ (HS.lend hs hbx hfb) ⟨fun j b' hb=> ?_,hg⟩
 ·cases i with
  |zero=>cases hi;exact⟨_,rfl,b,ws,rfl,hcs.mono (d2f (Frz.refl F))⟩
  |succ i=>simp at hi
 cases j with
 |zero=>cases hb;exact⟨t,ws,rfl⟩
 |succ j=>simp at hb
theorem gFi(i:Nat){r:ρ}{m:Option ρ}{s s':St T.ty}(h:evFi T i (rn T n s)=some s')(g:G T Q n F0 w0 X Kz r m s'):G T Q n F0 w0 X Kz r m s:=fun hm=>by
 refine a7h ?_;revert h;generalize rn T n s=s2;intro h;unfold evFi at h;split at h;rename_i c k e H;split at h
 ·rename_i el q cc xs hc hi;split at h
  ·rename_i as' e' H' hz;cases h;intro R F mm w h1 h2 h3 hX;obtain⟨en,u1,a,m',n',us,rfl,u2⟩:=h2.2 i _ hi;obtain⟨R',F',k1,k2,k3,k4,k5,k6⟩:=b0q (us:= [.slice a m' n']) hz h1 h2 h3 hX ⟨_,[],rfl,⟨_,_,_,_,_,_,u1,rfl⟩,rfl⟩;exact d3s hc (g hm R' F' mm w k2 k3 k4 k5)
  cases h
 cases h
theorem gFs(i c q k:Nat){r:ρ}{m:Option ρ}{s s':St T.ty}(h:evFs T i c q k (rn T n s)=some s')(hx:Nat.ble X.length i=true)(g:G T Q n F0 w0 X Kz r m s'):G T Q n F0 w0 X Kz r m s:=fun hm=>by
 refine a7h ?_;revert h;generalize rn T n s=s2;intro h;unfold evFs at h;split at h;rename_i ct ks e H;split at h
 ·rename_i t cs hct hi;split at h
  ·rename_i xs hp hk hdec;split at h
   ·rename_i H' hput;cases h;intro R F mm w h1 h2 h3 hX;obtain⟨R',F',hT,g1,g2,g3⟩:=f3j (r:=fun _=> .any) (s:=sbS c k xs) h2 h3 hX hi hp (Nat.le_of_ble_eq_true hx) (fun R' F' b us hc hl=>⟨fun o=>trivial,fun c' k'=>by
     unfold sbS;split
     ·rename_i e1 e2;obtain rfl:=Nat.eq_of_beq_eq_true e1;obtain rfl:=Nat.eq_of_beq_eq_true e2;obtain⟨d1,d2⟩:=d3r hdec hl;exact⟨_,_,_,rfl,d1.1,Nat.le_of_eq d1.1,Nat.le_of_ble_eq_true hk,.inr ⟨b,0,us,rfl,hc,d1.2⟩⟩
     trivial⟩)
    rw [<-b9n hput]at g1;exact d3s hct (g hm R' F' mm w (h1.subB hT) g1 g2 g3)
   cases h
  cases h
 cases h
end
set_option linter.unusedVariables false
set_option linter.unusedSimpArgs false
def wsl(len:Nat)(a b:Int):Option Unit:=if 0<=a/\a<=b/\b<=(len:Int)/\a<(len:Int)then some ()else none
def cpy{α:Type}(xs:List α)(lo:Nat)(ys:List α):List α:=xs.take lo++ys++xs.drop (lo+ys.length)
section
variable{P:Program}{Q:Exit->Act->World->Prop}{n d:Nat}{env:Env}{w w0:World}{opr:Array Oper}{rest:List Oper}{ty:TypeId}{pos:String}{es:Array Edge}{g:Option (Nat×Bool)}{F F0:Frz}{X:List Nat}{O:List OE}
theorem d9n{α:Type}{r:Rp α}{x y:Operand}{dT sT el e:TypeId}{m c p lo sl sc dl dc:Nat}{a da sa:Option Addr}{us cs:List Value}{xs ys:List α}(hu:P.underlying dT=some (.slice el))(hS:SizeIs P el r.k)(hg:isOn opr env g=true)(hn:Nat.blt d n=true)(h:HS F0 w0 X F O w)
 (hx:opv env x=some (.slice da dl dc)) (hy:opv env y=some (.slice sa sl sc)) (hp:O[p]?=some (.row e r.k a m c us)) (hl:RowN r F m us xs) (hd:0<Nat.min sl dl->∃b,a=some ⟨b,0,none⟩/\da=some ⟨b,lo*r.k,none⟩) (hfit:lo+dl<=m)
 (hs:0<Nat.min sl dl->∃b o,sa=some ⟨b,o,none⟩/\∀(j:Nat)v,cs[j]?=some v->w.cell? ⟨b,o+j,none⟩=some v) (hcl:cs.length=Nat.min sl dl*r.k) (hys:ys.length=Nat.min sl dl) (hR:RowR r F cs ys)
 (k:∀w' us',HS F0 w0 X F (O.set p (.row e r.k a m c us')) w'->RowN r F m us' (cpy xs lo ys)->RW P opr Q rest n ((d,.int .i64 (Nat.min sl dl:Nat))::env) w'):
 RW P opr Q (⟨some d,.call ⟨.builtin .copy, #[x,y], #[dT,sT]⟩,ty,pos,es,g⟩::rest) n env w:=by
 have hmin:Nat.min sl dl<=dl:=Nat.min_le_right ..;rcases Nat.eq_zero_or_pos (Nat.min sl dl)with h0|hpos
 ·have hy0:ys= []:=List.length_eq_zero_iff.1 (by omega);subst hy0;have hcp:cpy xs lo ([]:List α)=xs:=by unfold cpy;simp
  have hset:O.set p (.row e r.k a m c us)=O:=by
   obtain⟨hlt,hget⟩:=List.getElem?_eq_some_iff.1 hp;rw [<-hget];exact List.set_getElem_self ..
  refine b5w (w':=w) rfl (by simpa using hn) hg (v:= .int .i64 (Nat.min sl dl:Nat)) (fun a' ha=> ?_) (k w us (by rw [hset];exact h) (by rw [hcp];exact hl));have e1:∀a:Addr,(loadCells a 0).run P w= .ok #[] w:=fun a=>run_loadCells_list (P:=P) w a [] (fun j v hj=>by simp at hj);have h0':min sl dl=0:=h0;cases sa<;>cases da<;>simp [execOp,resolve,invoke,builtin,ha.op hx,ha.op hy,Builtin.copy_,underlying,hu,Builtin.lenOf,Builtin.firstCells,hS w,h0,h0',e1,storeCells,goInt]
 obtain⟨b,rfl,rfl⟩:=hd hpos;obtain⟨b2,o2,rfl,hsrc⟩:=hs hpos;have hm:0<m:=by omega
 obtain⟨b',cur,ha',hb',hblk,hcur,⟨hxl,hbound⟩,hst⟩:=OE.access (h.get hp) (e:=e) (k:=r.k) (a:=some ⟨b,0,none⟩) (m:=m) (c:=c) (xs:=us) (base:=0) rfl hm;cases ha';have hle:lo*r.k+cs.length<=us.length:=by
  rw [hxl,hcl,<-Nat.add_mul];exact Nat.mul_le_mul_right _ (by omega)
 have h1:=hR.one;have hrun:=run_storeCells_at P b (lo*r.k) e cs 0 cur w hb' (by omega) h1;have hok:=hst (lo*r.k) cs hle;have hload:=run_loadCells_list (P:=P) w ⟨b2,o2,none⟩ cs (fun j v hj=>by rw [a8d];exact hsrc j v hj);rw [hcl]at hload;simp only [Nat.zero_add]at hok;simp only [Nat.add_zero]at hrun;have hnew:RowN r F m (us.take (lo*r.k)++cs++us.drop (lo*r.k+cs.length)) (cpy xs lo ys):=by
  obtain⟨hl1,hl2⟩:=hl;refine⟨?_,?_⟩
  ·unfold cpy;simp only [List.length_append,List.length_take,List.length_drop];omega
  unfold cpy;have e1:lo*r.k+cs.length=(lo+ys.length)*r.k:=by rw [hcl,hys,Nat.add_mul]
  rw [e1];exact RowR.append (hl2.drop _) (RowR.append hR (hl2.take lo))
 refine b5w (w':=w.setRow b (cur.toList.take (lo*r.k)++cs++cur.toList.drop (lo*r.k+cs.length)).toArray) rfl (by simpa using hn) hg (v:= .int .i64 (Nat.min sl dl:Nat)) (fun a' ha=> ?_) (k _ _ (h.upd hp (by rw [hblk];exact b5y w b _) hok (fun b1 hb1=> .inl hb1)) hnew);have hload':(loadCells ⟨b2,o2,none⟩ (min sl dl*r.k)).run P w= .ok cs.toArray w:=hload;simp [execOp,resolve,invoke,builtin,ha.op hx,ha.op hy,Builtin.copy_,underlying,hu,Builtin.lenOf,Builtin.firstCells,hS w,hload,hload',hrun,goInt]
end
section
variable{P:Program}(T:Tbl P)
def e6z(e:AE T.ty)(H:List (AO T.ty)):Op->Option (QV T.ty)
 | .slice t x lo hi none=>match opA e x,T.und t with
   |some (.row i),some (.slice el)=>match T.size el,H[i]? with
    |some q,some (.row _ q' c xs)=>match Nat.beq q q',Nat.beq q' (T.rp c).k,bndA e 0 lo,bndA e xs.length hi with
     |true,true,some a,some b=>some ⟨Unit,wsl xs.length a b,fun _=> .rw i a.toNat b.toNat⟩
     |_,_,_,_=>none
    |_,_=>none
   |_,_=>none
 |_=>none
def evSw(n:Nat)(s:St T.ty):Option (EV T.ty):=match s with
 |⟨.ops all (o::l),k,e,H⟩=>match a9a all e o.guard,o.dst with
  |true,some d=>match Nat.blt d n,e6z T e H o.op with
   |true,some q=>some ⟨q.α,q.x,fun v=>⟨.ops all l,k,(d,q.v v)::e,H⟩⟩
   |_,_=>none
  |_,_=>none
 |⟨.mix all (.tk i p) ks el,k,e,H⟩=>match all[i]?,c7n ks H with
  |some o,true=>match a9a all e o.guard,o.dst with
   |true,some d=>match Nat.blt d n,e6z T e H o.op with
    |true,some q=>some ⟨q.α,q.x,fun v=>⟨.mix all p ks el,k,(d,q.v v)::e,H⟩⟩
    |_,_=>none
   |_,_=>none
  |_,_=>none
 |_=>none
structure CV(ty:Nat->Type)where
 α:Type
 xs:List α
 lo:Nat
 ys:List α
 nx:List α->St ty
def evCp(n:Nat)(s:St T.ty):Option (CV T.ty):=match s with
 |⟨.ops all (o::l),k,e,H⟩=>match a9a all e o.guard,o.dst,o.op with
  |true,some d,.call ⟨.builtin .copy,args,ts⟩=>match Nat.blt d n,args.toList,ts.toList with
   |true,[x,y],[dT,_]=>match T.und dT with
    |some (.slice el)=>match T.size el,opA e x,opA e y with
     |some q,some (.row i),some (.sl c ys)=>match H[i]? with
      |some (.row e2 q' c' xs)=>match d4d c' c xs,Nat.beq q (T.rp c).k,Nat.beq q' (T.rp c).k with
       |some xs',true,true=>some ⟨T.ty c,xs',0,ys.take xs'.length,fun v=>⟨.ops all l,k,(d,.int .i64 (Nat.min ys.length xs'.length:Nat))::d8z i e,(d4j i H).set i (.row e2 q c v)⟩⟩
       |_,_,_=>none
      |_=>none
     |some q,some (.rw i lo hi),some (.rw i2 lo2 hi2)=>match Nat.beq i2 i,H[i]? with
      |true,some (.row e2 q' c xs)=>match Nat.beq q (T.rp c).k,Nat.beq q' (T.rp c).k with
       |true,true=>some ⟨T.ty c,xs,lo,(xs.drop lo2).take (Nat.min (hi2-lo2) (hi-lo)),fun v=>⟨.ops all l,k,(d,.int .i64 (Nat.min (hi2-lo2) (hi-lo):Nat))::d8z i e,(d4j i H).set i (.row e2 q c v)⟩⟩
       |_,_=>none
      |_,_=>none
     |_,_,_=>none
    |_=>none
   |_,_,_=>none
  |_,_,_=>none
 |_=>none
end
section
variable{P:Program}{T:Tbl P}{n:Nat}{F0:Frz}{w0:World}{X:List Nat}{ρ:Type}{Q:Exit->Act->World->Prop}{Kz:Snap}
theorem d7b{R:List OE}{F:Frz}{e:AE T.ty}{m:Env}{H:List (AO T.ty)}{K:Snap}{W:World->Prop}(hE:ConcE T.rp R F e m)(hH:RelH T.rp K R F H R)(hR:c8g R)(hC:∀(i:Nat)e q a m n xs,R[i]?=some (OE.row e q a m n xs)->m<=n){o:Oper}{q:QV T.ty}(h:e6z T e H o.op=some q)(v:q.α)(hv:q.x=some v):∃u,Conc T.rp R F (q.v v) u/\c6b P W m o u:=by
 obtain⟨dst,op,type,pos,after,guard⟩:=o;dsimp only at h;unfold e6z at h;split at h
 ·rename_i t x lo hi;split at h
  ·rename_i i el hx hu;split at h
   ·rename_i q0 el' q' c xs hS hi';split at h
    ·rename_i a b hk hk2 ha0 hb0;cases h;dsimp only at hv;unfold wsl at hv;split at hv
     ·rename_i hc;obtain⟨c1,c2,c3,c4⟩:=hc;obtain⟨p,rfl⟩:=Int.eq_ofNat_of_zero_le c1;obtain⟨z,rfl⟩:=Int.eq_ofNat_of_zero_le (show 0<=b by omega);have hk:=Nat.eq_of_beq_eq_true hk;obtain⟨u,h1,e2,q2,a2,m2,n2,us,g1,g2⟩:=a0r hE hx;subst g2;obtain⟨en,k1,a3,m3,n3,us3,rfl,k2⟩:=hH.2 i _ hi';rw [g1]at k1;cases k1;have hml:=k2.1;obtain⟨bb,rfl⟩:=hR i _ _ _ _ _ _ g1 (by omega);have hcap:=hC i _ _ _ _ _ _ g1;have hS:=T.sizeOk hS;subst hk;have hne:¬n2=p:=by omega
      have h1':p<=z:=by omega
      have hq:z<=n2:=by omega
      have f1:∀(w:World)(c:BoundsCode)(y:Nat),z<=y->(Instr.sliceBound (.int .i64 (z:Int)) y c).run P w= .ok z w:=fun w c y hy=>by simp [Instr.sliceBound,asIntOf,hy]
      have f2:∀(w:World)(c:BoundsCode)(y:Nat),p<=y->(Instr.sliceBound (.int .i64 (p:Int)) y c).run P w= .ok p w:=fun w c y hy=>by simp [Instr.sliceBound,asIntOf,hy]
      have hu:=T.undOk hu;have hadd:∀d:Nat,(⟨bb,0,none⟩:Addr).add d=⟨bb,d,none⟩:=fun d=>by rw [a8d,Nat.zero_add]
      refine⟨.slice (some ⟨bb,p*q0,none⟩) (z-p) (n2-p),⟨el',q0,bb,m2,n2,us,g1,by simp;omega,by simp;omega,by simp;omega,by simp⟩,fun w _ _ _ ha=> ?_⟩;rcases c2b hE ha0 with⟨rfl,hp0⟩|⟨xl,rfl,h5⟩<;>rcases c2b hE hb0 with⟨rfl,hz0⟩|⟨xh,rfl,h6⟩
      ·obtain rfl:p=0:=by omega
       obtain rfl:z=m2:=by omega
       simp [execOp,ha.op h1,Instr.sliceAt,Instr.slice,Instr.sliceBounds,underlying,hu,f1,f2,h1',hq,hne,hadd,hS w]
      ·obtain rfl:p=0:=by omega
       simp [execOp,ha.op h1,ha.op h6,Instr.sliceAt,Instr.slice,Instr.sliceBounds,underlying,hu,f1,f2,h1',hq,hne,hadd,hS w]
      ·obtain rfl:z=m2:=by omega
       simp [execOp,ha.op h1,ha.op h5,Instr.sliceAt,Instr.slice,Instr.sliceBounds,underlying,hu,f1,f2,h1',hq,hne,hadd,hS w]
      simp [execOp,ha.op h1,ha.op h5,ha.op h6,Instr.sliceAt,Instr.slice,Instr.sliceBounds,underlying,hu,f1,f2,h1',hq,hne,hadd,hS w]
     cases hv
    cases h
   cases h
  cases h
 cases h
theorem e3m{R:List OE}{F:Frz}{w:World}(h:HS F0 w0 X F R w):∀(i:Nat)e q a m n xs,R[i]?=some (OE.row e q a m n xs)->m<=n:=by
 intro i e q a m n xs hi;have:=h.own _ (List.mem_of_getElem? hi);rcases this.2 with⟨h1,h2⟩|⟨g,cap,cur,h1,h2,h3,h4,h5,h6⟩
 ·omega
 cases h1;exact h4
theorem gSw{r:ρ}{α:Type}{x:Option α}{g:α->Option ρ}{nx:α->St T.ty}{s:St T.ty}(h:evSw T n (rn T n s)=some ⟨α,x,nx⟩)(k:∀v,G T Q n F0 w0 X Kz r (g v) (nx v)):G T Q n F0 w0 X Kz r (x.bind g) s:=fun hm=>by
 obtain⟨v,hv,hm⟩:=bind_some hm;refine a7h ?_;have k:=k v hm;revert h;generalize rn T n s=s2;intro h;unfold evSw at h;split at h
 ·rename_i all o l its e H;split at h
  ·rename_i d hg hd;split at h
   ·rename_i q' hn hq;cases h;intro R F m w h1 h2 h3 hX;obtain⟨u,hu,hr⟩:=d7b (P:=P) (W:=CH F0 w0 X F R) h1 h2 h3.rows (e3m h3) hq v hv;exact a7r hd (by simpa using hn) (a2g h1 hg) (fun a ha=>hr w ⟨F,Frz.refl F,h3⟩ n a ha) (k R F ((d,u)::m) w (h1.put hu) h2 h3 hX)
   cases h
  cases h
 ·rename_i all i p ks el its e H;split at h
  ·rename_i o hi hk;split at h
   ·rename_i d hg hd;split at h
    ·rename_i q' hn hq;cases h;intro R F m w h1 h2 h3 hX hF listed hp;have hp:=d8a hp;obtain⟨u,hu,hr⟩:=d7b (P:=P) (W:=SK Kz ks) h1 h2 h3.rows (e3m h3) hq v hv;exact c9l i hi (a8w hp.1).1 (a8w hp.1).2.1 (a8w hp.1).2.2 hd hn (a2g h1 hg) (e1l hk h2 h3) (fun w' hw' a ha=>hr w' hw' n a ha) (k R F ((d,u)::m) w (h1.put hu) h2 h3 hX hF _ hp.2)
    cases h
   cases h
  cases h
 cases h
theorem f2q{s:St T.ty}{q:CV T.ty}(h:evCp T n s=some q)(k:Sm T Q n F0 w0 X Kz (q.nx (cpy q.xs q.lo q.ys))):Sm T Q n F0 w0 X Kz s:=by
 unfold evCp at h;split at h
 ·rename_i all o l its e H;split at h
  ·rename_i d args ts hg hd ho;split at h
   ·rename_i x y dT sT hn hargs hts;split at h
    ·rename_i el hu;obtain⟨dst,op,type,pos,after,guard⟩:=o;dsimp only at hg hd ho;subst hd;subst ho;obtain⟨args⟩:=args;obtain⟨ts⟩:=ts;simp only at hargs hts;subst hargs;subst hts;split at h
     ·rename_i q0 i c ys hS hx hy;split at h
      ·rename_i e2 q' c' xs hi;split at h
       ·rename_i xs' hcast hk1 hk2;cases h;dsimp only at k;obtain⟨e1,e3⟩:=c1j hcast;subst e1;have e3:xs'=xs:=e3;subst e3;have hk1:=Nat.eq_of_beq_eq_true hk1;have hk2:=Nat.eq_of_beq_eq_true hk2;subst hk2;have hS:=T.sizeOk hS;subst hk1;intro R F mm w h1 h2 h3 hX;obtain⟨ux,g1,e4,q4,a4,m4,n4,us,g2,rfl⟩:=a0r h1 hx;obtain⟨uy,y1,sa,sl,sc,rfl,y2⟩:=a0r h1 hy;obtain⟨en,k1,a2,m2,n2,us2,rfl,k2⟩:=h2.2 i _ hi;rw [g2]at k1;cases k1;have hml:=k2.1;have hsl:=y2.1;have hcs:0<Nat.min sl m4->∃b o l,sa=some ⟨b,o,none⟩/\FC F b o l/\RowR (T.rp c') F l ys:=by
         intro hpos;have:Nat.min sl m4<=sl:=Nat.min_le_left ..;rcases y2.2.2.2 with h0|h0
         ·subst h0;simp at hsl;omega
         exact h0
        have hlt:=(List.getElem?_eq_some_iff.1 g2).1;have fin:∀w' us',HS F0 w0 X F (R.set i (.row e2 (T.rp c').k a4 m4 n4 us')) w'->RowN (T.rp c') F m4 us' (cpy xs' 0 (ys.take xs'.length))->RW P all (kq P Kz Q its) l n ((d,.int .i64 (Nat.min sl m4:Nat))::mm) w':=by
         intro w' us' hS' hR';have hT:TurnR i R F (R.set i (.row e2 (T.rp c').k a4 m4 n4 us')) F:=by
          refine⟨Frz.refl F,fun j2 b2 t2 cs2 hj=>⟨cs2,?_⟩,fun j2 e5 q2 a2 m2 n2 ys hj=> ?_,fun j2 e5 q2 a2 m2 n2 ys hne hj=> ?_⟩
          ·rw [List.getElem?_set,if_neg (fun e=>by subst e;rw [g2]at hj;cases hj)];exact hj
          ·rw [List.getElem?_set]
           by_cases hij:i=j2
           ·subst hij;rw [g2]at hj;cases hj;rw [if_pos rfl,if_pos hlt];exact⟨us',rfl⟩
           rw [if_neg hij];exact⟨ys,hj⟩
          rw [List.getElem?_set,if_neg (fun e=>hne e.symm)];exact hj
         have k3:=k _ F _ w' ((h1.subR hT).put (t:=d) (x:= .int .i64 (Nat.min ys.length xs'.length:Nat)) (v:= .int .i64 (Nat.min sl m4:Nat)) (by show Value.int _ _=Value.int _ _;rw [hsl,hml])) ((h2.subR hT).set i ⟨_,_,_,us',rfl,hR'⟩) hS' ⟨fun j2 b2 hb=> ?_,hX.2⟩
         ·exact k3
         obtain⟨t2,cs2,h5⟩:=hX.1 j2 b2 hb;obtain⟨cs3,h6⟩:=hT.box j2 b2 t2 cs2 h5;exact⟨t2,cs3,h6⟩
        rcases Nat.eq_zero_or_pos (Nat.min sl m4)with h0|hpos
        ·refine d9n (r:=T.rp c') (lo:=0) (cs:= []) (ys:=ys.take xs'.length) (T.undOk hu) hS (a2g h1 hg) hn h3 g1 y1 g2 k2 (fun h=>by omega) (by omega) (fun h=>by omega) (by rw [h0];simp) (by rw [List.length_take,hsl,hml];show Nat.min m4 sl=_;exact Nat.min_comm ..) ?_ fin;have:ys.take xs'.length= []:=List.length_eq_zero_iff.1 (by rw [List.length_take,hsl,hml];exact(Nat.min_comm m4 sl).trans h0);rw [this];rfl
        obtain⟨b,o,lv,rfl,hfc,hrr⟩:=hcs hpos;have hlen:=hrr.len;have hmle:Nat.min sl m4<=sl:=Nat.min_le_left ..;have hmle2:Nat.min sl m4<=m4:=Nat.min_le_right ..;obtain⟨bb,rfl⟩:=h3.rows i _ _ _ _ _ _ g2 (by omega);have htk:ys.take xs'.length=ys.take (Nat.min sl m4):=by
         rw [hml];apply List.ext_getElem?;intro j;rw [List.getElem?_take,List.getElem?_take]
         by_cases h5:j<m4
         ·by_cases h6:j<sl
          ·rw [if_pos h5,if_pos (by show j<min sl m4;omega)]
          rw [if_pos h5,List.getElem?_eq_none (by omega)];split<;>rfl
         rw [if_neg h5,if_neg (by show¬j<min sl m4;omega)]
        refine d9n (r:=T.rp c') (lo:=0) (cs:=lv.take (Nat.min sl m4*(T.rp c').k)) (ys:=ys.take xs'.length) (T.undOk hu) hS (a2g h1 hg) hn h3 g1 y1 g2 k2 (fun _=>⟨bb,rfl,by rw [Nat.zero_mul]⟩) (by omega) (fun _=>⟨b,o,rfl,fun j v hj=> ?_⟩) ?_ ?_ ?_ fin
        ·rw [List.getElem?_take]at hj;split at hj
         ·exact hfc.cell h3.sat hj
         cases hj
        ·rw [List.length_take,hlen,hsl];exact Nat.min_eq_left (Nat.mul_le_mul_right _ hmle)
        ·rw [List.length_take,hsl,hml];show Nat.min m4 sl=_;exact Nat.min_comm ..
        rw [htk];exact hrr.take _
       cases h
      cases h
     ·rename_i q0 i lo hi i2 lo2 hi2 hS hx hy;split at h
      ·rename_i e2 q' c xs hb hi';split at h
       ·rename_i hk1 hk2;cases h;dsimp only at k;have hb:=Nat.eq_of_beq_eq_true hb;subst hb;have hk1:=Nat.eq_of_beq_eq_true hk1;have hk2:=Nat.eq_of_beq_eq_true hk2;subst hk2;have hS:=T.sizeOk hS;subst hk1;intro R F mm w h1 h2 h3 hX;obtain⟨ux,g1,e4,q4,b4,m4,n4,us,g2,p1,p2,p3,rfl⟩:=a0r h1 hx;obtain⟨uy,y1,e5,q5,b5,m5,n5,us5,g5,r1,r2,r3,rfl⟩:=a0r h1 hy;rw [g2]at g5;cases g5;obtain⟨en,k1,a2,m2,n2,us2,rfl,k2⟩:=h2.2 i2 _ hi';rw [g2]at k1;cases k1;have hml:=k2.1;have hlt:=(List.getElem?_eq_some_iff.1 g2).1;have hmle:Nat.min (hi2-lo2) (hi-lo)<=hi2-lo2:=Nat.min_le_left ..;have hul:=k2.2.len;have hcell:=World.ownsRow.cells (h3.own _ (List.mem_of_getElem? g2)) (g:=b4) rfl;refine d9n (r:=T.rp c) (lo:=lo) (cs:=(us.drop (lo2*(T.rp c).k)).take (Nat.min (hi2-lo2) (hi-lo)*(T.rp c).k)) (ys:=(xs.drop lo2).take (Nat.min (hi2-lo2) (hi-lo))) (T.undOk hu) hS (a2g h1 hg) hn h3 g1 y1 g2 k2 (fun _=>⟨b4,rfl,rfl⟩) (by omega) (fun _=>⟨b4,lo2*(T.rp c).k,rfl,fun j v hj=> ?_⟩) ?_ ?_ ((k2.2.drop lo2).take _) fun w' us' hS' hR'=> ?_
        ·rw [List.getElem?_take]at hj;split at hj
         ·rw [List.getElem?_drop]at hj;have:=hcell _ v hj;rw [a8d]at this;simpa using this
         cases hj
        ·rw [List.length_take,List.length_drop,hul,hml,<-Nat.sub_mul];exact Nat.min_eq_left (Nat.mul_le_mul_right _ (by omega))
        ·rw [List.length_take,List.length_drop,hml];exact Nat.min_eq_left (by omega)
        have hT:TurnR i2 R F (R.set i2 (.row e2 (T.rp c).k (some ⟨b4,0,none⟩) m4 n4 us')) F:=by
         refine⟨Frz.refl F,fun j2 b2 t2 cs2 hj=>⟨cs2,?_⟩,fun j2 e5 q2 a2 m2 n2 ys hj=> ?_,fun j2 e5 q2 a2 m2 n2 ys hne hj=> ?_⟩
         ·rw [List.getElem?_set,if_neg (fun e=>by subst e;rw [g2]at hj;cases hj)];exact hj
         ·rw [List.getElem?_set]
          by_cases hij:i2=j2
          ·subst hij;rw [g2]at hj;cases hj;rw [if_pos rfl,if_pos hlt];exact⟨us',rfl⟩
          rw [if_neg hij];exact⟨ys,hj⟩
         rw [List.getElem?_set,if_neg (fun e=>hne e.symm)];exact hj
        have k3:=k _ F _ w' ((h1.subR hT).put (t:=d) (x:= .int .i64 (Nat.min (hi2-lo2) (hi-lo):Nat)) (v:= .int .i64 (Nat.min (hi2-lo2) (hi-lo):Nat)) rfl) ((h2.subR hT).set i2 ⟨_,_,_,us',rfl,hR'⟩) hS' ⟨fun j2 b2 hb=> ?_,hX.2⟩
        ·exact k3
        obtain⟨t2,cs2,h5⟩:=hX.1 j2 b2 hb;obtain⟨cs3,h6⟩:=hT.box j2 b2 t2 cs2 h5;exact⟨t2,cs3,h6⟩
       cases h
      cases h
     cases h
    cases h
   cases h
  cases h
 cases h
theorem gCp{r:ρ}{α:Type}{xs ys:List α}{lo:Nat}{m:Option ρ}{nx:List α->St T.ty}{s:St T.ty}(h:evCp T n (rn T n s)=some ⟨α,xs,lo,ys,nx⟩)(k:G T Q n F0 w0 X Kz r m (nx (cpy xs lo ys))):G T Q n F0 w0 X Kz r m s:=fun hm=>a7h (f2q h (k hm))
end
set_option linter.unusedVariables false
set_option linter.unusedSimpArgs false
section
variable{P:Program}(T:Tbl P)
def FnM(P:Program)(f:FuncId)(m:Option (List (Bs×Int))):Prop:= Ent P f/\∀r,m=some r->∀w F,Sat F w->Calls P f #[] w fun e w'=>∃v F' O',e= .returned v/\HS F w [] F' O' w'/\∃(b:Nat)(es:List MapEntry)(cl:Nat),v= .map (some b)/\O'= [.mp b es cl]/\MpR vs (Value.int .i64) es r
def evMl(n:Nat)(s:St T.ty):Option (FuncId×TypeId×(List (Bs×Int)->St T.ty)):=match s with
 |⟨.ops all [o],.mixk all2 (.st i p) ks::k,e,H⟩=>match a9a all e o.guard,o.dst,o.op with
  |true,some d,.call ⟨.value (.func f),args,_⟩=>match args.toList,Nat.blt d n,all2[i]? with
   | [],true,some o3=>match a9a all2 ((d,.any)::e) o3.guard,o3.dst,o3.op with
     |true,some d3,.lookup t (.tmp d') kx true=>match Nat.beq d d',Nat.blt d3 n,opA ((d,.any)::e) kx,c7n ks (snoc .gone H)with
      |true,true,some (.str tx),true=>some (f,t,fun l=>⟨.ops all2 [],.mixk all2 p ks::k,(d3,.tup [.int .i64 ((mget l tx).getD 0),.ob (mget l tx).isSome])::(d,.any)::e,snoc .gone H⟩)
      |_,_,_,_=>none
     |_,_,_=>none
   |_,_,_=>none
  |_,_,_=>none
 |_=>none
end
section
variable{P:Program}{T:Tbl P}{n:Nat}{F0:Frz}{w0:World}{X:List Nat}{ρ:Type}{Q:Exit->Act->World->Prop}{Kz:Snap}
theorem f2a{s:St T.ty}{f:FuncId}{t kt et:TypeId}{nx:List (Bs×Int)->St T.ty}(h:evMl T n s=some (f,t,nx)){mr:Option (List (Bs×Int))}(hF:FnM P f mr){l:List (Bs×Int)}(hr:mr=some l)
 (hK:KeyIs P kt vs .string) (hu:P.underlying t=some (.map kt et)) (hz:∀w,(zeroValue et).run P w= .ok (.int .i64 0) w) (k:Sm T Q n F0 w0 X Kz (nx l)):Sm T Q n F0 w0 X Kz s:=by
 unfold evMl at h;split at h
 ·rename_i all o all2 i p ks its e H;split at h
  ·rename_i d f0 args ts hg hd ho;split at h
   ·rename_i o3 hargs hn hi;split at h
    ·rename_i d3 t0 d' kx hg3 hd3 ho3;split at h
     ·rename_i tx hdd hn3 hkx hkp;cases h;obtain rfl:=Nat.eq_of_beq_eq_true hdd;obtain⟨dst,op,type,pos,after,guard⟩:=o;dsimp only at hg hd ho;subst hd;subst ho;obtain⟨args⟩:=args;simp only at hargs;subst hargs;intro R F m w h1 h2 h3 hX;refine a1q (P:=P) (Q:=kq P Kz Q (.mixk all2 (.st i p) ks::its)) (l:= []) (vl:= []) hF.1 (a2g h1 hg) hn rfl rfl h3 (hF.2 l hr w F h3.sat) ?_;rintro v F' O' w' hle hS ⟨b,es,cl,rfl,rfl,hm⟩;have hk:Keep R F (R++ [.mp b es cl]) F':=Keep.more hle;have g1:ConcE T.rp (R++ [.mp b es cl]) F' ((d,.any)::e) ((d,.map (some b))::m):=(h1.mono hk).put trivial;have g2:RelH T.rp Kz (R++ [.mp b es cl]) F' (snoc .gone H) (R++ [.mp b es cl]):=by rw [b3m];exact(h2.mono hk).add trivial
      have g3:=hS.addEnd;intro a ha;refine⟨rfl,e1l hkp g2 g3,fun listed hp=> ?_⟩;have hp:=d8a hp;refine wpAnyH_all (by simpa using hp.1) (by simp) ?_;intro j hj;obtain rfl:=List.mem_singleton.1 hj;refine e5w j hi (K1:=fun a w=>SK Kz ks w/\∀listed,b8v all2 p listed=true->wpAnyH P .any all2 (NP (kq P Kz Q its)) (SK Kz ks) p.dep listed a w) (fun a w g=>⟨g.1,g.2 _ hp.2⟩) ?_ a ha;obtain⟨u,k1,k2⟩:=a0r g1 hkx;simp only [Conc]at k2;subst k2;obtain⟨dst3,op3,type3,pos3,after3,guard3⟩:=o3;dsimp only at hg3 hd3 ho3;subst hd3;subst ho3;refine e6g (k:=tx) (z:=0) (i:=R.length) hK hu hz (a2g g1 hg3) hn3 g3 (show opv ((d,.map (some b))::m) (.tmp d)=some (.map (some b)) by simp [opv,List.lookup_cons]) k1 (show(R++ [OE.mp b es cl])[R.length]?=some (.mp b es cl) by simp) hm ?_;exact k _ F' _ w' (g1.put ⟨_,rfl,_,_,rfl,rfl,_,_,rfl,rfl,rfl⟩) g2 g3 (hX.keep hk)
     cases h
    cases h
   cases h
  cases h
 cases h
theorem gMl{r:ρ}{x:Option (List (Bs×Int))}{g:List (Bs×Int)->Option ρ}{f:FuncId}{t kt et:TypeId}{nx:List (Bs×Int)->St T.ty}{s:St T.ty}(hF:FnM P f x)(h:evMl T n (rn T n s)=some (f,t,nx))
 (hK:KeyIs P kt vs .string) (hu:P.underlying t=some (.map kt et)) (hz:∀w,(zeroValue et).run P w= .ok (.int .i64 0) w) (k:∀v,G T Q n F0 w0 X Kz r (g v) (nx v)):G T Q n F0 w0 X Kz r (x.bind g) s:=fun hm=>by
 obtain⟨v,hv,hm⟩:=bind_some hm;exact a7h (f2a h hF hv hK hu hz (k v hm))
end
end Rt
namespace M
open Go Go.RowKit Rt
set_option maxRecDepth 1000000
set_option maxHeartbeats 40000000
theorem a6c(n:Nat)(rx1:reader):FnL Wt 188 149 [.sl 7 rx1.l,.int .i64 rx1.at_,.int .i64 rx1.e] [.bx 0 0] (a4d n rx1) (fun r=> [.sl 7 r.1.l,.int .i64 r.1.at_,.int .i64 r.1.e]) (fun r=> .agg [.int .i64 r.2.Kind,.str r.2.Text,.int .i64 r.2.N,.int .i64 r.2.Pos]):=by
 refine b0f (n:=31) Tryz.func188 Y Y Y (fun _ _=>by kernel_rfl) fun F0 w0 b r=> ?_;unfold a4d;refine gG Y (by kernel_rfl) ?_;refine gd Y ?_ ?_
 ·refine gB ?_;refine gT ?_;exact gRL Y Y Y Y Y
 refine gB ?_;refine gc Y ?_ ?_
 ·exact gRL Y Y Y Y Y
 refine gHs [(3,(pL [0,2,4,6,8,10,12,14,16,18,21] .nil))] Y (by kernel_rfl) Y Y fun Ky=> ?_;refine gV Y fun ex1=> ?_;refine gHe Y ?_;exact gRL Y Y Y Y Y
theorem a3l(n:Nat)(rx1:reader)(ex1:Int):FnL Wt 136 149 [.sl 7 rx1.l,.int .i64 rx1.at_,.int .i64 rx1.e] [.bx 0 0,.int .i64 ex1] (a2r n rx1 ex1) (fun r=> [.sl 7 r.l,.int .i64 r.at_,.int .i64 r.e]) (fun r=> .tup []):=by
 refine b0f (n:=13) Tryz.func136 Y Y Y (fun _ _=>by kernel_rfl) fun F0 w0 b r=> ?_;unfold a2r;refine gc Y ?_ ?_
 ·exact gRL Y Y Y Y Y
 exact gRL Y Y Y Y Y
theorem b2x(n:Nat)(rx1:reader)(s2:Bs):FnL Wt 135 149 [.sl 7 rx1.l,.int .i64 rx1.at_,.int .i64 rx1.e] [.bx 0 0,.str s2] (a8y n rx1 s2) (fun r=> [.sl 7 r.1.l,.int .i64 r.1.at_,.int .i64 r.1.e]) (fun r=> .ob r.2):=by
 refine b0f (n:=22) Tryz.func135 Y Y Y (fun _ _=>by kernel_rfl) fun F0 w0 b r=> ?_;unfold a8y;refine gN (a6c _ _) Y Y Y Y Y fun v1=> ?_;refine gJ 9 (fun v2=> [.v 21 (.ob v2)]) Y (fun _=>Y) (fun J1 hJ1=> ?_) (fun v2=> ?_)
 ·refine gd Y ?_ ?_
  ·refine gA ?_;refine gd Y ?_ ?_
   ·refine gB ?_;exact gx hJ1
   refine gB ?_;exact gx hJ1
  exact gx hJ1
 exact gRL Y Y Y Y Y
theorem a4l(n:Nat)(rx1:reader)(s2:Bs):FnL Wt 137 149 [.sl 7 rx1.l,.int .i64 rx1.at_,.int .i64 rx1.e] [.bx 0 0,.str s2] (a3f n rx1 s2) (fun r=> [.sl 7 r.1.l,.int .i64 r.1.at_,.int .i64 r.1.e]) (fun r=> .ob r.2):=by
 refine b0f (n:=18) Tryz.func137 Y Y Y (fun _ _=>by kernel_rfl) fun F0 w0 b r=> ?_;unfold a3f;refine gN (b2x _ _ _) Y Y Y Y Y fun v1=> ?_;refine gd Y ?_ ?_
 ·refine gB ?_;exact gRL Y Y Y Y Y
 refine gB ?_;exact gRL Y Y Y Y Y
theorem a0e(n:Nat)(rx1:reader)(l1:(List Bs)):FnL Wt 132 149 [.sl 7 rx1.l,.int .i64 rx1.at_,.int .i64 rx1.e] [.bx 0 0,.sl 1 l1] (a0u n rx1 l1) (fun r=> [.sl 7 r.l,.int .i64 r.at_,.int .i64 r.e]) (fun r=> .tup []):=by
 refine b0f (n:=19) Tryz.func132 Y Y Y (fun _ _=>by kernel_rfl) fun F0 w0 b r=> ?_;unfold a0u;refine a1h ((fun k0 m(s:Int×(List Token)×Int×Int)=>a5p n l1 k0 m s.1 s.2.1 s.2.2.1 s.2.2.2) _) (fun(s:Int×(List Token)×Int×Int)=> [.b 0 [.sl 7 s.2.1,.int .i64 s.2.2.1,.int .i64 s.2.2.2],.v 8 (.int .i64 s.1)]) (fun _=>Y) (_,_,_,_) Y Y (fun _=>Y) Y fun K1 m1 hK1 z1=> ?_;obtain⟨i1,f1,f2,f3⟩:=z1;dsimp only;refine gc Y ?_ ?_
 ·refine gV Y fun ex1=> ?_;refine gN (a4l _ _ _) Y Y Y Y Y fun v1=> ?_;refine gc Y ?_ ?_
  ·refine gN (a3l _ _ _) Y Y Y Y Y fun v2=> ?_;exact ge hK1 (_,_,_,_)
  exact ge hK1 (_,_,_,_)
 exact gRL Y Y Y Y Y
theorem a3q(n:Nat)(rx1:reader)(kind1:Int):FnL Wt 133 149 [.sl 7 rx1.l,.int .i64 rx1.at_,.int .i64 rx1.e] [.bx 0 0,.int .i64 kind1] (a6g n rx1 kind1) (fun r=> [.sl 7 r.1.l,.int .i64 r.1.at_,.int .i64 r.1.e]) (fun r=> .agg [.int .i64 r.2.Kind,.str r.2.Text,.int .i64 r.2.N,.int .i64 r.2.Pos]):=by
 refine b0f (n:=23) Tryz.func133 Y Y Y (fun _ _=>by kernel_rfl) fun F0 w0 b r=> ?_;unfold a6g;refine gN (a6c _ _) Y Y Y Y Y fun v1=> ?_;refine gc Y ?_ ?_
 ·refine gN (a3l _ _ _) Y Y Y Y Y fun v2=> ?_;exact gRL Y Y Y Y Y
 exact gRL Y Y Y Y Y
theorem c0x(n:Nat):FnM Tryz.prog 190 (a8x n):=⟨ent190,fun r hr w F hs=>b8z n r hr hs⟩
theorem b6z(n:Nat):(∀(rx1:reader),FnL Wt 134 149 [.sl 7 rx1.l,.int .i64 rx1.at_,.int .i64 rx1.e] [.bx 0 0] (tariff_reader_expr n rx1) (fun r=> [.sl 7 r.1.l,.int .i64 r.1.at_,.int .i64 r.1.e]) (fun r=> .agg [.int .i64 r.2.Op,.int .i64 r.2.N,.str r.2.Name,.sl 0 r.2.Args]))/\(∀(rx1:reader),FnL Wt 189 149 [.sl 7 rx1.l,.int .i64 rx1.at_,.int .i64 rx1.e] [.bx 0 0] (tariff_reader_atom n rx1) (fun r=> [.sl 7 r.1.l,.int .i64 r.1.at_,.int .i64 r.1.e]) (fun r=> .agg [.int .i64 r.2.Op,.int .i64 r.2.N,.str r.2.Name,.sl 0 r.2.Args])):=by
 induction n with
 |zero=>exact⟨fun _=>c3x (fun _ _=>by kernel_rfl),fun _=>c3x (fun _ _=>by kernel_rfl)⟩
 |succ n ih=>
  refine⟨?_,?_⟩
  ·intro rx1;refine b0f (n:=62) Tryz.func134 Y Y Y (fun _ _=>by kernel_rfl) fun F0 w0 b r=> ?_;rw [tariff_reader_expr_s];refine gN (a4l _ _ _) Y Y Y Y Y fun v1=> ?_;refine gc Y ?_ ?_
   ·refine gN (ih.2 _) Y Y Y Y Y fun v2=> ?_;obtain⟨v2,⟨v2a,v2b,v2c,v2d⟩⟩:=v2;exact gRL Y Y Y Y Y
   refine gN (a4l _ _ _) Y Y Y Y Y fun v3=> ?_;refine gc Y ?_ ?_
   ·refine gN (ih.2 _) Y Y Y Y Y fun v4=> ?_;obtain⟨v4,⟨v4a,v4b,v4c,v4d⟩⟩:=v4;refine gN (a0e _ _ _) Y Y Y Y Y fun v5=> ?_;refine gN (ih.2 _) Y Y Y Y Y fun v6=> ?_;obtain⟨v6,⟨v6a,v6b,v6c,v6d⟩⟩:=v6;refine gN (a0e _ _ _) Y Y Y Y Y fun v7=> ?_;refine gHs [(5,(pL [0,3,5] .nil)),(7,(pL [0,3,5] .nil)),(8,(pL [0,2,4,7,9,11,13] .nil)),(11,(pL [2,4,1,7,9,10,12,15,17] .nil)),(12,(pL [0,2,4,6,8,10,13,15,17] .nil)),(14,(pL [0,2,4,7,9,11,13] .nil))] Y (by kernel_rfl) Y Y fun Ky=> ?_;refine gN (ih.2 _) Y Y Y Y Y fun v8=> ?_;obtain⟨v8,⟨v8a,v8b,v8c,v8d⟩⟩:=v8;refine gHe Y ?_;exact gRL Y Y Y Y Y
   refine gN (ih.2 _) Y Y Y Y Y fun v9=> ?_;obtain⟨v9,⟨v9a,v9b,v9c,v9d⟩⟩:=v9;refine gN (a6c _ _) Y Y Y Y Y fun v10=> ?_;refine gHs [(5,(pL [0,3,5] .nil)),(7,(pL [0,3,5] .nil)),(8,(pL [0,2,4,7,9,11,13] .nil)),(11,(pL [2,4,1,7,9,10,12,15,17] .nil)),(12,(pL [0,2,4,6,8,10,13,15,17] .nil)),(14,(pL [0,2,4,7,9,11,13] .nil))] Y (by kernel_rfl) Y Y fun Ky=> ?_;refine gMl (c0x _) Y key9 um193 zv3 fun v11=> ?_;refine gHe Y ?_;refine gJ 6 (fun j1=> [.b 0 [.sl 7 j1.2.1,.int .i64 j1.2.2.1,.int .i64 j1.2.2.2],.v 54 (.ob j1.1)]) Y (fun _=>Y) (fun J1 hJ1=> ?_) (fun j1=> ?_)
   ·refine gd Y ?_ ?_
    ·exact gx hJ1
    refine gA ?_;refine gN (a4l _ _ _) Y Y Y Y Y fun v14=> ?_;exact gx hJ1
   obtain⟨v12,f1,f2,f3⟩:=j1;dsimp only;refine gc Y ?_ ?_
   ·exact gRL Y Y Y Y Y
   refine gHs [(5,(pL [0,3,5] .nil)),(7,(pL [0,3,5] .nil)),(8,(pL [0,2,4,7,9,11,13] .nil)),(11,(pL [2,4,1,7,9,10,12,15,17] .nil)),(12,(pL [0,2,4,6,8,10,13,15,17] .nil)),(14,(pL [0,2,4,7,9,11,13] .nil))] Y (by kernel_rfl) Y Y fun Ky=> ?_;refine gN (ih.2 _) Y Y Y Y Y fun v13=> ?_;obtain⟨v13,⟨v13a,v13b,v13c,v13d⟩⟩:=v13;refine gHe Y ?_;exact gRL Y Y Y Y Y
  intro rx1;refine b0f (n:=117) Tryz.func189 Y Y Y (fun _ _=>by kernel_rfl) fun F0 w0 b r=> ?_;rw [tariff_reader_atom_s];refine gN (a6c _ _) Y Y Y Y Y fun v1=> ?_;refine gc Y ?_ ?_
  ·exact gRL Y Y Y Y Y
  refine gJ 4 (fun v2=> [.v 29 (.ob v2)]) Y (fun _=>Y) (fun J1 hJ1=> ?_) (fun v2=> ?_)
  ·refine gd Y ?_ ?_
   ·exact gx hJ1
   exact gx hJ1
  refine gc Y ?_ ?_
  ·refine gN (a3l _ _ _) Y Y Y Y Y fun v3=> ?_;exact gRL Y Y Y Y Y
  refine gc Y ?_ ?_
  ·refine gN (ih.1 _) Y Y Y Y Y fun v4=> ?_;obtain⟨v4,⟨v4a,v4b,v4c,v4d⟩⟩:=v4;refine gN (a0e _ _ _) Y Y Y Y Y fun v5=> ?_;exact gRL Y Y Y Y Y
  refine gc Y ?_ ?_
  ·exact gRL Y Y Y Y Y
  refine gc Y ?_ ?_
  ·exact gRL Y Y Y Y Y
  refine gd Y ?_ ?_
  ·refine gB ?_;refine gT ?_;refine gd Y ?_ ?_
   ·refine gB ?_;refine gN (a0e _ _ _) Y Y Y Y Y fun v7=> ?_;refine gN (a3q _ _ _) Y Y Y Y Y fun v8=> ?_;refine gN (a0e _ _ _) Y Y Y Y Y fun v9=> ?_;exact gRL Y Y Y Y Y
   refine gB ?_;refine gN (a0e _ _ _) Y Y Y Y Y fun v7=> ?_;refine gN (a3q _ _ _) Y Y Y Y Y fun v8=> ?_;refine gN (a0e _ _ _) Y Y Y Y Y fun v9=> ?_;exact gRL Y Y Y Y Y
  refine gB ?_;refine gc Y ?_ ?_
  ·refine gd Y ?_ ?_
   ·refine gB ?_;refine gN (a0e _ _ _) Y Y Y Y Y fun v7=> ?_;refine gN (a3q _ _ _) Y Y Y Y Y fun v8=> ?_;refine gN (a0e _ _ _) Y Y Y Y Y fun v9=> ?_;exact gRL Y Y Y Y Y
   refine gB ?_;refine gN (a0e _ _ _) Y Y Y Y Y fun v7=> ?_;refine gN (a3q _ _ _) Y Y Y Y Y fun v8=> ?_;refine gN (a0e _ _ _) Y Y Y Y Y fun v9=> ?_;exact gRL Y Y Y Y Y
  refine gd Y ?_ ?_
  ·refine gB ?_;refine gT ?_;refine gd Y ?_ ?_
   ·refine gB ?_;refine gN (a0e _ _ _) Y Y Y Y Y fun v11=> ?_;refine gA ?_;refine gHs [(12,(pL [0,3,5] .nil)),(20,(pL [0,3,5] .nil)),(23,(pL [0,3,5] .nil)),(25,(pL [0,3,5] .nil)),(29,(pL [0,3,5] .nil)),(32,(pL [0,3,5] .nil)),(33,(pL [0,4] (.two 1 3 (pL [7,9,11,13,15] .nil) (pL [] (.two 1 4 (pL [9,11,13,15] .nil) (pL [3,11,13,15] .nil)))))),(34,(pL [0,3,5] .nil)),(35,(pL [0,4] (.two 1 3 (pL [7,9,11,13,15] .nil) (pL [] (.two 1 4 (pL [9,11,13,15] .nil) (pL [3,11,13,15] .nil)))))),(36,(pL [0,3,5] .nil))] Y (by kernel_rfl) Y Y fun Ky=> ?_;try refine gH2 rfl ?_ ?_
    all_goals
     refine gN (ih.1 _) Y Y Y Y Y fun v15=> ?_;obtain⟨v15,⟨v15a,v15b,v15c,v15d⟩⟩:=v15;try refine gH2 rfl ?_ ?_
     all_goals
      refine gA ?_;refine gP Y fun l4=> ?_;refine gB ?_;refine gHe Y ?_;refine gN (a0e _ _ _) Y Y Y Y Y fun v12=> ?_;refine gA ?_;refine gHs [(12,(pL [0,3,5] .nil)),(20,(pL [0,3,5] .nil)),(23,(pL [0,3,5] .nil)),(25,(pL [0,3,5] .nil)),(29,(pL [0,3,5] .nil)),(32,(pL [0,3,5] .nil)),(33,(pL [0,4] (.two 1 3 (pL [7,9,11,13,15] .nil) (pL [] (.two 1 4 (pL [9,11,13,15] .nil) (pL [3,11,13,15] .nil)))))),(34,(pL [0,3,5] .nil)),(35,(pL [0,4] (.two 1 3 (pL [7,9,11,13,15] .nil) (pL [] (.two 1 4 (pL [9,11,13,15] .nil) (pL [3,11,13,15] .nil)))))),(36,(pL [0,3,5] .nil))] Y (by kernel_rfl) Y Y fun Ky=> ?_;try refine gH2 rfl ?_ ?_
      all_goals
       refine gN (ih.1 _) Y Y Y Y Y fun v14=> ?_;obtain⟨v14,⟨v14a,v14b,v14c,v14d⟩⟩:=v14;try refine gH2 rfl ?_ ?_
       all_goals
        refine gA ?_;refine gP Y fun l3=> ?_;refine gB ?_;refine gHe Y ?_;refine gN (a0e _ _ _) Y Y Y Y Y fun v13=> ?_;exact gRL Y Y Y Y Y
   refine gB ?_;refine gN (a0e _ _ _) Y Y Y Y Y fun v11=> ?_;refine gA ?_;refine gHs [(12,(pL [0,3,5] .nil)),(20,(pL [0,3,5] .nil)),(23,(pL [0,3,5] .nil)),(25,(pL [0,3,5] .nil)),(29,(pL [0,3,5] .nil)),(32,(pL [0,3,5] .nil)),(33,(pL [0,4] (.two 1 3 (pL [7,9,11,13,15] .nil) (pL [] (.two 1 4 (pL [9,11,13,15] .nil) (pL [3,11,13,15] .nil)))))),(34,(pL [0,3,5] .nil)),(35,(pL [0,4] (.two 1 3 (pL [7,9,11,13,15] .nil) (pL [] (.two 1 4 (pL [9,11,13,15] .nil) (pL [3,11,13,15] .nil)))))),(36,(pL [0,3,5] .nil))] Y (by kernel_rfl) Y Y fun Ky=> ?_;try refine gH2 rfl ?_ ?_
   all_goals
    refine gN (ih.1 _) Y Y Y Y Y fun v15=> ?_;obtain⟨v15,⟨v15a,v15b,v15c,v15d⟩⟩:=v15;try refine gH2 rfl ?_ ?_
    all_goals
     refine gA ?_;refine gP Y fun l4=> ?_;refine gB ?_;refine gHe Y ?_;refine gN (a0e _ _ _) Y Y Y Y Y fun v12=> ?_;refine gA ?_;refine gHs [(12,(pL [0,3,5] .nil)),(20,(pL [0,3,5] .nil)),(23,(pL [0,3,5] .nil)),(25,(pL [0,3,5] .nil)),(29,(pL [0,3,5] .nil)),(32,(pL [0,3,5] .nil)),(33,(pL [0,4] (.two 1 3 (pL [7,9,11,13,15] .nil) (pL [] (.two 1 4 (pL [9,11,13,15] .nil) (pL [3,11,13,15] .nil)))))),(34,(pL [0,3,5] .nil)),(35,(pL [0,4] (.two 1 3 (pL [7,9,11,13,15] .nil) (pL [] (.two 1 4 (pL [9,11,13,15] .nil) (pL [3,11,13,15] .nil)))))),(36,(pL [0,3,5] .nil))] Y (by kernel_rfl) Y Y fun Ky=> ?_;try refine gH2 rfl ?_ ?_
     all_goals
      refine gN (ih.1 _) Y Y Y Y Y fun v14=> ?_;obtain⟨v14,⟨v14a,v14b,v14c,v14d⟩⟩:=v14;try refine gH2 rfl ?_ ?_
      all_goals
       refine gA ?_;refine gP Y fun l3=> ?_;refine gB ?_;refine gHe Y ?_;refine gN (a0e _ _ _) Y Y Y Y Y fun v13=> ?_;exact gRL Y Y Y Y Y
  refine gB ?_;refine gc Y ?_ ?_
  ·refine gd Y ?_ ?_
   ·refine gB ?_;refine gN (a0e _ _ _) Y Y Y Y Y fun v11=> ?_;refine gA ?_;refine gHs [(12,(pL [0,3,5] .nil)),(20,(pL [0,3,5] .nil)),(23,(pL [0,3,5] .nil)),(25,(pL [0,3,5] .nil)),(29,(pL [0,3,5] .nil)),(32,(pL [0,3,5] .nil)),(33,(pL [0,4] (.two 1 3 (pL [7,9,11,13,15] .nil) (pL [] (.two 1 4 (pL [9,11,13,15] .nil) (pL [3,11,13,15] .nil)))))),(34,(pL [0,3,5] .nil)),(35,(pL [0,4] (.two 1 3 (pL [7,9,11,13,15] .nil) (pL [] (.two 1 4 (pL [9,11,13,15] .nil) (pL [3,11,13,15] .nil)))))),(36,(pL [0,3,5] .nil))] Y (by kernel_rfl) Y Y fun Ky=> ?_;try refine gH2 rfl ?_ ?_
    all_goals
     refine gN (ih.1 _) Y Y Y Y Y fun v15=> ?_;obtain⟨v15,⟨v15a,v15b,v15c,v15d⟩⟩:=v15;try refine gH2 rfl ?_ ?_
     all_goals
      refine gA ?_;refine gP Y fun l4=> ?_;refine gB ?_;refine gHe Y ?_;refine gN (a0e _ _ _) Y Y Y Y Y fun v12=> ?_;refine gA ?_;refine gHs [(12,(pL [0,3,5] .nil)),(20,(pL [0,3,5] .nil)),(23,(pL [0,3,5] .nil)),(25,(pL [0,3,5] .nil)),(29,(pL [0,3,5] .nil)),(32,(pL [0,3,5] .nil)),(33,(pL [0,4] (.two 1 3 (pL [7,9,11,13,15] .nil) (pL [] (.two 1 4 (pL [9,11,13,15] .nil) (pL [3,11,13,15] .nil)))))),(34,(pL [0,3,5] .nil)),(35,(pL [0,4] (.two 1 3 (pL [7,9,11,13,15] .nil) (pL [] (.two 1 4 (pL [9,11,13,15] .nil) (pL [3,11,13,15] .nil)))))),(36,(pL [0,3,5] .nil))] Y (by kernel_rfl) Y Y fun Ky=> ?_;try refine gH2 rfl ?_ ?_
      all_goals
       refine gN (ih.1 _) Y Y Y Y Y fun v14=> ?_;obtain⟨v14,⟨v14a,v14b,v14c,v14d⟩⟩:=v14;try refine gH2 rfl ?_ ?_
       all_goals
        refine gA ?_;refine gP Y fun l3=> ?_;refine gB ?_;refine gHe Y ?_;refine gN (a0e _ _ _) Y Y Y Y Y fun v13=> ?_;exact gRL Y Y Y Y Y
   refine gB ?_;refine gN (a0e _ _ _) Y Y Y Y Y fun v11=> ?_;refine gA ?_;refine gHs [(12,(pL [0,3,5] .nil)),(20,(pL [0,3,5] .nil)),(23,(pL [0,3,5] .nil)),(25,(pL [0,3,5] .nil)),(29,(pL [0,3,5] .nil)),(32,(pL [0,3,5] .nil)),(33,(pL [0,4] (.two 1 3 (pL [7,9,11,13,15] .nil) (pL [] (.two 1 4 (pL [9,11,13,15] .nil) (pL [3,11,13,15] .nil)))))),(34,(pL [0,3,5] .nil)),(35,(pL [0,4] (.two 1 3 (pL [7,9,11,13,15] .nil) (pL [] (.two 1 4 (pL [9,11,13,15] .nil) (pL [3,11,13,15] .nil)))))),(36,(pL [0,3,5] .nil))] Y (by kernel_rfl) Y Y fun Ky=> ?_;try refine gH2 rfl ?_ ?_
   all_goals
    refine gN (ih.1 _) Y Y Y Y Y fun v15=> ?_;obtain⟨v15,⟨v15a,v15b,v15c,v15d⟩⟩:=v15;try refine gH2 rfl ?_ ?_
    all_goals
     refine gA ?_;refine gP Y fun l4=> ?_;refine gB ?_;refine gHe Y ?_;refine gN (a0e _ _ _) Y Y Y Y Y fun v12=> ?_;refine gA ?_;refine gHs [(12,(pL [0,3,5] .nil)),(20,(pL [0,3,5] .nil)),(23,(pL [0,3,5] .nil)),(25,(pL [0,3,5] .nil)),(29,(pL [0,3,5] .nil)),(32,(pL [0,3,5] .nil)),(33,(pL [0,4] (.two 1 3 (pL [7,9,11,13,15] .nil) (pL [] (.two 1 4 (pL [9,11,13,15] .nil) (pL [3,11,13,15] .nil)))))),(34,(pL [0,3,5] .nil)),(35,(pL [0,4] (.two 1 3 (pL [7,9,11,13,15] .nil) (pL [] (.two 1 4 (pL [9,11,13,15] .nil) (pL [3,11,13,15] .nil)))))),(36,(pL [0,3,5] .nil))] Y (by kernel_rfl) Y Y fun Ky=> ?_;try refine gH2 rfl ?_ ?_
     all_goals
      refine gN (ih.1 _) Y Y Y Y Y fun v14=> ?_;obtain⟨v14,⟨v14a,v14b,v14c,v14d⟩⟩:=v14;try refine gH2 rfl ?_ ?_
      all_goals
       refine gA ?_;refine gP Y fun l3=> ?_;refine gB ?_;refine gHe Y ?_;refine gN (a0e _ _ _) Y Y Y Y Y fun v13=> ?_;exact gRL Y Y Y Y Y
  refine gN (a3l _ _ _) Y Y Y Y Y fun v16=> ?_;exact gRL Y Y Y Y Y
theorem b8h(n:Nat)(rx1:reader):FnL Wt 134 149 [.sl 7 rx1.l,.int .i64 rx1.at_,.int .i64 rx1.e] [.bx 0 0] (tariff_reader_expr n rx1) (fun r=> [.sl 7 r.1.l,.int .i64 r.1.at_,.int .i64 r.1.e]) (fun r=> .agg [.int .i64 r.2.Op,.int .i64 r.2.N,.str r.2.Name,.sl 0 r.2.Args]):=(b6z n).1 rx1
theorem c7u(n:Nat)(s1:Bs):FnC Wt 70 [.str s1] (b6a n s1) (fun r=> .tup [.agg [.str r.1.Name,.int .i64 r.1.Fee.Op,.int .i64 r.1.Fee.N,.str r.1.Fee.Name,.sl 0 r.1.Fee.Args,.int .i64 r.1.Cap],.int .i64 r.2.1,.int .i64 r.2.2]):=by
 refine fk (n:=110) Tryz.func70 fun F0 w0 r=> ?_;unfold b6a;refine gK (d1z _ _) Y Y Y fun v1=> ?_;refine gc Y ?_ ?_
 ·exact gr
 refine gN (a0e _ _ _) Y Y Y Y Y fun v2=> ?_;refine gN (a3q _ _ _) Y Y Y Y Y fun v3=> ?_;refine gN (a0e _ _ _) Y Y Y Y Y fun v4=> ?_;refine gN (b8h _ _) Y Y Y Y Y fun v5=> ?_;obtain⟨v5,⟨v5a,v5b,v5c,v5d⟩⟩:=v5;refine gN (b2x _ _ _) Y Y Y Y Y fun v6=> ?_;refine gJ 5 (fun j1=> [.v 45 (.ob j1.1),.b 10 [.int .i64 j1.2]]) Y (fun _=>Y) (fun J1 hJ1=> ?_) (fun j1=> ?_)
 ·refine gd Y ?_ ?_
  ·refine gA ?_;refine gN (b8u _ _ _ _) Y Y Y Y Y fun v16=> ?_;exact gx hJ1
  exact gx hJ1
 obtain⟨v7,_⟩:=j1;dsimp only;refine gM (fun j2=> [.b 8 [.sl 7 j2.1,.int .i64 j2.2.1,.int .i64 j2.2.2]]) Y (fun _=>Y) (fun J2 hJ2=> ?_) (fun j2=> ?_)
 ·refine gd Y ?_ ?_
  ·refine gA ?_;refine gN (a3l _ _ _) Y Y Y Y Y fun v15=> ?_;exact gx hJ2
  exact gx hJ2
 obtain⟨f2,f3,f4⟩:=j2;dsimp only;refine gN (a0e _ _ _) Y Y Y Y Y fun v8=> ?_;refine gN (a4l _ _ _) Y Y Y Y Y fun v9=> ?_;refine gM (fun j3=> [.b 8 [.sl 7 j3.2.1,.int .i64 j3.2.2.1,.int .i64 j3.2.2.2],.bs 9 5 (.int .i64 j3.1)]) Y (fun _=>Y) (fun J3 hJ3=> ?_) (fun j3=> ?_)
 ·refine gd Y ?_ ?_
  ·refine gA ?_;refine gN (a0e _ _ _) Y Y Y Y Y fun v12=> ?_;refine gA ?_;refine gN (a3q _ _ _) Y Y Y Y Y fun v13=> ?_;refine gA ?_;refine gN (a0e _ _ _) Y Y Y Y Y fun v14=> ?_;exact gx hJ3
  exact gx hJ3
 obtain⟨f5,f6,f7,f8⟩:=j3;dsimp only;refine gN (a0e _ _ _) Y Y Y Y Y fun v10=> ?_;refine gM (fun j4=> [.b 8 [.sl 7 j4.1,.int .i64 j4.2.1,.int .i64 j4.2.2]]) Y (fun _=>Y) (fun J4 hJ4=> ?_) (fun j4=> ?_)
 ·refine gd Y ?_ ?_
  ·refine gA ?_;refine gN (a3l _ _ _) Y Y Y Y Y fun v11=> ?_;exact gx hJ4
  exact gx hJ4
 obtain⟨_,f10,f11⟩:=j4;dsimp only;refine gc Y ?_ ?_
 ·exact gr
 refine gc Y ?_ ?_
 ·refine gHs [(23,(pL [0,2,4,6,8,10,12,14,16,18,20,22,24,27,29,31] .nil)),(24,(pL [0,2,4,6,8,10,12,15,17,19] .nil))] Y (by kernel_rfl) Y Y fun Ky=> ?_;refine gV Y fun ex1=> ?_;refine gHe Y ?_;exact gr
 refine gHs [(23,(pL [0,2,4,6,8,10,12,14,16,18,20,22,24,27,29,31] .nil)),(24,(pL [0,2,4,6,8,10,12,15,17,19] .nil))] Y (by kernel_rfl) Y Y fun Ky=> ?_;refine gHe Y ?_;exact gr
end M
namespace Rt
open Go
def Ev{α:Type}(f:Nat->Option α)(r:α):Prop:=∃N,∀n,N<=n->f n=some r
section
variable{α β:Type}
theorem Ev.pure(a:α):Ev (fun _=>some a) a:=⟨0,fun _ _=>rfl⟩
theorem Ev.all{f:Nat->Option α}{r:α}(h:∀n,f n=some r):Ev f r:=⟨0,fun n _=>h n⟩
theorem Ev.bind{x:Nat->Option α}{f:Nat->α->Option β}{a:α}{b:β}(hx:Ev x a)(hf:Ev (fun n=>f n a) b):Ev (fun n=>(x n).bind (f n)) b:=by
 obtain⟨N,hN⟩:=hx;obtain⟨M,hM⟩:=hf;refine⟨max N M,fun n hn=> ?_⟩;show(x n).bind (f n)=some b;rw [hN n (by omega)];exact hM n (by omega)
theorem Ev.step{x:Option α}{f:Nat->α->Option β}{a:α}{b:β}(hx:x=some a)(hf:Ev (fun n=>f n a) b):Ev (fun n=>x.bind (f n)) b:=by
 subst hx;exact hf
theorem Ev.then{x:Nat->Option α}{b:α}{c:Bool}{y:Nat->Option α}(hc:c=true)(h:Ev x b):Ev (fun n=>bif c then x n else y n) b:=by subst hc;exact h
theorem Ev.else{x:Nat->Option α}{b:α}{c:Bool}{y:Nat->Option α}(hc:c=false)(h:Ev y b):Ev (fun n=>bif c then x n else y n) b:=by subst hc;exact h
theorem Ev.from{f g:Nat->Option α}{r:α}(N:Nat)(h:∀n,N<=n->f n=g n)(hg:Ev g r):Ev f r:=by
 obtain⟨M,hM⟩:=hg;exact⟨max N M,fun n hn=>by rw [h n (by omega)];exact hM n (by omega)⟩
theorem Ev.eq{f:Nat->Option α}{r s:α}(h:Ev f r)(e:r=s):Ev f s:=e▸h
theorem Ev.uniq{f:Nat->Option α}{r s:α}(h:Ev f r)(k:Ev f s):r=s:=by
 obtain⟨N,hN⟩:=h;obtain⟨M,hM⟩:=k;have h1:=hN (max N M) (by omega);rw [hM (max N M) (by omega)]at h1;exact(Option.some.inj h1).symm
end
theorem e7k(x:Int):IntKind.i64.wrap x=if x %18446744073709551616≥9223372036854775808 then x %18446744073709551616-18446744073709551616 else x %18446744073709551616:=by
 simp [IntKind.wrap,IntKind.bits,IntKind.signed]
theorem a5o{x:Int}(h1:-9223372036854775808<=x)(h2:x<=9223372036854775807):IntKind.i64.wrap x=x:=by
 rw [e7k];split<;>omega
theorem b6n(x:Int):IntKind.u64.wrap x=x %18446744073709551616:=by
 simp [IntKind.wrap,IntKind.bits,IntKind.signed]
theorem a1k{x y:Int}(h1:-9223372036854775808<=x+y)(h2:x+y<=9223372036854775807):iadd .i64 x y=x+y:=a5o h1 h2
theorem a0t{x y:Int}(h1:-9223372036854775808<=x-y)(h2:x-y<=9223372036854775807):isub .i64 x y=x-y:=a5o h1 h2
theorem a7i{x y:Int}(h1:-9223372036854775808<=x*y)(h2:x*y<=9223372036854775807):imul .i64 x y=x*y:=a5o h1 h2
theorem c9s(k:IntKind)(x:Int)(m:Nat)(hk:k.bits=64)(hm:m<64):(BitVec.ofInt k.bits x&&&BitVec.ofInt k.bits ((2^m-1:Nat):Int)).toNat=(x %18446744073709551616).toNat %2^m:=by
 rw [BitVec.toNat_and,BitVec.toNat_ofInt,BitVec.toNat_ofInt,hk];have h2:(((2^m-1:Nat):Int) %((2^64:Nat):Int)).toNat=2^m-1:=by
  have:2^m<2^64:=Nat.pow_lt_pow_right (by omega) hm;rw [<-Int.natCast_emod,Int.toNat_natCast,Nat.mod_eq_of_lt (by omega)]
 rw [h2,Nat.and_two_pow_sub_one_eq_mod];rfl
theorem b6s(x:Int):iand .i64 x 1048575=x %1048576:=by
 have h:=c9s .i64 x 20 rfl (by omega);have e:((2^20-1:Nat):Int)=1048575:=by decide
 rw [e]at h;unfold iand;rw [h,a5o (by omega) (by omega)];omega
theorem d7r{x:Int}(h0:0<=x)(h1:x<18446744073709551616):iand .u64 x 1048575=x %1048576:=by
 have h:=c9s .u64 x 20 rfl (by omega);have e:((2^20-1:Nat):Int)=1048575:=by decide
 rw [e]at h;unfold iand;rw [h,b6n];omega
theorem e5y(x:Int):iand .i64 x 1=x %2:=by
 have h:=c9s .i64 x 1 rfl (by omega);have e:((2^1-1:Nat):Int)=1:=by decide
 rw [e]at h;unfold iand;rw [h,a5o (by omega) (by omega)];omega
theorem c5l(x:Int):shr .i64 x 20=some (x/1048576):=by
 unfold shr;rw [if_neg (by omega),Int.fdiv_eq_ediv_of_nonneg _ (by decide)];rfl
theorem f0x(x:Int):shr .u64 x 20=some (x/1048576):=by
 unfold shr;rw [if_neg (by omega),Int.fdiv_eq_ediv_of_nonneg _ (by decide)];rfl
theorem c7a{x:Int}(h0:-8796093022208<=x)(h1:x<8796093022208):shl .i64 x 20=some (x*1048576):=by
 unfold shl;rw [if_neg (by omega),show(2:Int)^(min (20:Int).toNat IntKind.i64.bits)=1048576 from by decide,a5o (by omega) (by omega)]
theorem c6x{x y:Int}(h0:0<=x)(h1:x<8796093022208)(h2:0<=y)(h3:y<1048576):ior .i64 (x*1048576) y=x*1048576+y:=by
 obtain⟨p,rfl⟩:=Int.eq_ofNat_of_zero_le h0;obtain⟨q,rfl⟩:=Int.eq_ofNat_of_zero_le h2;unfold ior;rw [BitVec.toNat_or,BitVec.toNat_ofInt,BitVec.toNat_ofInt,show IntKind.i64.bits=64 from rfl];have e1:(((p:Int)*1048576) %((2^64:Nat):Int)).toNat=2^20*p:=by omega
 have e2:((q:Int) %((2^64:Nat):Int)).toNat=q:=by omega
 rw [e1,e2,<-Nat.two_pow_add_eq_or_of_lt (by omega),a5o (by omega) (by omega)];omega
theorem c2c{x y:Int}(h0:0<=x)(h1:x<=9223372036854775807)(h2:0<y):quo .i64 x y=some (x/y):=by
 unfold quo;have h3:=Int.ediv_nonneg h0 (Int.le_of_lt h2);have h4:=Int.ediv_le_self y h0;rw [if_neg (by omega),Int.tdiv_eq_ediv_of_nonneg h0,a5o (by omega) (by omega)]
theorem c2h{x y:Int}(h0:0<=x)(h2:0<y):rem x y=some (x %y):=by
 unfold rem;rw [if_neg (by omega),Int.tmod_eq_emod_of_nonneg h0]
section
variable{α:Type}
theorem a9n(l:List α)(i:Nat):ix l (i:Int)=l[i]?:=by simp [ix]
theorem a5e(p:List α)(x:α)(s:List α){i:Int}(hi:i=p.length):ix (p++x::s) i=some x:=by
 subst hi;rw [a9n];simp
theorem a9m(p:List α)(x y:α)(s:List α){i:Int}(hi:i=p.length):lset (p++x::s) i y=some (p++y::s):=by
 subst hi;unfold lset;rw [if_pos ⟨by omega,by simp;omega⟩];simp
theorem c7f{b:Nat}{z:α}{n:Nat}(h:n*b<=140737488355328):mks b z (n:Int)=some (List.replicate n z):=by
 unfold mks;rw [if_pos ⟨by omega,by simpa using h⟩];simp
theorem c1k{b:Nat}{l m:List α}(h:(l.length+m.length)*b<=140737488355328):app b l m=some (l++m):=by unfold app;rw [if_pos h]
theorem d1r{l:List α}{p q:Nat}(h:p<=q)(h2:q<=l.length):lsl l (p:Int) (q:Int)=some ((l.take q).drop p):=by
 unfold lsl;rw [if_pos ⟨by omega,by omega,by omega⟩];simp
end
end Rt
namespace M
open Go Go.RowKit Go.Shelf Rt
set_option linter.unusedVariables false
def growA_ren:Go.Shelf.Ren:=⟨fun|4=>219|n=>n,fun|22=>57|25=>62|n=>n,fun n=>n⟩
theorem growA:Lays8.n4 Tryz.prog growA_ren:={
 mixed:=by kernel_rfl
 f4:=⟨Tryz.f219.name,by kernel_rfl,Tryz.func219.trans (congrArg some (by kernel_rfl))⟩
 t0:=by kernel_rfl
 a0:=fun _=>by kernel_rfl
 z0:=fun _=>by kernel_rfl
 v0:=fun _=>by kernel_rfl
 t3:=by kernel_rfl
 a3:=fun _=>by kernel_rfl
 z3:=fun _=>by kernel_rfl
 v3:=fun _=>by kernel_rfl
 t4:=by kernel_rfl
 a4:=fun _=>by kernel_rfl
 z4:=fun _=>by kernel_rfl
 v4:=fun _=>by kernel_rfl
 t9:=by kernel_rfl
 a9:=fun _=>by kernel_rfl
 z9:=fun _=>by kernel_rfl
 v9:=fun _=>by kernel_rfl
 t20:=by kernel_rfl
 a20:=fun _=>by kernel_rfl
 z20:=fun _=>by kernel_rfl
 v20:=fun _=>by kernel_rfl
 t22:=by kernel_rfl
 a22:=fun _=>by kernel_rfl
 z22:=fun _=>by kernel_rfl
 v22:=fun _=>by kernel_rfl}
def growB_ren:Go.Shelf.Ren:=⟨fun|4=>197|n=>n,fun|22=>32|25=>57|n=>n,fun n=>n⟩
theorem growB:Lays8.n4 Tryz.prog growB_ren:={
 mixed:=by kernel_rfl
 f4:=⟨Tryz.f197.name,by kernel_rfl,Tryz.func197.trans (congrArg some (by kernel_rfl))⟩
 t0:=by kernel_rfl
 a0:=fun _=>by kernel_rfl
 z0:=fun _=>by kernel_rfl
 v0:=fun _=>by kernel_rfl
 t3:=by kernel_rfl
 a3:=fun _=>by kernel_rfl
 z3:=fun _=>by kernel_rfl
 v3:=fun _=>by kernel_rfl
 t4:=by kernel_rfl
 a4:=fun _=>by kernel_rfl
 z4:=fun _=>by kernel_rfl
 v4:=fun _=>by kernel_rfl
 t9:=by kernel_rfl
 a9:=fun _=>by kernel_rfl
 z9:=fun _=>by kernel_rfl
 v9:=fun _=>by kernel_rfl
 t20:=by kernel_rfl
 a20:=fun _=>by kernel_rfl
 z20:=fun _=>by kernel_rfl
 v20:=fun _=>by kernel_rfl
 t22:=by kernel_rfl
 a22:=fun _=>by kernel_rfl
 z22:=fun _=>by kernel_rfl
 v22:=fun _=>by kernel_rfl}
theorem e7t{ρ:Ren}(L:Lays8.n4 Tryz.prog ρ)(hE:Ent Tryz.prog (ρ.f 4)){α:Type}{c q:Nat}(x:List α)(k:Int)(r:List α)(hm:b5b 0 x k=some r){i0:TypeInfo}{z:Value}(hi:Tryz.prog.info? (ρ.t 25)=some i0)(hz:i0.zero=some z)(hs:i0.size=q)(hq:0<q)(hq2:q<=16)(hb:i0.bytes<=128)(hzc:z.cells.size=q)
 {w:World} {F:Frz} (hF:Sat F w) {rp:Rp α} (hrp:rp.k=q):Calls Tryz.prog (ρ.f 4) #[.slice none 0 0,.int .i64 k] w fun e w'=>∃v F' a m n xs,e= .returned v/\HS F w [] F' [.row (ρ.t 25) q a m n xs] w'/\RowN rp F' m xs r/\v= .slice a m n:=by
 unfold b5b at hm;split at hm
 ·split at hm
  ·rename_i h0;cases hm;obtain⟨p,rfl⟩:=Int.eq_ofNat_of_zero_le h0.1;rcases Nat.eq_zero_or_pos p with rfl|hp
   ·refine(Any8.slices_Grow_room L none 0 0 0 w (Nat.le_refl _) (by decide) (by decide) (Nat.le_refl _)).mono ?_;rintro e w' ⟨rfl,rfl⟩;exact⟨_,F,none,0,0,[],rfl,(HS.init hF).nilRow _ _,⟨rfl,rfl⟩,rfl⟩
   have hp1:p<=1000000:=by omega
   have hmul:(0+p)*i0.bytes<=140737488355328:=by
    have:=Nat.mul_le_mul hp1 hb;rw [Nat.zero_add];omega
   refine(Any8.slices_Grow_grow L i0 z hi hz (by omega) none 0 0 p [] w (Nat.le_refl _) (by omega) hmul (by omega) (by simp) (fun _=>rfl) (fun a ha=>by cases ha)).mono ?_;rintro e w' ⟨rfl,rfl⟩;have hG:=grownCap_ge w (0+p) 0 (ρ.t 25);have hG2:=grownCap_le_maxLen w (0+p) 0 (ρ.t 25) (by unfold maxLen;omega);refine⟨_,F,some ⟨w.heap.size,0,none⟩,0,_,[],rfl,?_,⟨rfl,rfl⟩,rfl⟩;refine((HS.init hF).drew).add (e':= .row (ρ.t 25) q (some ⟨w.heap.size,0,none⟩) 0 _ []) (World.grownBy_alloc _ _ none) ?_ (by intro b hb;simp only [OE.blk,Value.ownBlock,Option.some.injEq]at hb;subst hb;exact Nat.le_refl _);refine⟨by simp,.inr ⟨w.heap.size,_,_,rfl,Nat.zero_le _,heap_alloc_new _ _,Nat.zero_le _,hG2,?_,by simp⟩⟩;simp only [Array.size_append,List.size_toArray,List.length_nil,size_zeroCells,hzc,Nat.zero_add,Nat.sub_zero]at hG⊢;rw [<-Nat.add_mul,Nat.add_sub_cancel' hG]
  cases hm
 cases hm
theorem f3q{t el:TypeId}{q b:Nat}(h:Wt.app t=some (el,q,b)):AppIs Tryz.prog t el q b:=Wt.appOk h
def b2k(_n:Nat)(x1:Int)(y1:Int):Option (Int×Int):= (shr .u64 x1 32).bind fun q1=> (shr .u64 y1 32).bind fun q2=> (shr .u64 (imul .u64 (iand .u64 x1 4294967295) (iand .u64 y1 4294967295)) 32).bind fun q3=> (shr .u64 (iadd .u64 (imul .u64 q1 (iand .u64 y1 4294967295)) q3) 32).bind fun q4=> (shr .u64 (iadd .u64 (iand .u64 (iadd .u64 (imul .u64 q1 (iand .u64 y1 4294967295)) q3) 4294967295) (imul .u64 (iand .u64 x1 4294967295) q2)) 32).bind fun q5=> some (iadd .u64 (iadd .u64 (imul .u64 q1 q2) q4) q5,imul .u64 x1 y1)
theorem c2l(n:Nat)(x1:Int)(y1:Int):FnC Wt 139 [.int .u64 x1,.int .u64 y1] (b2k n x1 y1) (fun r=> .tup [.int .u64 r.1,.int .u64 r.2]):=by
 refine fk (n:=51) Tryz.func139 fun F0 w0 r=> ?_;unfold b2k;refine gV Y fun q1=> ?_;refine gV Y fun q2=> ?_;refine gV Y fun q3=> ?_;refine gV Y fun q4=> ?_;refine gV Y fun q5=> ?_;exact gr
def b0a(n:Nat)(x1:Int)(y1:Int):Option (Int×Int):=(b2k n x1 y1).bind fun v1=>some (v1.1,v1.2)
theorem c6l(n:Nat)(x1:Int)(y1:Int):FnC Wt 71 [.int .u64 x1,.int .u64 y1] (b0a n x1 y1) (fun r=> .tup [.int .u64 r.1,.int .u64 r.2]):=by
 refine fk (n:=30) Tryz.func71 fun F0 w0 r=> ?_;unfold b0a;refine gK (c2l _ _ _) Y Y Y fun v1=> ?_;exact gr
def d2s(kont:List Frac->Option (List Frac)):Nat->List Frac->Int->Option (List Frac) |0,_,_=>none |m+1,row,j=> bif decide (j<(row.length:Int))then (wsl row.length j row.length).bind fun _=> (wsl row.length 0 j).bind fun _=> d2s kont m (cpy row j.toNat ((row.drop 0).take (Nat.min (j.toNat-0) (row.length-j.toNat)))) (iadd .i64 j (Nat.min (j.toNat-0) (row.length-j.toNat):Nat)) else kont row
def repM(x:List Frac)(k:Int):Option (List Frac):= bif decide (k<0)then none else (b0a 0 (IntKind.u64.wrap (x.length:Int)) (IntKind.u64.wrap k)).bind fun v=> (bif decide (0<v.1)then some true else some (decide (9223372036854775807<v.2))).bind fun b=> bif b then none else (mks 64 (⟨⟨0,[]⟩,⟨0,[]⟩⟩:Frac) (IntKind.i64.wrap v.2)).bind fun row=> d2s some 1001 (cpy row 0 (x.take row.length)) (Nat.min x.length row.length:Nat)
theorem e3k(x:List Frac)(k:Int):FnO Wt 37 [.sl 3 x,.int .i64 k] (repM x k) 44 4 3 (fun r=>r):=by
 refine b7j (n:=48) Tryz.func37 Y Y Y (fun _ _=>by kernel_rfl) fun F0 w0 r=> ?_;unfold repM;refine gc Y ?_ ?_
 ·exact gNo
 refine gK (c6l _ _ _) Y Y Y fun v=> ?_;refine gd Y ?_ ?_
 ·refine gB ?_;refine gT ?_;exact gNo
 refine gB ?_;refine gc Y ?_ ?_
 ·exact gNo
 refine gMk wzOk Y fun row=> ?_;refine gCp Y ?_;refine a1h ((fun k0 m(s:List Frac×Int)=>d2s k0 m s.1 s.2) _) (fun s=> [.r 7 3 s.1,.v 8 (.int .i64 s.2)]) (fun _=>Y) (_,_) Y Y (fun _=>Y) Y fun K1 m1 hK1 z1=> ?_;obtain⟨row2,j⟩:=z1;dsimp only;refine gc Y ?_ ?_
 ·refine gHs [(9,pL [0,2,4,6,8,10,12,15,17,19] .nil)] Y (by kernel_rfl) Y Y fun Ky=> ?_;refine gSw Y fun _=> ?_;refine gSw Y fun _=> ?_;refine gCp Y ?_;refine gHe Y ?_;exact gE hK1 (_,_) Y Y
 exact gRO Y
theorem mul_one:∀k:Nat,k<1001->b0a 0 (IntKind.u64.wrap 1) (IntKind.u64.wrap k)=some (0,(k:Int))/\IntKind.i64.wrap (k:Int)=k:=by
 have h:((List.range 1001).all fun k=>decide (b0a 0 (IntKind.u64.wrap 1) (IntKind.u64.wrap (k:Int))=some (0,(k:Int)))&&decide (IntKind.i64.wrap (k:Int)=k))=true:=by kernel_rfl
 intro k hk;have:=List.all_eq_true.1 h k (List.mem_range.2 hk);simpa using this
theorem f2w(a z:Frac)(k:Nat)(hk:k<=1000):∀(m j:Nat),1<=j->j<=k->k-j<m->d2s some m (List.replicate j a++List.replicate (k-j) z) (j:Int)=some (List.replicate k a)
 |0,j,_,_,h=>by omega
 |m+1,j,h1,h2,h3=>by
  have hlen:(List.replicate j a++List.replicate (k-j) z).length=k:=by simp;omega
  unfold d2s;rw [hlen]
  by_cases hj:j<k
  ·have w1:wsl k (j:Int) (k:Int)=some ():=by unfold wsl;rw [if_pos ⟨by omega,by omega,by omega,by omega⟩]
   have w2:wsl k 0 (j:Int)=some ():=by unfold wsl;rw [if_pos ⟨by omega,by omega,by omega,by omega⟩]
   have hmin:Nat.min j (k-j)<=j:=Nat.min_le_left ..;have hmin2:Nat.min j (k-j)<=k-j:=Nat.min_le_right ..;have hpos:1<=Nat.min j (k-j):=by show 1<=min j (k-j);omega
   have hc:cpy (List.replicate j a++List.replicate (k-j) z) j (((List.replicate j a++List.replicate (k-j) z).drop 0).take (Nat.min j (k-j)))=List.replicate (j+Nat.min j (k-j)) a++List.replicate (k-(j+Nat.min j (k-j))) z:=by
    generalize Nat.min j (k-j)=q at hmin hmin2 hpos;have e1:(List.replicate j a++List.replicate (k-j) z).take j=List.replicate j a:=List.take_left' (by simp);have e2:(List.replicate j a++List.replicate (k-j) z).take q=List.replicate q a:=by
     rw [List.take_append_of_le_length (by rw [List.length_replicate];exact hmin),List.take_replicate,Nat.min_eq_left hmin]
    have e4:(List.replicate j a++List.replicate (k-j) z).drop j=List.replicate (k-j) z:=List.drop_left' (by simp);unfold cpy;rw [List.drop_zero,e1,e2,List.length_replicate,<-List.drop_drop,e4,List.drop_replicate,List.replicate_append_replicate,Nat.sub_sub]
   rw [decide_eq_true (by omega),cond_true,w1,b_s,w2,b_s,Int.toNat_natCast,Nat.sub_zero,hc];have hadd:iadd .i64 (j:Int) ((Nat.min j (k-j):Nat):Int)=((j+Nat.min j (k-j):Nat):Int):=by rw [a1k (by omega) (by omega)];omega
   rw [hadd];exact f2w a z k hk m (j+Nat.min j (k-j)) (by omega) (by omega) (by omega)
  obtain rfl:j=k:=by omega
  rw [decide_eq_false (by omega),cond_false,Nat.sub_self];simp
theorem f4e{n:Nat}{x:List Frac}{k:Int}{r:List Frac}(h:a2m n x k=some r):repM x k=some r:=by
 unfold a2m at h;split at h
 ·rename_i a;split at h
  ·rename_i h0;cases h;obtain⟨p,rfl⟩:=Int.eq_ofNat_of_zero_le h0.1;have hp:p<=1000:=by omega
   obtain⟨m1,m2⟩:=mul_one p (by omega);unfold repM;rw [decide_eq_false (by omega),cond_false,show(([a]:List Frac).length:Int)=1 from rfl,m1,b_s];have d:decide ((9223372036854775807:Int)<(p:Int))=false:=decide_eq_false (by omega);have e1:mks 64 (⟨⟨0,[]⟩,⟨0,[]⟩⟩:Frac) (p:Int)=some (List.replicate p ⟨⟨0,[]⟩,⟨0,[]⟩⟩):=by
    unfold mks;rw [if_pos ⟨by omega,by omega⟩];simp
   show(some (decide ((9223372036854775807:Int)<(p:Int)))).bind _=_;rw [d,b_s,cond_false,m2,e1,b_s,Int.toNat_natCast,List.length_replicate];rcases Nat.eq_zero_or_pos p with rfl|hpos
   ·rfl
   have hc:cpy (List.replicate p (⟨⟨0,[]⟩,⟨0,[]⟩⟩:Frac)) 0 (([a]:List Frac).take p)=List.replicate 1 a++List.replicate (p-1) ⟨⟨0,[]⟩,⟨0,[]⟩⟩:=by
    unfold cpy;rw [List.take_of_length_le (show [a].length<=p from hpos),List.take_zero,List.drop_replicate];rfl
   have hm:Nat.min [a].length p=1:=Nat.min_eq_left hpos;rw [hc,hm];exact f2w a _ p hp 1001 1 (by omega) hpos (by omega)
  cases h
 cases h
theorem b6j(n:Nat)(x:List Frac)(k:Int):FnO Wt 37 [.sl 3 x,.int .i64 k] (a2m n x k) 44 4 3 (fun r=>r):=⟨(e3k x k).1,fun r hm=>(e3k x k).2 r (f4e hm)⟩
theorem b2h(n:Nat)(x:List Frac)(k:Int):FnC Wt 37 [.sl 3 x,.int .i64 k] (a2m n x k) (fun r=> .sl 3 r):=⟨(e3k x k).1,fun r hm w F hs hg us hu=>((b6j n x k).2 r hm w F hs hg us hu).mono fun e w'⟨v,F',a,m,nn,xs,e1,e2,e3,e4⟩=>by
 obtain⟨F2,h1,h2,h3⟩:=frzO e2 e3;exact⟨v,F2,e1,h2,a,m,nn,e4,h3⟩⟩
theorem c5v(n:Nat)(x:List Afn)(k:Int):FnO Wt 219 [.val (.slice none 0 0),.int .i64 k] (b5f n x k) 62 5 5 (fun r=>r):=⟨fun _ _=>by kernel_rfl,fun r hm w F hs hg us hu=>by
 obtain⟨_,_,rfl,rfl,_,_,rfl,rfl,rfl⟩:=hu;obtain⟨i0,z,hi,hz,h1,h2,h3⟩:=(f3q (show Wt.app 57=some (62,5,88)from rfl)).info;exact e7t growA (fun _ _=>by kernel_rfl) (c:=5) x k r hm hi hz h1 (by decide) (by decide) (by omega) (by rw [h3]) hs (rp:=rp_Affine) rfl⟩
theorem c5h(n:Nat)(x:List (List Afn))(k:Int):FnO Wt 197 [.val (.slice none 0 0),.int .i64 k] (b5a n x k) 57 1 4 (fun r=>r):=⟨fun _ _=>by kernel_rfl,fun r hm w F hs hg us hu=>by
 obtain⟨_,_,rfl,rfl,_,_,rfl,rfl,rfl⟩:=hu;obtain⟨i0,z,hi,hz,h1,h2,h3⟩:=(f3q (show Wt.app 32=some (57,1,24)from rfl)).info;exact e7t growB (fun _ _=>by kernel_rfl) (c:=4) x k r hm hi hz h1 (by decide) (by decide) (by omega) (by rw [h3]) hs (rp:=Rp.sl rp_Affine) rfl⟩
end M
namespace M
open Go Go.RowKit Rt
set_option maxRecDepth 1000000
set_option maxHeartbeats 40000000
theorem a9p(n:Nat)(mx1:maker)(c1:Frac):FnL Wt 74 77 [.sl 1 mx1.nz,.sl 2 mx1.facts.Lifts,.int .i64 mx1.facts.Persons,.int .i64 mx1.facts.Flats,.ob mx1.full] [.bx 0 0,.agg [.int .i64 c1.P.Sign,.sl 2 c1.P.Digits,.int .i64 c1.Q.Sign,.sl 2 c1.Q.Digits]] (a0x n mx1 c1) (fun r=> [.sl 1 r.1.nz,.sl 2 r.1.facts.Lifts,.int .i64 r.1.facts.Persons,.int .i64 r.1.facts.Flats,.ob r.1.full]) (fun r=> .agg [.sl 4 r.2.Pieces]):=by
 refine b0f (n:=18) Tryz.func74 Y Y Y (fun _ _=>by kernel_rfl) fun F0 w0 b r=> ?_;unfold a0x;refine gHs [(1,(pL [0,6,8,10,12,14,3,5,17,19,21,23,25,27] .nil))] Y (by kernel_rfl) Y Y fun Ky=> ?_;refine gK (a6h _ _) Y Y Y fun v1=> ?_;refine gK (b2h _ _ _) Y Y Y fun v2=> ?_;refine gZ Y ?_;refine gHe Y ?_;exact gRL Y Y Y Y Y
theorem a6b(n:Nat)(mx1:maker)(x1:Expr):FnL Wt 75 77 [.sl 1 mx1.nz,.sl 2 mx1.facts.Lifts,.int .i64 mx1.facts.Persons,.int .i64 mx1.facts.Flats,.ob mx1.full] [.bx 0 0,.agg [.int .i64 x1.Op,.int .i64 x1.N,.str x1.Name,.sl 0 x1.Args]] (a2h n mx1 x1) (fun r=> [.sl 1 r.1.nz,.sl 2 r.1.facts.Lifts,.int .i64 r.1.facts.Persons,.int .i64 r.1.facts.Flats,.ob r.1.full]) (fun r=> .agg [.int .i64 r.2.P.Sign,.sl 2 r.2.P.Digits,.int .i64 r.2.Q.Sign,.sl 2 r.2.Q.Digits]):=by
 refine b0f (n:=32) Tryz.func75 Y Y Y (fun _ _=>by kernel_rfl) fun F0 w0 b r=> ?_;unfold a2h;cases x1;refine gHs [(1,(pL [4,6,8,10,12,1,3,15,17] .nil)),(2,(pL [0,2,4,6,8,10,12,14,16,18,20] (.two 11 15 (pL [24,26,28,31,33,35] .nil) (pL [23,25,26,28,33,35] .nil))))] Y (by kernel_rfl) Y Y fun Ky=> ?_;refine gK (a6h _ _) Y Y Y fun v1=> ?_;refine gK (b2h _ _ _) Y Y Y fun v2=> ?_;refine gA ?_;refine gHe Y ?_;refine gHs [(1,(pL [4,6,8,10,12,1,3,15,17] .nil)),(2,(pL [0,2,4,6,8,10,12,14,16,18,20] (.two 11 15 (pL [24,26,28,31,33,35] .nil) (pL [23,25,26,28,33,35] .nil))))] Y (by kernel_rfl) Y Y fun Ky=> ?_;refine gH2 Y ?_ ?_;all_goals
  refine gK (c5a _ _ _ _ _) Y Y Y fun v3=> ?_;refine gB ?_;refine gHe Y ?_;exact gRL Y Y Y Y Y
theorem b8g(n:Nat)(mx1:maker)(x1:Expr):FnL Wt 77 77 [.sl 1 mx1.nz,.sl 2 mx1.facts.Lifts,.int .i64 mx1.facts.Persons,.int .i64 mx1.facts.Flats,.ob mx1.full] [.bx 0 0,.agg [.int .i64 x1.Op,.int .i64 x1.N,.str x1.Name,.sl 0 x1.Args]] (a5t n mx1 x1) (fun r=> [.sl 1 r.1.nz,.sl 2 r.1.facts.Lifts,.int .i64 r.1.facts.Persons,.int .i64 r.1.facts.Flats,.ob r.1.full]) (fun r=> .ob r.2):=by
 refine b0f (n:=18) Tryz.func77 Y Y Y (fun _ _=>by kernel_rfl) fun F0 w0 b r=> ?_;unfold a5t;cases x1;refine gN (a6b _ _ _) Y Y Y Y Y fun v1=> ?_;refine gK (b9s _ _) Y Y Y fun v2=> ?_;exact gRL Y Y Y Y Y
theorem b2n(n:Nat)(mx1:maker)(x1:Expr):FnL Wt 73 77 [.sl 1 mx1.nz,.sl 2 mx1.facts.Lifts,.int .i64 mx1.facts.Persons,.int .i64 mx1.facts.Flats,.ob mx1.full] [.bx 0 0,.agg [.int .i64 x1.Op,.int .i64 x1.N,.str x1.Name,.sl 0 x1.Args]] (a3s n mx1 x1) (fun r=> [.sl 1 r.1.nz,.sl 2 r.1.facts.Lifts,.int .i64 r.1.facts.Persons,.int .i64 r.1.facts.Flats,.ob r.1.full]) (fun r=> .int .i64 r.2):=by
 refine b0f (n:=17) Tryz.func73 Y Y Y (fun _ _=>by kernel_rfl) fun F0 w0 b r=> ?_;unfold a3s;refine gG Y (by kernel_rfl) ?_;refine gQ (c9c _ _ _) Y Y Y (fun _=>Y) fun v1=> ?_;exact gRL Y Y Y Y Y
theorem b7a(n:Nat)(ax1:Afn)(f1:(Int->Frac->Option Frac)):FnH Wt 194 [.agg [.int .i64 ax1.Const.P.Sign,.sl 2 ax1.Const.P.Digits,.int .i64 ax1.Const.Q.Sign,.sl 2 ax1.Const.Q.Digits,.sl 3 ax1.Coefs]] ⟨Int×Frac,Frac,fun q=> [.int .i64 q.1,.agg [.int .i64 q.2.P.Sign,.sl 2 q.2.P.Digits,.int .i64 q.2.Q.Sign,.sl 2 q.2.Q.Digits]],fun q=>f1 q.1 q.2,fun r=> .agg [.int .i64 r.P.Sign,.sl 2 r.P.Digits,.int .i64 r.Q.Sign,.sl 2 r.Q.Digits]⟩ (a7z n ax1 f1) (fun r=> .agg [.int .i64 r.Const.P.Sign,.sl 2 r.Const.P.Digits,.int .i64 r.Const.Q.Sign,.sl 2 r.Const.Q.Digits,.sl 3 r.Coefs]):=by
 refine b4d (n:=32) Tryz.func194 Y Y Y (fun _ _=>by kernel_rfl) fun F0 w0 r u=> ?_;unfold a7z;refine gKv (T:=Wt) (Φ:=⟨Int×Frac,Frac,fun q=> [.int .i64 q.1,.agg [.int .i64 q.2.P.Sign,.sl 2 q.2.P.Digits,.int .i64 q.2.Q.Sign,.sl 2 q.2.Q.Digits]],fun q=>f1 q.1 q.2,fun r=> .agg [.int .i64 r.P.Sign,.sl 2 r.P.Digits,.int .i64 r.Q.Sign,.sl 2 r.Q.Digits]⟩) (u:=u) ((-1),ax1.Const) Y Y Y fun v1=> ?_;refine a1h ((fun k0 m(s:Int×List Frac)=>minmax_affine_L1 n ax1 f1 k0 m s.1 s.2) _) (fun(s:Int×List Frac)=> [.br 5 4 3 s.2,.v 16 (.int .i64 s.1)]) (fun _=>Y) (_,_) Y Y (fun _=>Y) Y fun K1 m1 hK1 z1=> ?_;obtain⟨i1,l1⟩:=z1;dsimp only;refine gc Y ?_ ?_
 ·refine gV Y fun ex1=> ?_;refine gHs [(5,(pL [0,4,6,8] (.two 1 5 (pL [11,13,15,17,19] .nil) (pL [] (.two 1 6 (pL [13,15,17,19] .nil) (pL [3,15,17,19] .nil))))))] Y (by kernel_rfl) Y Y fun Ky=> ?_;refine gH2 Y ?_ ?_;all_goals
   refine gKv (T:=Wt) (Φ:=⟨Int×Frac,Frac,fun q=> [.int .i64 q.1,.agg [.int .i64 q.2.P.Sign,.sl 2 q.2.P.Digits,.int .i64 q.2.Q.Sign,.sl 2 q.2.Q.Digits]],fun q=>f1 q.1 q.2,fun r=> .agg [.int .i64 r.P.Sign,.sl 2 r.P.Digits,.int .i64 r.Q.Sign,.sl 2 r.Q.Digits]⟩) (u:=u) (i1,ex1) Y Y Y fun v2=> ?_;try refine gH2 rfl ?_ ?_
   all_goals
    refine gP Y fun l3=> ?_;refine gHe Y ?_;exact ge hK1 (_,_)
 exact gr
theorem c3o(n:Nat)(p1:Int)(x1:Frac)(cap1:Frac):FnC Wt 195 [.int .i64 p1,.agg [.int .i64 x1.P.Sign,.sl 2 x1.P.Digits,.int .i64 x1.Q.Sign,.sl 2 x1.Q.Digits],.fb [.int .i64 cap1.P.Sign,.sl 2 cap1.P.Digits,.int .i64 cap1.Q.Sign,.sl 2 cap1.Q.Digits] 0] (a5z n p1 x1 cap1) (fun r=> .agg [.int .i64 r.P.Sign,.sl 2 r.P.Digits,.int .i64 r.Q.Sign,.sl 2 r.Q.Digits]):=by
 refine fk (n:=15) Tryz.func195 fun F0 w0 r=> ?_;unfold a5z;refine gK (c1v _ _ _) Y Y Y fun v1=> ?_;exact gr
theorem b8p(n:Nat)(ax1:Afn)(byx1:Frac):FnC Wt 142 [.agg [.int .i64 ax1.Const.P.Sign,.sl 2 ax1.Const.P.Digits,.int .i64 ax1.Const.Q.Sign,.sl 2 ax1.Const.Q.Digits,.sl 3 ax1.Coefs],.agg [.int .i64 byx1.P.Sign,.sl 2 byx1.P.Digits,.int .i64 byx1.Q.Sign,.sl 2 byx1.Q.Digits]] (a6p n ax1 byx1) (fun r=> .agg [.int .i64 r.Const.P.Sign,.sl 2 r.Const.P.Digits,.int .i64 r.Const.Q.Sign,.sl 2 r.Const.Q.Digits,.sl 3 r.Coefs]):=by
 refine fk (n:=8) Tryz.func142 fun F0 w0 r=> ?_;unfold a6p;refine gFc Y Y ?_;refine gKh (b7a n _ (fun(q0:Int)(q1:Frac)=>a5z n q0 q1 byx1)) Y Y Y (fvA Y Y (fun q=>c3o n q.1 q.2 byx1) default) fun v1=> ?_;exact gr
theorem c7r(n:Nat)(i1:Int)(x1:Frac)(cap1:Afn):FnC Wt 220 [.int .i64 i1,.agg [.int .i64 x1.P.Sign,.sl 2 x1.P.Digits,.int .i64 x1.Q.Sign,.sl 2 x1.Q.Digits],.fb [.int .i64 cap1.Const.P.Sign,.sl 2 cap1.Const.P.Digits,.int .i64 cap1.Const.Q.Sign,.sl 2 cap1.Const.Q.Digits,.sl 3 cap1.Coefs] 0] (a7p n i1 x1 cap1) (fun r=> .agg [.int .i64 r.P.Sign,.sl 2 r.P.Digits,.int .i64 r.Q.Sign,.sl 2 r.Q.Digits]):=by
 refine fk (n:=25) Tryz.func220 fun F0 w0 r=> ?_;unfold a7p;refine gM (fun j1=> [.b 6 [.int .i64 j1.1,.sl 2 j1.2.1,.int .i64 j1.2.2.1,.sl 2 j1.2.2.2]]) Y (fun _=>Y) (fun J1 hJ1=> ?_) (fun j1=> ?_)
 ·refine gd Y ?_ ?_
  ·refine gA ?_;refine gV Y fun ex1=> ?_;exact gx hJ1
  exact gx hJ1
 obtain⟨f1,f2,f3,f4⟩:=j1;dsimp only;refine gK (b8c _ _ _) Y Y Y fun v1=> ?_;exact gr
theorem d2n(n:Nat)(ax1:Afn)(b1:Afn):FnC Wt 199 [.agg [.int .i64 ax1.Const.P.Sign,.sl 2 ax1.Const.P.Digits,.int .i64 ax1.Const.Q.Sign,.sl 2 ax1.Const.Q.Digits,.sl 3 ax1.Coefs],.agg [.int .i64 b1.Const.P.Sign,.sl 2 b1.Const.P.Digits,.int .i64 b1.Const.Q.Sign,.sl 2 b1.Const.Q.Digits,.sl 3 b1.Coefs]] (b1t n ax1 b1) (fun r=> .agg [.int .i64 r.Const.P.Sign,.sl 2 r.Const.P.Digits,.int .i64 r.Const.Q.Sign,.sl 2 r.Const.Q.Digits,.sl 3 r.Coefs]):=by
 refine fk (n:=8) Tryz.func199 fun F0 w0 r=> ?_;unfold b1t;refine gFc Y Y ?_;refine gKh (b7a n _ (fun(q0:Int)(q1:Frac)=>a7p n q0 q1 b1)) Y Y Y (fvA Y Y (fun q=>c7r n q.1 q.2 b1) default) fun v1=> ?_;exact gr
theorem a8a(n:Nat)(f1:Form):FnC Wt 145 [.agg [.sl 4 f1.Pieces]] (a4g n f1) (fun r=> .int .i64 r):=by
 refine fk (n:=19) Tryz.func145 fun F0 w0 r=> ?_;unfold a4g;refine a1h ((fun k0 m(s:Int×Int)=>minmax_size_L1 n f1 k0 m s.1 s.2) _) (fun(s:Int×Int)=> [.v 3 (.int .i64 s.1),.v 9 (.int .i64 s.2)]) (fun _=>Y) (_,_) Y Y (fun _=>Y) Y fun K1 m1 hK1 z1=> ?_;obtain⟨nx1,i1⟩:=z1;dsimp only;refine gc Y ?_ ?_
 ·refine gV Y fun ex1=> ?_;exact ge hK1 (_,_)
 exact gr
theorem a6u(n:Nat)(mx1:maker)(nx1:Int):FnL Wt 146 77 [.sl 1 mx1.nz,.sl 2 mx1.facts.Lifts,.int .i64 mx1.facts.Persons,.int .i64 mx1.facts.Flats,.ob mx1.full] [.bx 0 0,.int .i64 nx1] (a2d n mx1 nx1) (fun r=> [.sl 1 r.1.nz,.sl 2 r.1.facts.Lifts,.int .i64 r.1.facts.Persons,.int .i64 r.1.facts.Flats,.ob r.1.full]) (fun r=> .ob r.2):=by
 refine b0f (n:=21) Tryz.func146 Y Y Y (fun _ _=>by kernel_rfl) fun F0 w0 b r=> ?_;unfold a2d;refine gJ 3 (fun v1=> [.v 13 (.ob v1)]) Y (fun _=>Y) (fun J1 hJ1=> ?_) (fun v1=> ?_)
 ·refine gd Y ?_ ?_
  ·exact gx hJ1
  exact gx hJ1
 exact gRL Y Y Y Y Y
theorem b2l(n:Nat)(f1:Form)(byx1:Frac):FnC Wt 79 [.agg [.sl 4 f1.Pieces],.agg [.int .i64 byx1.P.Sign,.sl 2 byx1.P.Digits,.int .i64 byx1.Q.Sign,.sl 2 byx1.Q.Digits]] (a5j n f1 byx1) (fun r=> .agg [.sl 4 r.Pieces]):=by
 refine fk (n:=39) Tryz.func79 fun F0 w0 r=> ?_;unfold a5j;refine a1h ((fun k0 m(s:Int×List (List Afn)×(List (List Afn))×Int×(List Int)×Int×(List Int))=>minmax_scaled_L1 n f1 k0 m s.1 s.2.1 s.2.2.1 s.2.2.2.1 s.2.2.2.2.1 s.2.2.2.2.2.1 s.2.2.2.2.2.2) _) (fun(s:Int×List (List Afn)×(List (List Afn))×Int×(List Int)×Int×(List Int))=> [.b 3 [.int .i64 s.2.2.2.1,.sl 2 s.2.2.2.2.1,.int .i64 s.2.2.2.2.2.1,.sl 2 s.2.2.2.2.2.2],.b 4 [.sl 4 s.2.2.1],.br 5 0 4 s.2.1,.v 14 (.int .i64 s.1)]) (fun _=>Y) (_,_,_,_,_,_,_) Y Y (fun _=>Y) Y fun K1 m1 hK1 z1=> ?_;obtain⟨i1,l1,f2,f3,f4,f5,f6⟩:=z1;dsimp only;refine gc Y ?_ ?_
 ·refine gV Y fun ex1=> ?_;refine a1h ((fun k0 m(s:Int×List Afn)=>minmax_scaled_L2 n f3 f4 f5 f6 ex1 k0 m s.1 s.2) _) (fun(s:Int×List Afn)=> [.r 8 5 s.2,.v 20 (.int .i64 s.1)]) (fun _=>Y) (_,_) Y Y (fun _=>Y) Y fun K2 m2 hK2 z2=> ?_;obtain⟨i2,l3⟩:=z2;dsimp only;refine gc Y ?_ ?_
  ·refine gV Y fun ex2=> ?_;refine gK (b8p _ _ _) Y Y Y fun v1=> ?_;refine gP Y fun l6=> ?_;exact ge hK2 (_,_)
  refine gZ Y ?_;refine gP Y fun l5=> ?_;exact ge hK1 (_,_,_,_,_,_,_)
 exact gr
theorem a8r(n:Nat)(s1:(List Afn)):FnO Wt 196 [.sl 5 s1] (a0v n s1) 62 5 5 (fun r=>r):=⟨fun _ _=>by kernel_rfl,fun r hm w F hs hg us hu=>by
 obtain⟨_,_,rfl,⟨_,_,_,rfl,hs0⟩,rfl⟩:=hu;exact(a8k n s1 r hm hs hs0).mono fun e w'⟨v,F',O',e1,e2,⟨a,m,n,xs,e3,e4,e5⟩⟩=>⟨v,F',a,m,n,xs,e1,e4▸e2,e5,e3⟩⟩
theorem a9v(n:Nat)(mx1:maker)(f1:Form):FnL Wt 143 77 [.sl 1 mx1.nz,.sl 2 mx1.facts.Lifts,.int .i64 mx1.facts.Persons,.int .i64 mx1.facts.Flats,.ob mx1.full] [.bx 0 0,.agg [.sl 4 f1.Pieces]] (a1z n mx1 f1) (fun r=> [.sl 1 r.1.nz,.sl 2 r.1.facts.Lifts,.int .i64 r.1.facts.Persons,.int .i64 r.1.facts.Flats,.ob r.1.full]) (fun r=> .agg [.sl 4 r.2.Pieces]):=by
 refine b0f (n:=62) Tryz.func143 Y Y Y (fun _ _=>by kernel_rfl) fun F0 w0 b r=> ?_;unfold a1z;refine gFr 5 Y ?_;refine a1h ((fun k0 m(s:(List (List Afn))×Int×(List (List Afn))×(List (List Afn))×(List Bs)×(List Int)×Int×Int×Bool)=>minmax_maker_opposite_L1 n f1 k0 m s.1 s.2.1 s.2.2.1 s.2.2.2.1 s.2.2.2.2.1 s.2.2.2.2.2.1 s.2.2.2.2.2.2.1 s.2.2.2.2.2.2.2.1 s.2.2.2.2.2.2.2.2) _) (fun(s:(List (List Afn))×Int×(List (List Afn))×(List (List Afn))×(List Bs)×(List Int)×Int×Int×Bool)=> [.b 0 [.sl 1 s.2.2.2.2.1,.sl 2 s.2.2.2.2.2.1,.int .i64 s.2.2.2.2.2.2.1,.int .i64 s.2.2.2.2.2.2.2.1,.ob s.2.2.2.2.2.2.2.2],.b 3 [.sl 4 s.2.2.2.1],.b 4 [.sl 4 s.2.2.1],.v 5 (.sl 4 s.1),.v 17 (.int .i64 s.2.1)]) (fun _=>Y) (_,_,_,_,_,_,_,_,_) Y Y (fun _=>Y) Y fun K1 m1 hK1 z1=> ?_;obtain⟨choices1,i1,f2,f3,f4,f5,f6,f7,f8⟩:=z1;dsimp only;refine gc Y ?_ ?_
 ·refine gV Y fun ex1=> ?_;refine gN (a6u _ _ _) Y Y Y Y Y fun v1=> ?_;refine gc Y ?_ ?_
  ·exact gRL Y Y Y Y Y
  refine a1h ((fun k0 m(s:Int×List (List Afn)×(List (List Afn))×(List (List Afn))×(List Bs)×(List Int)×Int×Int×Bool)=>minmax_maker_opposite_L2 n choices1 ex1 k0 m s.1 s.2.1 s.2.2.1 s.2.2.2.1 s.2.2.2.2.1 s.2.2.2.2.2.1 s.2.2.2.2.2.2.1 s.2.2.2.2.2.2.2.1 s.2.2.2.2.2.2.2.2) _) (fun(s:Int×List (List Afn)×(List (List Afn))×(List (List Afn))×(List Bs)×(List Int)×Int×Int×Bool)=> [.b 0 [.sl 1 s.2.2.2.2.1,.sl 2 s.2.2.2.2.2.1,.int .i64 s.2.2.2.2.2.2.1,.int .i64 s.2.2.2.2.2.2.2.1,.ob s.2.2.2.2.2.2.2.2],.b 3 [.sl 4 s.2.2.2.1],.b 4 [.sl 4 s.2.2.1],.r 8 4 s.2.1,.v 36 (.int .i64 s.1)]) (fun _=>Y) (_,_,_,_,_,_,_,_,_) Y Y (fun _=>Y) Y fun K2 m2 hK2 z2=> ?_;obtain⟨i2,l1,f15,f16,f17,f18,f19,f20,f21⟩:=z2;dsimp only;refine gc Y ?_ ?_
  ·refine gV Y fun ex2=> ?_;refine a1h ((fun k0 m(s:Int×List (List Afn))=>minmax_maker_opposite_L3 n ex1 ex2 k0 m s.1 s.2) _) (fun(s:Int×List (List Afn))=> [.r 8 4 s.2,.v 42 (.int .i64 s.1)]) (fun _=>Y) (_,_) Y Y (fun _=>Y) Y fun K3 m3 hK3 z3=> ?_;obtain⟨i3,l3⟩:=z3;dsimp only;refine gc Y ?_ ?_
   ·refine gV Y fun ex3=> ?_;refine gHs [(14,(pL [0,2,6,5,9,11,13,15,17,19,21] .nil))] Y (by kernel_rfl) Y Y fun Ky=> ?_;refine gO (a8r _ _) Y Y Y fun v2=> ?_;refine gK (a6h _ _) Y Y Y fun v3=> ?_;refine gK (b8p _ _ _) Y Y Y fun v4=> ?_;refine gP Y fun l5=> ?_;refine gZ Y ?_;refine gP Y fun l6=> ?_;refine gHe Y ?_;exact ge hK3 (_,_)
   exact ge hK2 (_,_,_,_,_,_,_,_,_)
  refine gFr 5 Y ?_;exact ge hK1 (_,_,_,_,_,_,_,_,_)
 exact gRL Y Y Y Y Y
theorem a8i(n:Nat)(ax1:Form)(b1:Form)(piece1:((List Afn)->(List Afn)->Option (List Afn))):FnH Wt 148 [.agg [.sl 4 ax1.Pieces],.agg [.sl 4 b1.Pieces]] ⟨(List Afn)×(List Afn),(List Afn),fun q=> [.sl 5 q.1,.sl 5 q.2],fun q=>piece1 q.1 q.2,fun r=> .sl 5 r⟩ (a4k n ax1 b1 piece1) (fun r=> .agg [.sl 4 r.Pieces]):=by
 refine b4d (n:=38) Tryz.func148 Y Y Y (fun _ _=>by kernel_rfl) fun F0 w0 r u=> ?_;unfold a4k;refine a1h ((fun k0 m(s:Int×List (List Afn)×(List (List Afn))×(List (List Afn)))=>minmax_join_L1 n ax1 piece1 k0 m s.1 s.2.1 s.2.2.1 s.2.2.2) _) (fun(s:Int×List (List Afn)×(List (List Afn))×(List (List Afn)))=> [.b 4 [.sl 4 s.2.2.2],.b 6 [.sl 4 s.2.2.1],.br 7 0 4 s.2.1,.v 15 (.int .i64 s.1)]) (fun _=>Y) (_,_,_,_) Y Y (fun _=>Y) Y fun K1 m1 hK1 z1=> ?_;obtain⟨i1,l1,f1,f2⟩:=z1;dsimp only;refine gc Y ?_ ?_
 ·refine gV Y fun ex1=> ?_;refine a1h ((fun k0 m(s:Int×List (List Afn))=>minmax_join_L2 n piece1 f2 ex1 k0 m s.1 s.2) _) (fun(s:Int×List (List Afn))=> [.br 7 0 4 s.2,.v 22 (.int .i64 s.1)]) (fun _=>Y) (_,_) Y Y (fun _=>Y) Y fun K2 m2 hK2 z2=> ?_;obtain⟨i2,l3⟩:=z2;dsimp only;refine gc Y ?_ ?_
  ·refine gV Y fun ex2=> ?_;refine gHs [(8,(pL [0,4,6,8] (.two 1 5 (pL [11,13,15,17,19] .nil) (pL [] (.two 1 6 (pL [13,15,17,19] .nil) (pL [3,15,17,19] .nil))))))] Y (by kernel_rfl) Y Y fun Ky=> ?_;refine gH2 Y ?_ ?_;all_goals
    refine gKv (T:=Wt) (Φ:=⟨(List Afn)×(List Afn),(List Afn),fun q=> [.sl 5 q.1,.sl 5 q.2],fun q=>piece1 q.1 q.2,fun r=> .sl 5 r⟩) (u:=u) (ex1,ex2) Y Y Y fun v1=> ?_;try refine gH2 rfl ?_ ?_
    all_goals
     refine gP Y fun l5=> ?_;refine gHe Y ?_;exact ge hK2 (_,_)
  exact ge hK1 (_,_,_,_)
 exact gr
theorem b5e(n:Nat)(x1:(List Afn))(y1:(List Afn)):FnO Wt 150 [.sl 5 x1,.sl 5 y1] (a4z n x1 y1) 62 5 5 (fun r=>r):=by
 refine b7j (n:=31) Tryz.func150 Y Y Y (fun _ _=>by kernel_rfl) fun F0 w0 r=> ?_;unfold a4z;refine a1h ((fun k0 m(s:Int×List Afn)=>minmax_sums_L1 n x1 y1 k0 m s.1 s.2) _) (fun(s:Int×List Afn)=> [.r 5 5 s.2,.v 12 (.int .i64 s.1)]) (fun _=>Y) (_,_) Y Y (fun _=>Y) Y fun K1 m1 hK1 z1=> ?_;obtain⟨i1,l1⟩:=z1;dsimp only;refine gc Y ?_ ?_
 ·refine gV Y fun ex1=> ?_;refine a1h ((fun k0 m(s:Int×List Afn)=>minmax_sums_L2 n y1 ex1 k0 m s.1 s.2) _) (fun(s:Int×List Afn)=> [.r 5 5 s.2,.v 18 (.int .i64 s.1)]) (fun _=>Y) (_,_) Y Y (fun _=>Y) Y fun K2 m2 hK2 z2=> ?_;obtain⟨i2,l3⟩:=z2;dsimp only;refine gc Y ?_ ?_
  ·refine gV Y fun ex2=> ?_;refine gK (d2n _ _ _) Y Y Y fun v1=> ?_;refine gP Y fun l5=> ?_;exact ge hK2 (_,_)
  exact ge hK1 (_,_)
 exact gRO Y
theorem a8l(n:Nat)(slices1:(List (List Afn))):FnO Wt 198 [.sl 4 slices1] (a1m n slices1) 62 5 5 (fun r=>r):=by
 refine b7j (n:=36) Tryz.func198 Y Y Y (fun _ _=>by kernel_rfl) fun F0 w0 r=> ?_;unfold a1m;refine a1h ((fun k0 m(s:Int×Int)=>sCB_L1 n slices1 k0 m s.1 s.2) _) (fun(s:Int×Int)=> [.v 3 (.int .i64 s.1),.v 11 (.int .i64 s.2)]) (fun _=>Y) (_,_) Y Y (fun _=>Y) Y fun K1 m1 hK1 z1=> ?_;obtain⟨size1,i1⟩:=z1;dsimp only;refine gc Y ?_ ?_
 ·refine gV Y fun ex2=> ?_;refine gc Y ?_ ?_
  ·exact gNo
  exact ge hK1 (_,_)
 refine gO (c5v _ _ _) Y Y Y fun v1=> ?_;refine a1h ((fun k0 m(s:Int×List Afn)=>sCB_L2 n slices1 k0 m s.1 s.2) _) (fun(s:Int×List Afn)=> [.r 6 5 s.2,.v 27 (.int .i64 s.1)]) (fun _=>Y) (_,_) Y Y (fun _=>Y) Y fun K2 m2 hK2 z2=> ?_;obtain⟨i2,l1⟩:=z2;dsimp only;refine gc Y ?_ ?_
 ·refine gV Y fun ex1=> ?_;refine gP Y fun l3=> ?_;exact ge hK2 (_,_)
 exact gRO Y
theorem b5j(n:Nat)(x1:(List Afn))(y1:(List Afn)):FnO Wt 149 [.sl 5 x1,.sl 5 y1] (a4w n x1 y1) 62 5 5 (fun r=>r):=by
 refine b7j (n:=9) Tryz.func149 Y Y Y (fun _ _=>by kernel_rfl) fun F0 w0 r=> ?_;unfold a4w;refine gO (a8l _ _) Y Y Y fun v1=> ?_;exact gRO Y
theorem a2l(n:Nat)(slices1:(List (List (List Afn)))):FnO Wt 147 [.sl 9 slices1] (a0i n slices1) 57 1 4 (fun r=>r):=by
 refine b7j (n:=36) Tryz.func147 Y Y Y (fun _ _=>by kernel_rfl) fun F0 w0 r=> ?_;unfold a0i;refine a1h ((fun k0 m(s:Int×Int)=>sCA_L1 n slices1 k0 m s.1 s.2) _) (fun(s:Int×Int)=> [.v 3 (.int .i64 s.1),.v 11 (.int .i64 s.2)]) (fun _=>Y) (_,_) Y Y (fun _=>Y) Y fun K1 m1 hK1 z1=> ?_;obtain⟨size1,i1⟩:=z1;dsimp only;refine gc Y ?_ ?_
 ·refine gV Y fun ex2=> ?_;refine gc Y ?_ ?_
  ·exact gNo
  exact ge hK1 (_,_)
 refine gO (c5h _ _ _) Y Y Y fun v1=> ?_;refine a1h ((fun k0 m(s:Int×List (List Afn))=>sCA_L2 n slices1 k0 m s.1 s.2) _) (fun(s:Int×List (List Afn))=> [.r 6 4 s.2,.v 27 (.int .i64 s.1)]) (fun _=>Y) (_,_) Y Y (fun _=>Y) Y fun K2 m2 hK2 z2=> ?_;obtain⟨i2,l1⟩:=z2;dsimp only;refine gc Y ?_ ?_
 ·refine gV Y fun ex1=> ?_;refine gP Y fun l3=> ?_;exact ge hK2 (_,_)
 exact gRO Y
theorem a7j(n:Nat)(s1:(List Afn))(f1:(Afn->Option Bool)):FnH Wt 164 [.sl 5 s1] ⟨Afn,Bool,fun q=> [.agg [.int .i64 q.Const.P.Sign,.sl 2 q.Const.P.Digits,.int .i64 q.Const.Q.Sign,.sl 2 q.Const.Q.Digits,.sl 3 q.Coefs]],fun q=>f1 q,fun r=> .ob r⟩ (a1t n s1 f1) (fun r=> .int .i64 r):=by
 refine b4d (n:=19) Tryz.func164 Y Y Y (fun _ _=>by kernel_rfl) fun F0 w0 r u=> ?_;unfold a1t;refine a1h ((fun k0 m(s:Int)=>sIB_L1 n s1 f1 k0 m s) _) (fun(s:Int)=> [.v 8 (.int .i64 s)]) (fun _=>Y) _ Y Y (fun _=>Y) Y fun K1 m1 hK1 i1=> ?_;refine gc Y ?_ ?_
 ·refine gV Y fun ex1=> ?_;refine gKv (T:=Wt) (Φ:=⟨Afn,Bool,fun q=> [.agg [.int .i64 q.Const.P.Sign,.sl 2 q.Const.P.Digits,.int .i64 q.Const.Q.Sign,.sl 2 q.Const.Q.Digits,.sl 3 q.Coefs]],fun q=>f1 q,fun r=> .ob r⟩) (u:=u) ex1 Y Y Y fun v1=> ?_;refine gc Y ?_ ?_
  ·exact gr
  exact ge hK1 _
 exact gr
theorem a6v(n:Nat)(s1:(List Afn))(f1:(Afn->Option Bool)):FnH Wt 98 [.sl 5 s1] ⟨Afn,Bool,fun q=> [.agg [.int .i64 q.Const.P.Sign,.sl 2 q.Const.P.Digits,.int .i64 q.Const.Q.Sign,.sl 2 q.Const.Q.Digits,.sl 3 q.Coefs]],fun q=>f1 q,fun r=> .ob r⟩ (a1a n s1 f1) (fun r=> .ob r):=by
 refine b4d (n:=9) Tryz.func98 Y Y Y (fun _ _=>by kernel_rfl) fun F0 w0 r u=> ?_;unfold a1a;refine gKh (FnH.up (a7j n _ f1)) Y Y Y b8a fun v1=> ?_;exact gr
theorem a6y(n:Nat)(s1:(List (List Afn)))(f1:((List Afn)->Option Bool)):FnH Wt 165 [.sl 4 s1] ⟨(List Afn),Bool,fun q=> [.sl 5 q],fun q=>f1 q,fun r=> .ob r⟩ (a1p n s1 f1) (fun r=> .int .i64 r):=by
 refine b4d (n:=19) Tryz.func165 Y Y Y (fun _ _=>by kernel_rfl) fun F0 w0 r u=> ?_;unfold a1p;refine a1h ((fun k0 m(s:Int)=>sIA_L1 n s1 f1 k0 m s) _) (fun(s:Int)=> [.v 8 (.int .i64 s)]) (fun _=>Y) _ Y Y (fun _=>Y) Y fun K1 m1 hK1 i1=> ?_;refine gc Y ?_ ?_
 ·refine gV Y fun ex1=> ?_;refine gKv (T:=Wt) (Φ:=⟨(List Afn),Bool,fun q=> [.sl 5 q],fun q=>f1 q,fun r=> .ob r⟩) (u:=u) ex1 Y Y Y fun v1=> ?_;refine gc Y ?_ ?_
  ·exact gr
  exact ge hK1 _
 exact gr
theorem a6i(n:Nat)(s1:(List (List Afn)))(f1:((List Afn)->Option Bool)):FnH Wt 99 [.sl 4 s1] ⟨(List Afn),Bool,fun q=> [.sl 5 q],fun q=>f1 q,fun r=> .ob r⟩ (a0m n s1 f1) (fun r=> .ob r):=by
 refine b4d (n:=9) Tryz.func99 Y Y Y (fun _ _=>by kernel_rfl) fun F0 w0 r u=> ?_;unfold a0m;refine gKh (FnH.up (a6y n _ f1)) Y Y Y b8a fun v1=> ?_;exact gr
end M
namespace M
open Go Go.RowKit Rt
set_option linter.unusedVariables false
set_option maxRecDepth 1000000
set_option maxHeartbeats 8000000
theorem b5p(n:Nat)(x:Frac):FnC Wt 95 [.agg [.int .i64 x.P.Sign,.sl 2 x.P.Digits,.int .i64 x.Q.Sign,.sl 2 x.Q.Digits]] (a4r n x) (fun r=> .ob r):=by
 refine fk (n:=6) Tryz.func95 fun F0 w0 r=> ?_;unfold a4r;refine gK (a2a _ _) Y Y Y fun v1=> ?_;exact gr
theorem c3l(n:Nat)(a:Afn)(k:Int):FnC Wt 96 [.agg [.int .i64 a.Const.P.Sign,.sl 2 a.Const.P.Digits,.int .i64 a.Const.Q.Sign,.sl 2 a.Const.Q.Digits,.sl 3 a.Coefs],.fb [.val (.func (.func 95) #[] #[])] 0,.fb [.int .i64 k] 0] (a5y n a k) (fun r=> .ob r):=by
 refine fk (n:=22) Tryz.func96 fun F0 w0 r=> ?_;unfold a5y;refine gK (b5p _ _) Y Y Y fun v1=> ?_;refine gJ 6 (fun v2=> [.v 15 (.ob v2)]) Y (fun _=>Y) (fun J1 hJ1=> ?_) (fun v2=> ?_)
 ·refine gd Y ?_ ?_
  ·exact gX hJ1 Y Y
  exact gX hJ1 Y Y
 refine gJ 5 (fun v3=> [.v 21 (.ob v3)]) Y (fun _=>Y) (fun J2 hJ2=> ?_) (fun v3=> ?_)
 ·refine gd Y ?_ ?_
  ·exact gX hJ2 Y Y
  refine gA ?_;refine gKh (a2j n _ (a4r n)) Y Y Y (fvA Y Y (fun q=>b5p n q) default) fun v4=> ?_;exact gX hJ2 Y Y
 exact gr
theorem c3j(n:Nat)(l:List Afn)(k:Int):FnC Wt 97 [.sl 5 l,.fb [.clo 96 [.fb [.val (.func (.func 95) #[] #[])] 0,.fb [.int .i64 k] 0]] 0] (a5u n l k) (fun r=> .ob r):=by
 refine fk (n:=12) Tryz.func97 fun F0 w0 r=> ?_;unfold a5u;refine gJ 4 (fun v1=> [.v 11 (.ob v1)]) Y (fun _=>Y) (fun J1 hJ1=> ?_) (fun v1=> ?_)
 ·refine gd Y ?_ ?_
  ·exact gX hJ1 Y Y
  refine gA ?_;refine gKh (a6v n _ (fun a=>a5y n a k)) Y Y Y (fvA Y Y (fun q=>c3l n q k) default) fun v4=> ?_;exact gX hJ1 Y Y
 exact gr
theorem c7p(n:Nat)(f:Form)(k:Int):FnC Wt 46 [.agg [.sl 4 f.Pieces],.int .i64 k] (b0y n f k) (fun r=> .ob r):=by
 refine fk (n:=21) Tryz.func46 fun F0 w0 r=> ?_;unfold b0y;refine gFz 2 Y Y ?_;refine gFz 1 Y Y ?_;refine gFz 3 Y Y ?_;refine gJ 6 (fun v1=> [.v 20 (.ob v1)]) Y (fun _=>Y) (fun J1 hJ1=> ?_) (fun v1=> ?_)
 ·refine gd Y ?_ ?_
  ·refine gA ?_;refine gKh (a6i n _ (fun l=>a5u n l k)) Y Y Y (fvA Y Y (fun q=>c3j n q k) default) fun v4=> ?_;exact gX hJ1 Y Y
  exact gX hJ1 Y Y
 exact gr
def d2e(n:Nat)(mx1:maker):Option (List Frac):=(a3g n 0).bind fun v1=>(a2m n [v1] (mx1.nz.length:Int)).bind fun v2=>some v2
theorem d4c(n:Nat)(mx1:maker)(c1:Frac):a0x n mx1 c1=(d2e n mx1).bind fun v2=>some (mx1,(⟨[[(⟨c1,v2⟩:Afn)]]⟩:Form)):=by
 unfold a0x d2e;cases a3g n 0 with
 |none=>rfl
 |some v=>show(a2m n [v] _).bind _=((a2m n [v] _).bind _).bind _;cases a2m n [v] (mx1.nz.length:Int)<;>rfl
theorem e4y(n:Nat)(m:maker)(c:Frac)(s:Bs):(a0x n m c).bind (fun v5=>(ix v5.2.Pieces 0).bind fun ex1=>(ix ex1 0).bind fun ex2=>(a0k n v5.1.nz s).bind fun v6=>(a3g n 1).bind fun v7=>(ix ex2.Coefs v6).bind fun _=>(setw v5.2.Pieces v6 v7).bind fun p1=>some (v5.1,(⟨p1⟩:Form)))=
 (d2e n m).bind fun l=>(a0k n m.nz s).bind fun v6=>(a3g n 1).bind fun v7=>(ix l v6).bind fun _=>(lset l v6 v7).bind fun l2=>some (m,(⟨[[(⟨c,l2⟩:Afn)]]⟩:Form)):=by
 rw [d4c,Option.bind_assoc]
 congr 1;funext l
 show(a0k n m.nz s).bind _=_
 congr 1;funext v6
 congr 1;funext v7
 show(ix l v6).bind _=_
 congr 1;funext z
 show((lset l v6 v7).bind _).bind _=_;rw [Option.bind_assoc];rfl
theorem e4r(n:Nat)(mx1:maker)(c1:Frac):FnLG Wt 74 77 [.sl 1 mx1.nz,.sl 2 mx1.facts.Lifts,.int .i64 mx1.facts.Persons,.int .i64 mx1.facts.Flats,.ob mx1.full] [.bx 0 0,.agg [.int .i64 c1.P.Sign,.sl 2 c1.P.Digits,.int .i64 c1.Q.Sign,.sl 2 c1.Q.Digits]] (d2e n mx1)
 (fun _=> [.sl 1 mx1.nz,.sl 2 mx1.facts.Lifts,.int .i64 mx1.facts.Persons,.int .i64 mx1.facts.Flats,.ob mx1.full])
 (fun r=> [.box 44 [.int .i64 c1.P.Sign,.sl 2 c1.P.Digits,.int .i64 c1.Q.Sign,.sl 2 c1.Q.Digits],.box 34 [.sb 7 4 1],.gone,.gone,.row 44 4 3 r,.box 62 [.int .i64 c1.P.Sign,.sl 2 c1.P.Digits,.int .i64 c1.Q.Sign,.sl 2 c1.Q.Digits,.row 5],.box 57 [.sb 6 5 1]]) (fun _=> .agg [.sb 7 4 1]):=by
 refine e9m (n:=18) Tryz.func74 Y Y Y (fun _ _=>by kernel_rfl) fun F0 w0 b r=> ?_;unfold d2e;refine gHs [(1,(pL [0,6,8,10,12,14,3,5,17,18,21,23,24,27] .nil))] Y (by kernel_rfl) Y Y fun Ky=> ?_;refine gK (a6h _ _) Y Y Y fun v1=> ?_;refine gO (b6j _ _ _) Y Y Y fun v2=> ?_;refine gBs Y ?_;refine gBs Y ?_;refine gHe Y ?_;exact gRLG Y
theorem FnO.c{P:Program}{T:Tbl P}{f:FuncId}{ρ:Type}{us:List (AV T.ty)}{m:Option ρ}{el q c:Nat}{res:ρ->List (T.ty c)}(h:FnO T f us m el q c res):FnC T f us m (fun r=> .sl c (res r)):=⟨h.1,fun r hm w F hs hg us hu=>(h.2 r hm w F hs hg us hu).mono fun e w'⟨v,F',a,m,nn,xs,e1,e2,e3,e4⟩=>by
 obtain⟨F2,h1,h2,h3⟩:=frzO e2 e3;exact⟨v,F2,e1,h2,a,m,nn,e4,h3⟩⟩
set_option maxRecDepth 1000000
set_option maxHeartbeats 40000000
theorem b0g(n:Nat)(mx1:maker)(f1:Form)(byx1:Frac):FnL Wt 80 77 [.sl 1 mx1.nz,.sl 2 mx1.facts.Lifts,.int .i64 mx1.facts.Persons,.int .i64 mx1.facts.Flats,.ob mx1.full] [.bx 0 0,.agg [.sl 4 f1.Pieces],.agg [.int .i64 byx1.P.Sign,.sl 2 byx1.P.Digits,.int .i64 byx1.Q.Sign,.sl 2 byx1.Q.Digits]] (a3n n mx1 f1 byx1) (fun r=> [.sl 1 r.1.nz,.sl 2 r.1.facts.Lifts,.int .i64 r.1.facts.Persons,.int .i64 r.1.facts.Flats,.ob r.1.full]) (fun r=> .agg [.sl 4 r.2.Pieces]):=by
 refine b0f (n:=25) Tryz.func80 Y Y Y (fun _ _=>by kernel_rfl) fun F0 w0 b r=> ?_;unfold a3n;refine gK (b9s _ _) Y Y Y fun v1=> ?_;refine gc Y ?_ ?_
 ·refine gN (a9p _ _ _) Y Y Y Y Y fun v2=> ?_;exact gRL Y Y Y Y Y
 refine gc Y ?_ ?_
 ·refine gK (b2l _ _ _) Y Y Y fun v3=> ?_;exact gRL Y Y Y Y Y
 refine gHs [(6,(pL [0,2,6,5,9,11,13] .nil))] Y (by kernel_rfl) Y Y fun Ky=> ?_;refine gN (a9v _ _ _) Y Y Y Y Y fun v4=> ?_;refine gK (d7s _ _) Y Y Y fun v5=> ?_;refine gK (b2l _ _ _) Y Y Y fun v6=> ?_;refine gHe Y ?_;exact gRL Y Y Y Y Y
theorem b9l(n:Nat)(mx1:maker)(op1:Int)(ax1:Form)(b1:Form):FnL Wt 81 77 [.sl 1 mx1.nz,.sl 2 mx1.facts.Lifts,.int .i64 mx1.facts.Persons,.int .i64 mx1.facts.Flats,.ob mx1.full] [.bx 0 0,.int .i64 op1,.agg [.sl 4 ax1.Pieces],.agg [.sl 4 b1.Pieces]] (a6m n mx1 op1 ax1 b1) (fun r=> [.sl 1 r.1.nz,.sl 2 r.1.facts.Lifts,.int .i64 r.1.facts.Persons,.int .i64 r.1.facts.Flats,.ob r.1.full]) (fun r=> .agg [.sl 4 r.2.Pieces]):=by
 refine b0f (n:=66) Tryz.func81 Y Y Y (fun _ _=>by kernel_rfl) fun F0 w0 b r=> ?_;unfold a6m;refine gM (fun j1=> [.b 0 [.sl 1 j1.2.1,.sl 2 j1.2.2.1,.int .i64 j1.2.2.2.1,.int .i64 j1.2.2.2.2.1,.ob j1.2.2.2.2.2],.b 7 [.sl 4 j1.1]]) Y (fun _=>Y) (fun J1 hJ1=> ?_) (fun j1=> ?_)
 ·refine gd Y ?_ ?_
  ·refine gA ?_;refine gN (a9v _ _ _) Y Y Y Y Y fun v19=> ?_;exact gx hJ1
  exact gx hJ1
 obtain⟨f1,f2,f3,f4,f5,f6⟩:=j1;dsimp only;refine gG Y (by kernel_rfl) ?_;refine gQ (a8a _ _) Y Y Y (fun _=>Y) fun v1=> ?_;refine gQ (a8a _ _) Y Y Y (fun _=>Y) fun v2=> ?_;refine gc Y ?_ ?_
 ·refine gG Y (by kernel_rfl) ?_;refine gQ (a8a _ _) Y Y Y (fun _=>Y) fun v3=> ?_;refine gQ (a8a _ _) Y Y Y (fun _=>Y) fun v4=> ?_;refine gN (a6u _ _ _) Y Y Y Y Y fun v5=> ?_;refine gc Y ?_ ?_
  ·exact gRL Y Y Y Y Y
  refine gc Y ?_ ?_
  ·refine gO (a2l _ _) Y Y Y fun v6=> ?_;exact gRL Y Y Y Y Y
  refine gc Y ?_ ?_
  ·refine gKh (a8i n _ _ (a4w n)) Y Y Y (fvA Y Y (fun q=>FnO.c (b5j n q.1 q.2)) default) fun v7=> ?_;exact gRL Y Y Y Y Y
  refine gKh (a8i n _ _ (a4z n)) Y Y Y (fvA Y Y (fun q=>FnO.c (b5e n q.1 q.2)) default) fun v8=> ?_;exact gRL Y Y Y Y Y
 refine gc Y ?_ ?_
 ·refine gG Y (by kernel_rfl) ?_;refine gQ (a8a _ _) Y Y Y (fun _=>Y) fun v9=> ?_;refine gQ (a8a _ _) Y Y Y (fun _=>Y) fun v10=> ?_;refine gN (a6u _ _ _) Y Y Y Y Y fun v11=> ?_;refine gc Y ?_ ?_
  ·exact gRL Y Y Y Y Y
  refine gc Y ?_ ?_
  ·refine gO (a2l _ _) Y Y Y fun v12=> ?_;exact gRL Y Y Y Y Y
  refine gc Y ?_ ?_
  ·refine gKh (a8i n _ _ (a4w n)) Y Y Y (fvA Y Y (fun q=>FnO.c (b5j n q.1 q.2)) default) fun v13=> ?_;exact gRL Y Y Y Y Y
  refine gKh (a8i n _ _ (a4z n)) Y Y Y (fvA Y Y (fun q=>FnO.c (b5e n q.1 q.2)) default) fun v14=> ?_;exact gRL Y Y Y Y Y
 refine gN (a6u _ _ _) Y Y Y Y Y fun v15=> ?_;refine gc Y ?_ ?_
 ·exact gRL Y Y Y Y Y
 refine gc Y ?_ ?_
 ·refine gO (a2l _ _) Y Y Y fun v16=> ?_;exact gRL Y Y Y Y Y
 refine gc Y ?_ ?_
 ·refine gKh (a8i n _ _ (a4w n)) Y Y Y (fvA Y Y (fun q=>FnO.c (b5j n q.1 q.2)) default) fun v17=> ?_;exact gRL Y Y Y Y Y
 refine gKh (a8i n _ _ (a4z n)) Y Y Y (fvA Y Y (fun q=>FnO.c (b5e n q.1 q.2)) default) fun v18=> ?_;exact gRL Y Y Y Y Y
theorem b9q(n:Nat):∀(mx1:maker)(x1:Expr),FnL Wt 39 77 [.sl 1 mx1.nz,.sl 2 mx1.facts.Lifts,.int .i64 mx1.facts.Persons,.int .i64 mx1.facts.Flats,.ob mx1.full] [.bx 0 0,.agg [.int .i64 x1.Op,.int .i64 x1.N,.str x1.Name,.sl 0 x1.Args]] (minmax_maker_made n mx1 x1) (fun r=> [.sl 1 r.1.nz,.sl 2 r.1.facts.Lifts,.int .i64 r.1.facts.Persons,.int .i64 r.1.facts.Flats,.ob r.1.full]) (fun r=> .agg [.sl 4 r.2.Pieces]):=by
 induction n with
 |zero=>exact fun _ _=>c3x (fun _ _=>by kernel_rfl)
 |succ n ih=>
  intro mx1 x1;refine b0f (n:=140) Tryz.func39 Y Y Y (fun _ _=>by kernel_rfl) fun F0 w0 b r=> ?_;rw [minmax_maker_made_s];refine gc Y ?_ ?_
  ·exact gRL Y Y Y Y Y
  refine gN (b2n _ _ _) Y Y Y Y Y fun v1=> ?_;refine gc Y ?_ ?_
  ·refine gN (a6b _ _ _) Y Y Y Y Y fun v2=> ?_;refine gN (a9p _ _ _) Y Y Y Y Y fun v3=> ?_;exact gRL Y Y Y Y Y
  refine gc Y ?_ ?_
  ·refine gK (a6h _ _) Y Y Y fun v4=> ?_;refine gEq (e4y _ _ _ _) ?_;refine gLGc (e4r _ _ _) Y Y Y Y Y fun l=> ?_;refine gHs [(8,(pL [0,2,4,6,8,10,12,14,16,18,20,22,24,27,29,31,33] .nil)),(15,(pL [0,2,4,6,8,10,12,14,16,19,21,23] .nil)),(16,(pL [0,2,4,6,8,12,11,15,17] .nil)),(19,(pL [0,2,4,6,8,10,14,16,18,20,22,13,25,27,29] .nil)),(20,(pL [0,2,4,6,8,10,14,16,18,20,22,13,25,27,29] .nil)),(22,(pL [0,2,4,6,8,10,12,14,16,19,21,23] .nil))] Y (by kernel_rfl) Y Y fun Ky=> ?_;refine gK (a4n _ _ _) Y Y Y fun v6=> ?_;refine gK (a6h _ _) Y Y Y fun v7=> ?_;refine gV Y fun z=> ?_;refine gW Y Y fun l2=> ?_;refine gHe Y ?_;refine gFi 7 Y ?_;refine gFs 8 5 5 1 Y Y ?_;refine gFs 9 4 1 1 Y Y ?_;exact gRL Y Y Y Y Y
  refine gc Y ?_ ?_
  ·refine gV Y fun ex4=> ?_;refine gN (b8g _ _ _) Y Y Y Y Y fun v8=> ?_;refine gc Y ?_ ?_
   ·refine gV Y fun ex5=> ?_;refine gN (ih _ _) Y Y Y Y Y fun v9=> ?_;exact gRL Y Y Y Y Y
   refine gV Y fun ex6=> ?_;refine gN (ih _ _) Y Y Y Y Y fun v10=> ?_;exact gRL Y Y Y Y Y
  refine gc Y ?_ ?_
  ·refine gV Y fun ex7=> ?_;refine gK (e1k _ _ _) Y Y Y fun v11=> ?_;refine gHs [(8,(pL [0,2,4,6,8,10,12,14,16,18,20,22,24,27,29,31,33] .nil)),(15,(pL [0,2,4,6,8,10,12,14,16,19,21,23] .nil)),(16,(pL [0,2,4,6,8,12,11,15,17] .nil)),(19,(pL [0,2,4,6,8,10,14,16,18,20,22,13,25,27,29] .nil)),(20,(pL [0,2,4,6,8,10,14,16,18,20,22,13,25,27,29] .nil)),(22,(pL [0,2,4,6,8,10,12,14,16,19,21,23] .nil))] Y (by kernel_rfl) Y Y fun Ky=> ?_;refine gV Y fun ex8=> ?_;refine gN (ih _ _) Y Y Y Y Y fun v12=> ?_;refine gK (b2l _ _ _) Y Y Y fun v13=> ?_;refine gHe Y ?_;exact gRL Y Y Y Y Y
  refine gc Y ?_ ?_
  ·refine gV Y fun ex9=> ?_;refine gN (b2n _ _ _) Y Y Y Y Y fun v14=> ?_;refine gc Y ?_ ?_
   ·refine gHs [(8,(pL [0,2,4,6,8,10,12,14,16,18,20,22,24,27,29,31,33] .nil)),(15,(pL [0,2,4,6,8,10,12,14,16,19,21,23] .nil)),(16,(pL [0,2,4,6,8,12,11,15,17] .nil)),(19,(pL [0,2,4,6,8,10,14,16,18,20,22,13,25,27,29] .nil)),(20,(pL [0,2,4,6,8,10,14,16,18,20,22,13,25,27,29] .nil)),(22,(pL [0,2,4,6,8,10,12,14,16,19,21,23] .nil))] Y (by kernel_rfl) Y Y fun Ky=> ?_;refine gV Y fun ex10=> ?_;refine gV Y fun ex11=> ?_;refine gN (ih _ _) Y Y Y Y Y fun v15=> ?_;refine gN (a6b _ _ _) Y Y Y Y Y fun v16=> ?_;refine gN (b0g _ _ _ _) Y Y Y Y Y fun v17=> ?_;refine gHe Y ?_;exact gRL Y Y Y Y Y
   refine gHs [(8,(pL [0,2,4,6,8,10,12,14,16,18,20,22,24,27,29,31,33] .nil)),(15,(pL [0,2,4,6,8,10,12,14,16,19,21,23] .nil)),(16,(pL [0,2,4,6,8,12,11,15,17] .nil)),(19,(pL [0,2,4,6,8,10,14,16,18,20,22,13,25,27,29] .nil)),(20,(pL [0,2,4,6,8,10,14,16,18,20,22,13,25,27,29] .nil)),(22,(pL [0,2,4,6,8,10,12,14,16,19,21,23] .nil))] Y (by kernel_rfl) Y Y fun Ky=> ?_;refine gV Y fun ex12=> ?_;refine gV Y fun ex13=> ?_;refine gN (ih _ _) Y Y Y Y Y fun v18=> ?_;refine gN (a6b _ _ _) Y Y Y Y Y fun v19=> ?_;refine gN (b0g _ _ _ _) Y Y Y Y Y fun v20=> ?_;refine gHe Y ?_;exact gRL Y Y Y Y Y
  refine gV Y fun ex14=> ?_;refine gN (ih _ _) Y Y Y Y Y fun v21=> ?_;refine gHs [(8,(pL [0,2,4,6,8,10,12,14,16,18,20,22,24,27,29,31,33] .nil)),(15,(pL [0,2,4,6,8,10,12,14,16,19,21,23] .nil)),(16,(pL [0,2,4,6,8,12,11,15,17] .nil)),(19,(pL [0,2,4,6,8,10,14,16,18,20,22,13,25,27,29] .nil)),(20,(pL [0,2,4,6,8,10,14,16,18,20,22,13,25,27,29] .nil)),(22,(pL [0,2,4,6,8,10,12,14,16,19,21,23] .nil))] Y (by kernel_rfl) Y Y fun Ky=> ?_;refine gV Y fun ex15=> ?_;refine gN (ih _ _) Y Y Y Y Y fun v22=> ?_;refine gN (b9l _ _ _ _ _) Y Y Y Y Y fun v23=> ?_;refine gHe Y ?_;exact gRL Y Y Y Y Y
theorem c5i(n:Nat)(t1:Tariff)(names1:(List Bs))(f1:Facts):FnC Wt 11 [.agg [.str t1.Name,.int .i64 t1.Fee.Op,.int .i64 t1.Fee.N,.str t1.Fee.Name,.sl 0 t1.Fee.Args,.int .i64 t1.Cap],.sl 1 names1,.agg [.sl 2 f1.Lifts,.int .i64 f1.Persons,.int .i64 f1.Flats]] (a6k n t1 names1 f1) (fun r=> .tup [.agg [.sl 4 r.1.Pieces],.int .i64 r.2]):=by
 refine fk (n:=52) Tryz.func11 fun F0 w0 r=> ?_;unfold a6k;refine gK (b8i _ _ _) Y Y Y fun v1=> ?_;refine gc Y ?_ ?_
 ·exact gr
 refine gA ?_;refine gHs [(6,(pL [0,2,4,10,12] (.two 3 12 (pL [] (.two 4 12 (pL [] (.two 7 12 (pL [] (.two 8 12 (pL [18,20,22,25,27,29] .nil) (pL [17,19,20,22,27,29] .nil))) (pL [15,17,19,20,22,27,29] .nil))) (pL [9,15,17,19,20,22,27,29] .nil))) (pL [7,9,15,17,19,20,22,27,29] .nil))))] Y (by kernel_rfl) Y Y fun Ky=> ?_;refine gH2 Y ?_ ?_;all_goals
  refine gK (a6h _ _) Y Y Y fun v3=> ?_;refine gA ?_;try refine gH2 rfl ?_ ?_
  all_goals
   try refine gH2 rfl ?_ ?_
   all_goals
    refine gK (b2h _ _ _) Y Y Y fun v4=> ?_;refine gA ?_;try refine gH2 rfl ?_ ?_
    all_goals
     refine gK (c5a _ _ _ _ _) Y Y Y fun v5=> ?_;refine gB ?_;refine gHe Y ?_;refine gc Y ?_ ?_
     ·exact gr
     refine gN (b9q _ _ _) Y Y Y Y Y fun v2=> ?_;refine gc Y ?_ ?_
     ·exact gr
     exact gr
theorem c5y(n:Nat)(ax1:Afn)(weights1:(List Frac)):FnC Wt 47 [.agg [.int .i64 ax1.Const.P.Sign,.sl 2 ax1.Const.P.Digits,.int .i64 ax1.Const.Q.Sign,.sl 2 ax1.Const.Q.Digits,.sl 3 ax1.Coefs],.sl 3 weights1] (a9r n ax1 weights1) (fun r=> .agg [.int .i64 r.P.Sign,.sl 2 r.P.Digits,.int .i64 r.Q.Sign,.sl 2 r.Q.Digits]):=by
 refine fk (n:=37) Tryz.func47 fun F0 w0 r=> ?_;unfold a9r;refine a1h ((fun k0 m(s:Int×Int×(List Int)×Int×(List Int))=>minmax_at_L1 n ax1 weights1 k0 m s.1 s.2.1 s.2.2.1 s.2.2.2.1 s.2.2.2.2) _) (fun(s:Int×Int×(List Int)×Int×(List Int))=> [.b 5 [.int .i64 s.2.1,.sl 2 s.2.2.1,.int .i64 s.2.2.2.1,.sl 2 s.2.2.2.2],.v 15 (.int .i64 s.1)]) (fun _=>Y) (_,_,_,_,_) Y Y (fun _=>Y) Y fun K1 m1 hK1 z1=> ?_;obtain⟨i1,f1,f2,f3,f4⟩:=z1;dsimp only;refine gc Y ?_ ?_
 ·refine gV Y fun ex1=> ?_;refine gA ?_;refine gHs [(5,(pL [0,2,4,6,8] (.two 5 9 (pL [12,14,16,19,21,23] .nil) (pL [11,13,14,16,21,23] .nil))))] Y (by kernel_rfl) Y Y fun Ky=> ?_;refine gV Y fun ex2=> ?_;refine gA ?_;refine gH2 Y ?_ ?_;all_goals
   refine gK (c1v _ _ _) Y Y Y fun v2=> ?_;refine gB ?_;refine gHe Y ?_;refine gK (b8c _ _ _) Y Y Y fun v1=> ?_;exact ge hK1 (_,_,_,_,_)
 exact gr
theorem c9n(n:Nat)(x1:Frac):FnC Wt 43 [.agg [.int .i64 x1.P.Sign,.sl 2 x1.P.Digits,.int .i64 x1.Q.Sign,.sl 2 x1.Q.Digits]] (a9b n x1) (fun r=> .ob r):=by
 refine fk (n:=6) Tryz.func43 fun F0 w0 r=> ?_;unfold a9b;refine gK (a2a _ _) Y Y Y fun v1=> ?_;exact gr
theorem c6s(n:Nat)(f1:Form)(weights1:(List Frac)):FnC Wt 13 [.agg [.sl 4 f1.Pieces],.sl 3 weights1] (a9s n f1 weights1) (fun r=> .tup [.agg [.int .i64 r.1.P.Sign,.sl 2 r.1.P.Digits,.int .i64 r.1.Q.Sign,.sl 2 r.1.Q.Digits],.ob r.2]):=by
 refine fk (n:=64) Tryz.func13 fun F0 w0 r=> ?_;unfold a9s;refine gKh (a2j n _ (a9b n)) Y Y Y (fvA Y Y (fun q=>c9n n q) default) fun v1=> ?_;refine gJ 6 (fun v2=> [.v 22 (.ob v2)]) Y (fun _=>Y) (fun J1 hJ1=> ?_) (fun v2=> ?_)
 ·refine gd Y ?_ ?_
  ·exact gx hJ1
  refine gA ?_;refine gK (c7p _ _ _) Y Y Y fun v8=> ?_;exact gx hJ1
 refine gc Y ?_ ?_
 ·exact gr
 refine a1h ((fun k0 m(s:Int×Int×(List Int)×Int×(List Int)×Int×(List Int)×Int×(List Int))=>minmax_At_L1 n f1 weights1 k0 m s.1 s.2.1 s.2.2.1 s.2.2.2.1 s.2.2.2.2.1 s.2.2.2.2.2.1 s.2.2.2.2.2.2.1 s.2.2.2.2.2.2.2.1 s.2.2.2.2.2.2.2.2) _) (fun(s:Int×Int×(List Int)×Int×(List Int)×Int×(List Int)×Int×(List Int))=> [.b 4 [.int .i64 s.2.2.2.2.2.1,.sl 2 s.2.2.2.2.2.2.1,.int .i64 s.2.2.2.2.2.2.2.1,.sl 2 s.2.2.2.2.2.2.2.2],.b 7 [.int .i64 s.2.1,.sl 2 s.2.2.1,.int .i64 s.2.2.2.1,.sl 2 s.2.2.2.2.1],.v 27 (.int .i64 s.1)]) (fun _=>Y) (_,_,_,_,_,_,_,_,_) Y Y (fun _=>Y) Y fun K2 m2 hK2 z2=> ?_;obtain⟨i1,f2,f3,f4,f5,f6,f7,f8,f9⟩:=z2;dsimp only;refine gc Y ?_ ?_
 ·refine gV Y fun ex1=> ?_;refine gV Y fun ex2=> ?_;refine gK (c5y _ _ _) Y Y Y fun v3=> ?_;refine gV Y fun l1=> ?_;refine a1h ((fun k0 m(s:Int×Int×(List Int)×Int×(List Int))=>minmax_At_L2 n weights1 l1 k0 m s.1 s.2.1 s.2.2.1 s.2.2.2.1 s.2.2.2.2) _) (fun(s:Int×Int×(List Int)×Int×(List Int))=> [.b 10 [.int .i64 s.2.1,.sl 2 s.2.2.1,.int .i64 s.2.2.2.1,.sl 2 s.2.2.2.2],.v 40 (.int .i64 s.1)]) (fun _=>Y) (_,_,_,_,_) Y Y (fun _=>Y) Y fun K3 m3 hK3 z3=> ?_;obtain⟨i2,f18,f19,f20,f21⟩:=z3;dsimp only;refine gc Y ?_ ?_
  ·refine gV Y fun ex3=> ?_;refine gHs [(12,(pL [2,4] (.two 0 3 (pL [7,9,11,12,14,17] .nil) (pL [1,9,11,12,14,17] .nil))))] Y (by kernel_rfl) Y Y fun Ky=> ?_;refine gH2 Y ?_ ?_;all_goals
    refine gK (c5y _ _ _) Y Y Y fun v6=> ?_;refine gK (c8c _ _ _) Y Y Y fun v7=> ?_;refine gHe Y ?_;exact ge hK3 (_,_,_,_,_)
  refine gJ 5 (fun v4=> [.v 60 (.ob v4)]) Y (fun _=>Y) (fun J4 hJ4=> ?_) (fun v4=> ?_)
  ·refine gd Y ?_ ?_
   ·exact gx hJ4
   refine gA ?_;refine gK (b3l _ _ _) Y Y Y fun v5=> ?_;exact gx hJ4
  refine gc Y ?_ ?_
  ·exact ge hK2 (_,_,_,_,_,_,_,_,_)
  exact ge hK2 (_,_,_,_,_,_,_,_,_)
 exact gr
set_option maxRecDepth 1000000
set_option maxHeartbeats 40000000
theorem b8m(n:Nat)(c1:Int):FnC Wt 200 [.int .u8 c1] (a9k n c1) (fun r=> .ob r):=by
 refine fk (n:=17) Tryz.func200 fun F0 w0 r=> ?_;unfold a9k;refine gJ 3 (fun v1=> [.v 8 (.ob v1)]) Y (fun _=>Y) (fun J1 hJ1=> ?_) (fun v1=> ?_)
 ·refine gd Y ?_ ?_
  ·exact gx hJ1
  exact gx hJ1
 refine gJ 7 (fun v2=> [.v 16 (.ob v2)]) Y (fun _=>Y) (fun J2 hJ2=> ?_) (fun v2=> ?_)
 ·refine gd Y ?_ ?_
  ·exact gx hJ2
  refine gA ?_;refine gd Y ?_ ?_
  ·refine gB ?_;exact gx hJ2
  refine gB ?_;exact gx hJ2
 exact gr
theorem c8u(n:Nat)(c1:Int):FnC Wt 201 [.int .u8 c1] (b2o n c1) (fun r=> .ob r):=by
 refine fk (n:=9) Tryz.func201 fun F0 w0 r=> ?_;unfold b2o;refine gJ 3 (fun v1=> [.v 8 (.ob v1)]) Y (fun _=>Y) (fun J1 hJ1=> ?_) (fun v1=> ?_)
 ·refine gd Y ?_ ?_
  ·exact gx hJ1
  exact gx hJ1
 exact gr
theorem b3e(n:Nat)(s1:Bs):FnC Wt 151 [.str s1] (a7e n s1) (fun r=> .ob r):=by
 refine fk (n:=42) Tryz.func151 fun F0 w0 r=> ?_;unfold a7e;refine gJ 4 (fun v1=> [.v 11 (.ob v1)]) Y (fun _=>Y) (fun J1 hJ1=> ?_) (fun v1=> ?_)
 ·refine gd Y ?_ ?_
  ·exact gx hJ1
  exact gx hJ1
 refine gJ 5 (fun v2=> [.v 17 (.ob v2)]) Y (fun _=>Y) (fun J2 hJ2=> ?_) (fun v2=> ?_)
 ·refine gd Y ?_ ?_
  ·exact gx hJ2
  refine gA ?_;refine gV Y fun c4=> ?_;refine gA ?_;refine gK (b8m _ _) Y Y Y fun v7=> ?_;exact gx hJ2
 refine gc Y ?_ ?_
 ·exact gr
 refine a1h ((fun k0 m(s:Int)=>ref06_Name_L1 n s1 k0 m s) _) (fun(s:Int)=> [.v 3 (.int .i64 s)]) (fun _=>Y) _ Y Y (fun _=>Y) Y fun K3 m3 hK3 i1=> ?_;refine gc Y ?_ ?_
 ·refine gV Y fun c1=> ?_;refine gK (b8m _ _) Y Y Y fun v3=> ?_;refine gJ 6 (fun v4=> [.v 35 (.ob v4)]) Y (fun _=>Y) (fun J4 hJ4=> ?_) (fun v4=> ?_)
  ·refine gd Y ?_ ?_
   ·refine gA ?_;refine gV Y fun c3=> ?_;refine gA ?_;refine gK (c8u _ _) Y Y Y fun v6=> ?_;exact gx hJ4
   exact gx hJ4
  refine gJ 5 (fun v5=> [.v 41 (.ob v5)]) Y (fun _=>Y) (fun J5 hJ5=> ?_) (fun v5=> ?_)
  ·refine gd Y ?_ ?_
   ·refine gA ?_;refine gV Y fun c2=> ?_;exact gx hJ5
   exact gx hJ5
  refine gc Y ?_ ?_
  ·exact gr
  exact ge hK3 _
 exact gr
set_option maxRecDepth 1000000
set_option maxHeartbeats 40000000
theorem d0e(n:Nat)(op1:Int):FnC Wt 214 [.int .i64 op1] (a8z n op1) (fun r=> .int .i64 r):=by
 refine fk (n:=15) Tryz.func214 fun F0 w0 r=> ?_;unfold a8z;refine gJ 3 (fun v1=> [.v 8 (.ob v1)]) Y (fun _=>Y) (fun J1 hJ1=> ?_) (fun v1=> ?_)
 ·refine gd Y ?_ ?_
  ·exact gx hJ1
  exact gx hJ1
 refine gc Y ?_ ?_
 ·exact gr
 refine gc Y ?_ ?_
 ·exact gr
 refine gc Y ?_ ?_
 ·exact gr
 refine gc Y ?_ ?_
 ·exact gr
 exact gr
theorem c7l(n:Nat):∀(x1:Expr),FnC Wt 182 [.agg [.int .i64 x1.Op,.int .i64 x1.N,.str x1.Name,.sl 0 x1.Args]] (ref35_shaped n x1) (fun r=> .ob r):=by
 induction n with
 |zero=>exact fun _=>b1k (fun _ _=>by kernel_rfl)
 |succ n ih=>
  intro x1;refine fk (n:=75) Tryz.func182 fun F0 w0 r=> ?_;rw [ref35_shaped_s];refine gG Y (by kernel_rfl) ?_;refine gQ (d0e _ _) Y Y Y (fun _=>Y) fun v1=> ?_;refine gd Y ?_ ?_
  ·refine gB ?_;refine gT ?_;exact gr
  refine gA ?_;refine gd Y ?_ ?_
  ·refine gB ?_;refine gB ?_;refine gc Y ?_ ?_
   ·exact gr
   refine gJ 4 (fun v3=> [.v 29 (.ob v3)]) Y (fun _=>Y) (fun J1 hJ1=> ?_) (fun v3=> ?_)
   ·refine gd Y ?_ ?_
    ·exact gx hJ1
    exact gx hJ1
   refine gJ 5 (fun v4=> [.v 36 (.ob v4)]) Y (fun _=>Y) (fun J2 hJ2=> ?_) (fun v4=> ?_)
   ·refine gd Y ?_ ?_
    ·refine gA ?_;refine gK (b3e _ _) Y Y Y fun v11=> ?_;exact gx hJ2
    exact gx hJ2
   refine gJ 8 (fun v5=> [.v 45 (.ob v5)]) Y (fun _=>Y) (fun J3 hJ3=> ?_) (fun v5=> ?_)
   ·refine gd Y ?_ ?_
    ·exact gx hJ3
    refine gA ?_;refine gd Y ?_ ?_
    ·refine gB ?_;exact gx hJ3
    refine gB ?_;exact gx hJ3
   refine gJ 14 (fun v6=> [.v 60 (.ob v6)]) Y (fun _=>Y) (fun J4 hJ4=> ?_) (fun v6=> ?_)
   ·refine gd Y ?_ ?_
    ·exact gx hJ4
    refine gA ?_;refine gd Y ?_ ?_
    ·refine gA ?_;refine gd Y ?_ ?_
     ·refine gB ?_;refine gB ?_;exact gx hJ4
     refine gB ?_;refine gB ?_;exact gx hJ4
    refine gB ?_;exact gx hJ4
   refine gc Y ?_ ?_
   ·exact gr
   refine a1h ((fun k0 m(s:Int)=>ref35_shaped_L1 n (ref35_shaped n) x1 k0 m s) _) (fun(s:Int)=> [.v 4 (.int .i64 s)]) (fun _=>Y) _ Y Y (fun _=>Y) Y fun K5 m5 hK5 i1=> ?_;refine gc Y ?_ ?_
   ·refine gV Y fun ex1=> ?_;refine gK (ih _) Y Y Y fun v7=> ?_;refine gc Y ?_ ?_
    ·exact gr
    exact ge hK5 _
   exact gr
  refine gB ?_;refine gB ?_;refine gF ?_;refine gJ 4 (fun v3=> [.v 29 (.ob v3)]) Y (fun _=>Y) (fun J6 hJ6=> ?_) (fun v3=> ?_)
  ·refine gd Y ?_ ?_
   ·exact gx hJ6
   exact gx hJ6
  refine gJ 5 (fun v4=> [.v 36 (.ob v4)]) Y (fun _=>Y) (fun J7 hJ7=> ?_) (fun v4=> ?_)
  ·refine gd Y ?_ ?_
   ·refine gA ?_;refine gK (b3e _ _) Y Y Y fun v11=> ?_;exact gx hJ7
   exact gx hJ7
  refine gJ 8 (fun v5=> [.v 45 (.ob v5)]) Y (fun _=>Y) (fun J8 hJ8=> ?_) (fun v5=> ?_)
  ·refine gd Y ?_ ?_
   ·exact gx hJ8
   refine gA ?_;refine gd Y ?_ ?_
   ·refine gB ?_;exact gx hJ8
   refine gB ?_;exact gx hJ8
  refine gJ 14 (fun v6=> [.v 60 (.ob v6)]) Y (fun _=>Y) (fun J9 hJ9=> ?_) (fun v6=> ?_)
  ·refine gd Y ?_ ?_
   ·exact gx hJ9
   refine gA ?_;refine gd Y ?_ ?_
   ·refine gA ?_;refine gd Y ?_ ?_
    ·refine gB ?_;refine gB ?_;exact gx hJ9
    refine gB ?_;refine gB ?_;exact gx hJ9
   refine gB ?_;exact gx hJ9
  refine gc Y ?_ ?_
  ·exact gr
  refine a1h ((fun k0 m(s:Int)=>ref35_shaped_L1 n (ref35_shaped n) x1 k0 m s) _) (fun(s:Int)=> [.v 4 (.int .i64 s)]) (fun _=>Y) _ Y Y (fun _=>Y) Y fun K10 m10 hK10 i1=> ?_;refine gc Y ?_ ?_
  ·refine gV Y fun ex1=> ?_;refine gK (ih _) Y Y Y fun v7=> ?_;refine gc Y ?_ ?_
   ·exact gr
   exact ge hK10 _
  exact gr
theorem c2r(n:Nat)(x1:Expr):FnC Wt 124 [.agg [.int .i64 x1.Op,.int .i64 x1.N,.str x1.Name,.sl 0 x1.Args]] (b1u n x1) (fun r=> .ob r):=by
 refine fk (n:=9) Tryz.func124 fun F0 w0 r=> ?_;unfold b1u;refine gK (b9u _ _ _ _) Y Y Y fun v1=> ?_;refine gJ 3 (fun v2=> [.v 8 (.ob v2)]) Y (fun _=>Y) (fun J1 hJ1=> ?_) (fun v2=> ?_)
 ·refine gd Y ?_ ?_
  ·refine gA ?_;refine gK (c7l _ _) Y Y Y fun v3=> ?_;exact gx hJ1
  exact gx hJ1
 exact gr
theorem c5n(n:Nat)(t1:Tariff):FnC Wt 83 [.agg [.str t1.Name,.int .i64 t1.Fee.Op,.int .i64 t1.Fee.N,.str t1.Fee.Name,.sl 0 t1.Fee.Args,.int .i64 t1.Cap]] (b0c n t1) (fun r=> .ob r):=by
 refine fk (n:=21) Tryz.func83 fun F0 w0 r=> ?_;unfold b0c;refine gK (b3e _ _) Y Y Y fun v1=> ?_;refine gJ 4 (fun v2=> [.v 10 (.ob v2)]) Y (fun _=>Y) (fun J1 hJ1=> ?_) (fun v2=> ?_)
 ·refine gd Y ?_ ?_
  ·refine gA ?_;refine gK (c2r _ _) Y Y Y fun v5=> ?_;exact gx hJ1
  exact gx hJ1
 refine gJ 4 (fun v3=> [.v 15 (.ob v3)]) Y (fun _=>Y) (fun J2 hJ2=> ?_) (fun v3=> ?_)
 ·refine gd Y ?_ ?_
  ·exact gx hJ2
  exact gx hJ2
 refine gJ 4 (fun v4=> [.v 20 (.ob v4)]) Y (fun _=>Y) (fun J3 hJ3=> ?_) (fun v4=> ?_)
 ·refine gd Y ?_ ?_
  ·exact gx hJ3
  exact gx hJ3
 exact gr
theorem c0e(n:Nat)(l1:(List Bs)):FnC Wt 82 [.sl 1 l1] (b0m n l1) (fun r=> .ob r):=by
 refine fk (n:=34) Tryz.func82 fun F0 w0 r=> ?_;unfold b0m;refine gc Y ?_ ?_
 ·exact gr
 refine a1h ((fun k0 m(s:Int)=>ref35_Names_L1 n l1 k0 m s) _) (fun(s:Int)=> [.v 3 (.int .i64 s)]) (fun _=>Y) _ Y Y (fun _=>Y) Y fun K1 m1 hK1 i1=> ?_;refine gc Y ?_ ?_
 ·refine gV Y fun ex1=> ?_;refine gK (b3e _ _) Y Y Y fun v1=> ?_;refine gc Y ?_ ?_
  ·exact gr
  refine a1h ((fun k0 m(s:Int)=>ref35_Names_L2 n l1 i1 k0 m s) _) (fun(s:Int)=> [.v 4 (.int .i64 s)]) (fun _=>Y) _ Y Y (fun _=>Y) Y fun K2 m2 hK2 k1=> ?_;refine gc Y ?_ ?_
  ·refine gG Y (by kernel_rfl) ?_;refine gV Y fun ex2=> ?_;refine gV Y fun ex3=> ?_;refine gc Y ?_ ?_
   ·exact gr
   exact ge hK2 _
  exact ge hK1 _
 exact gr
theorem b3o(n:Nat)(l1:(List Bs))(name1:Bs):FnC Wt 88 [.sl 1 l1,.str name1] (a3x n l1 name1) (fun r=> .int .i64 r):=by
 refine fk (n:=19) Tryz.func88 fun F0 w0 r=> ?_;unfold a3x;refine a1h ((fun k0 m(s:Int)=>ref35_Number_L1 n l1 name1 k0 m s) _) (fun(s:Int)=> [.v 5 (.int .i64 s)]) (fun _=>Y) _ Y Y (fun _=>Y) Y fun K1 m1 hK1 i1=> ?_;refine gc Y ?_ ?_
 ·refine gV Y fun ex1=> ?_;refine gc Y ?_ ?_
  ·exact gr
  exact ge hK1 _
 exact gr
theorem b1a(n:Nat)(ax1:Int)(b1:Int):FnC Wt 202 [.int .i64 ax1,.int .i64 b1] (a8b n ax1 b1) (fun r=> .int .i64 r):=by
 refine fk (n:=11) Tryz.func202 fun F0 w0 r=> ?_;unfold a8b;refine gJ 3 (fun v1=> [.v 10 (.ob v1)]) Y (fun _=>Y) (fun J1 hJ1=> ?_) (fun v1=> ?_)
 ·refine gd Y ?_ ?_
  ·exact gx hJ1
  exact gx hJ1
 refine gc Y ?_ ?_
 ·exact gr
 exact gr
theorem c4s(n:Nat)(op1:Int)(l1:(List Int)):FnC Wt 152 [.int .i64 op1,.sl 2 l1] (a3b n op1 l1) (fun r=> .tup [.int .i64 r.1,.ob r.2]):=by
 refine fk (n:=98) Tryz.func152 fun F0 w0 r=> ?_;unfold a3b;refine gc Y ?_ ?_
 ·refine gG Y (by kernel_rfl) ?_;refine gV Y fun ex1=> ?_;exact gr
 refine gd Y ?_ ?_
 ·refine gB ?_;refine gT ?_;refine gG Y (by kernel_rfl) ?_;refine gV Y fun ex2=> ?_;refine gd Y ?_ ?_
  ·refine gA ?_;refine gV Y fun ex3=> ?_;refine gB ?_;exact gr
  refine gB ?_;exact gr
 refine gB ?_;refine gc Y ?_ ?_
 ·refine gG Y (by kernel_rfl) ?_;refine gV Y fun ex2=> ?_;refine gd Y ?_ ?_
  ·refine gA ?_;refine gV Y fun ex3=> ?_;refine gB ?_;exact gr
  refine gB ?_;exact gr
 refine gd Y ?_ ?_
 ·refine gB ?_;refine gT ?_;refine gG Y (by kernel_rfl) ?_;refine gV Y fun ex4=> ?_;refine gd Y ?_ ?_
  ·refine gA ?_;refine gV Y fun ex5=> ?_;refine gB ?_;exact gr
  refine gB ?_;exact gr
 refine gB ?_;refine gc Y ?_ ?_
 ·refine gG Y (by kernel_rfl) ?_;refine gV Y fun ex4=> ?_;refine gd Y ?_ ?_
  ·refine gA ?_;refine gV Y fun ex5=> ?_;refine gB ?_;exact gr
  refine gB ?_;exact gr
 refine gc Y ?_ ?_
 ·refine gG Y (by kernel_rfl) ?_;refine gV Y fun ex6=> ?_;refine gV Y fun ex7=> ?_;refine gQ (b1a _ _ _) Y Y Y (fun _=>Y) fun v5=> ?_;refine gV Y fun ex8=> ?_;refine gd Y ?_ ?_
  ·refine gA ?_;refine gV Y fun ex10=> ?_;refine gB ?_;refine gd Y ?_ ?_
   ·refine gA ?_;refine gV Y fun ex9=> ?_;refine gB ?_;exact gr
   refine gB ?_;exact gr
  refine gB ?_;refine gFb ?_;refine gB ?_;exact gr
 refine gV Y fun ex11=> ?_;refine gJ 5 (fun v8=> [.v 74 (.ob v8)]) Y (fun _=>Y) (fun J1 hJ1=> ?_) (fun v8=> ?_)
 ·refine gd Y ?_ ?_
  ·refine gA ?_;refine gV Y fun ex16=> ?_;exact gx hJ1
  exact gx hJ1
 refine gd Y ?_ ?_
 ·refine gA ?_;refine gd Y ?_ ?_
  ·refine gA ?_;refine gV Y fun ex14=> ?_;refine gA ?_;refine gd Y ?_ ?_
   ·refine gB ?_;refine gB ?_;refine gB ?_;refine gG Y (by kernel_rfl) ?_;refine gV Y fun ex12=> ?_;refine gV Y fun ex13=> ?_;refine gQ (b1a _ _ _) Y Y Y (fun _=>Y) fun v9=> ?_;exact gr
   refine gA ?_;refine gV Y fun ex15=> ?_;refine gB ?_;refine gB ?_;refine gB ?_;refine gG Y (by kernel_rfl) ?_;refine gV Y fun ex12=> ?_;refine gV Y fun ex13=> ?_;refine gQ (b1a _ _ _) Y Y Y (fun _=>Y) fun v9=> ?_;exact gr
  refine gB ?_;refine gB ?_;refine gG Y (by kernel_rfl) ?_;refine gV Y fun ex12=> ?_;refine gV Y fun ex13=> ?_;refine gQ (b1a _ _ _) Y Y Y (fun _=>Y) fun v9=> ?_;exact gr
 refine gB ?_;refine gG Y (by kernel_rfl) ?_;refine gV Y fun ex12=> ?_;refine gV Y fun ex13=> ?_;refine gQ (b1a _ _ _) Y Y Y (fun _=>Y) fun v9=> ?_;exact gr
theorem c1l(n:Nat):∀(x1:Expr)(names1:(List Bs)),FnC Wt 84 [.agg [.int .i64 x1.Op,.int .i64 x1.N,.str x1.Name,.sl 0 x1.Args],.sl 1 names1] (ref35_typed n x1 names1) (fun r=> .tup [.int .i64 r.1,.int .i64 r.2]):=by
 induction n with
 |zero=>exact fun _ _=>b1k (fun _ _=>by kernel_rfl)
 |succ n ih=>
  intro x1 names1;refine fk (n:=91) Tryz.func84 fun F0 w0 r=> ?_;rw [ref35_typed_s];refine a1h ((fun k0 m(s:Int×List Int)=>ref35_typed_L1 n (ref35_typed n) x1 names1 k0 m s.1 s.2) _) (fun(s:Int×List Int)=> [.r 6 2 s.2,.v 7 (.int .i64 s.1)]) (fun _=>Y) (_,_) Y Y (fun _=>Y) Y fun K1 m1 hK1 z1=> ?_;obtain⟨i1,l1⟩:=z1;dsimp only;refine gc Y ?_ ?_
  ·refine gV Y fun ex4=> ?_;refine gK (ih _ _) Y Y Y fun v7=> ?_;refine gc Y ?_ ?_
   ·exact gr
   refine gP Y fun l3=> ?_;exact ge hK1 (_,_)
  refine gJ 4 (fun v1=> [.v 44 (.ob v1)]) Y (fun _=>Y) (fun J2 hJ2=> ?_) (fun v1=> ?_)
  ·refine gd Y ?_ ?_
   ·exact gx hJ2
   exact gx hJ2
  refine gJ 6 (fun v2=> [.v 51 (.ob v2)]) Y (fun _=>Y) (fun J3 hJ3=> ?_) (fun v2=> ?_)
  ·refine gd Y ?_ ?_
   ·refine gA ?_;refine gK (b3o _ _ _) Y Y Y fun v6=> ?_;exact gx hJ3
   exact gx hJ3
  refine gc Y ?_ ?_
  ·exact gr
  refine gc Y ?_ ?_
  ·exact gr
  refine gc Y ?_ ?_
  ·exact gr
  refine gc Y ?_ ?_
  ·refine gV Y fun ex1=> ?_;refine gJ 7 (fun v3=> [.v 74 (.ob v3)]) Y (fun _=>Y) (fun J4 hJ4=> ?_) (fun v3=> ?_)
   ·refine gd Y ?_ ?_
    ·refine gA ?_;refine gV Y fun ex3=> ?_;exact gx hJ4
    exact gx hJ4
   refine gc Y ?_ ?_
   ·exact gr
   refine gV Y fun ex2=> ?_;refine gc Y ?_ ?_
   ·exact gr
   refine gK (c4s _ _ _) Y Y Y fun v4=> ?_;refine gc Y ?_ ?_
   ·exact gr
   exact gr
  refine gK (c4s _ _ _) Y Y Y fun v5=> ?_;refine gc Y ?_ ?_
  ·exact gr
  exact gr
theorem c2u(n:Nat)(x1:Expr)(names1:(List Bs)):FnC Wt 64 [.agg [.int .i64 x1.Op,.int .i64 x1.N,.str x1.Name,.sl 0 x1.Args],.sl 1 names1] (b0s n x1 names1) (fun r=> .tup [.int .i64 r.1,.int .i64 r.2]):=by
 refine fk (n:=22) Tryz.func64 fun F0 w0 r=> ?_;unfold b0s;refine gK (c0e _ _) Y Y Y fun v1=> ?_;refine gc Y ?_ ?_
 ·exact gr
 refine gK (c2r _ _) Y Y Y fun v2=> ?_;refine gc Y ?_ ?_
 ·exact gr
 refine gK (c1l _ _ _) Y Y Y fun v3=> ?_;exact gr
theorem c9x(n:Nat)(t1:Tariff)(names1:(List Bs)):FnC Wt 40 [.agg [.str t1.Name,.int .i64 t1.Fee.Op,.int .i64 t1.Fee.N,.str t1.Fee.Name,.sl 0 t1.Fee.Args,.int .i64 t1.Cap],.sl 1 names1] (b5c n t1 names1) (fun r=> .int .i64 r):=by
 refine fk (n:=27) Tryz.func40 fun F0 w0 r=> ?_;unfold b5c;refine gK (c0e _ _) Y Y Y fun v1=> ?_;refine gc Y ?_ ?_
 ·exact gr
 refine gK (c5n _ _) Y Y Y fun v2=> ?_;refine gc Y ?_ ?_
 ·exact gr
 refine gK (c1l _ _ _) Y Y Y fun v3=> ?_;refine gJ 3 (fun v4=> [.v 25 (.ob v4)]) Y (fun _=>Y) (fun J1 hJ1=> ?_) (fun v4=> ?_)
 ·refine gd Y ?_ ?_
  ·exact gx hJ1
  exact gx hJ1
 refine gc Y ?_ ?_
 ·exact gr
 exact gr
set_option maxRecDepth 1000000
set_option maxHeartbeats 40000000
theorem d0r(n:Nat)(f1:Facts)(nx1:Int):FnC Wt 41 [.agg [.sl 2 f1.Lifts,.int .i64 f1.Persons,.int .i64 f1.Flats],.int .i64 nx1] (b2d n f1 nx1) (fun r=> .ob r):=by
 refine fk (n:=52) Tryz.func41 fun F0 w0 r=> ?_;unfold b2d;refine a1h ((fun k0 m(s:Int)=>ref36_Right_L1 n f1 k0 m s) _) (fun(s:Int)=> [.v 5 (.int .i64 s)]) (fun _=>Y) _ Y Y (fun _=>Y) Y fun K1 m1 hK1 i1=> ?_;refine gc Y ?_ ?_
 ·refine gV Y fun ex1=> ?_;refine gJ 7 (fun v5=> [.v 26 (.ob v5)]) Y (fun _=>Y) (fun J2 hJ2=> ?_) (fun v5=> ?_)
  ·refine gd Y ?_ ?_
   ·exact gx hJ2
   refine gA ?_;refine gV Y fun ex2=> ?_;exact gx hJ2
  refine gc Y ?_ ?_
  ·exact gr
  exact ge hK1 _
 refine gJ 4 (fun v1=> [.v 36 (.ob v1)]) Y (fun _=>Y) (fun J3 hJ3=> ?_) (fun v1=> ?_)
 ·refine gd Y ?_ ?_
  ·exact gx hJ3
  exact gx hJ3
 refine gJ 4 (fun v2=> [.v 41 (.ob v2)]) Y (fun _=>Y) (fun J4 hJ4=> ?_) (fun v2=> ?_)
 ·refine gd Y ?_ ?_
  ·exact gx hJ4
  exact gx hJ4
 refine gJ 4 (fun v3=> [.v 46 (.ob v3)]) Y (fun _=>Y) (fun J5 hJ5=> ?_) (fun v3=> ?_)
 ·refine gd Y ?_ ?_
  ·exact gx hJ5
  exact gx hJ5
 refine gJ 4 (fun v4=> [.v 51 (.ob v4)]) Y (fun _=>Y) (fun J6 hJ6=> ?_) (fun v4=> ?_)
 ·refine gd Y ?_ ?_
  ·exact gx hJ6
  exact gx hJ6
 exact gr
theorem b1s(n:Nat)(nx1:Int):FnC Wt 203 [.int .i64 nx1] (a7t n nx1) (fun r=> .agg [.int .i64 r.N.P.Sign,.sl 2 r.N.P.Digits,.int .i64 r.N.Q.Sign,.sl 2 r.N.Q.Digits,.ob r.Is]):=by
 refine fk (n:=6) Tryz.func203 fun F0 w0 r=> ?_;unfold a7t;refine gK (a6r _ _) Y Y Y fun v1=> ?_;exact gr
theorem d2d(n:Nat)(x1:Expr)(names1:(List Bs))(f1:Facts)(weights1:(List Frac)):FnC Wt 154 [.agg [.int .i64 x1.Op,.int .i64 x1.N,.str x1.Name,.sl 0 x1.Args],.sl 1 names1,.agg [.sl 2 f1.Lifts,.int .i64 f1.Persons,.int .i64 f1.Flats],.sl 3 weights1] (b4j n x1 names1 f1 weights1) (fun r=> .agg [.int .i64 r.N.P.Sign,.sl 2 r.N.P.Digits,.int .i64 r.N.Q.Sign,.sl 2 r.N.Q.Digits,.ob r.Is]):=by
 refine fk (n:=44) Tryz.func154 fun F0 w0 r=> ?_;unfold b4j;cases x1;refine gK (b3o _ _ _) Y Y Y fun v1=> ?_;refine gc Y ?_ ?_
 ·refine gK (b1s _ _) Y Y Y fun v2=> ?_;exact gr
 refine gc Y ?_ ?_
 ·refine gV Y fun ex1=> ?_;refine gK (b1s _ _) Y Y Y fun v3=> ?_;exact gr
 refine gc Y ?_ ?_
 ·refine gK (b1s _ _) Y Y Y fun v4=> ?_;exact gr
 refine gc Y ?_ ?_
 ·refine gK (b1s _ _) Y Y Y fun v5=> ?_;exact gr
 refine gV Y fun ex2=> ?_;exact gr
theorem d3y(n:Nat)(op1:Int)(ax1:Frac)(b1:Frac):FnC Wt 155 [.int .i64 op1,.agg [.int .i64 ax1.P.Sign,.sl 2 ax1.P.Digits,.int .i64 ax1.Q.Sign,.sl 2 ax1.Q.Digits],.agg [.int .i64 b1.P.Sign,.sl 2 b1.P.Digits,.int .i64 b1.Q.Sign,.sl 2 b1.Q.Digits]] (b3y n op1 ax1 b1) (fun r=> .agg [.int .i64 r.N.P.Sign,.sl 2 r.N.P.Digits,.int .i64 r.N.Q.Sign,.sl 2 r.N.Q.Digits,.ob r.Is]):=by
 refine fk (n:=78) Tryz.func155 fun F0 w0 r=> ?_;unfold b3y;refine gM (fun j1=> [.b 7 [.int .i64 j1.1,.sl 2 j1.2.1,.int .i64 j1.2.2.1,.sl 2 j1.2.2.2]]) Y (fun _=>Y) (fun J1 hJ1=> ?_) (fun j1=> ?_)
 ·refine gd Y ?_ ?_
  ·refine gA ?_;refine gK (b4l _ _ _) Y Y Y fun v6=> ?_;exact gx hJ1
  refine gd Y ?_ ?_
  ·refine gA ?_;refine gK (d3f _ _ _) Y Y Y fun v7=> ?_;exact gx hJ1
  refine gd Y ?_ ?_
  ·refine gA ?_;refine gK (b4r _ _ _) Y Y Y fun v8=> ?_;exact gx hJ1
  refine gd Y ?_ ?_
  ·refine gA ?_;refine gK (c6i _ _ _) Y Y Y fun v9=> ?_;exact gx hJ1
  refine gd Y ?_ ?_
  ·refine gA ?_;refine gK (d3c _ _ _) Y Y Y fun v10=> ?_;exact gx hJ1
  refine gd Y ?_ ?_
  ·refine gA ?_;refine gK (d4t _ _ _) Y Y Y fun v11=> ?_;exact gx hJ1
  exact gx hJ1
 obtain⟨f1,f2,f3,f4⟩:=j1;dsimp only;refine gHs [(0,(pL [0,2,5] .nil)),(1,(pL [0,3,5] .nil)),(4,(pL [0,2,5,7,8,10,13] .nil)),(6,(pL [0,2,5,7,8,10,13] .nil)),(8,(pL [0,2,5,7,8,10,13] .nil)),(10,(pL [0,2,5,7,8,10,13] .nil)),(12,(pL [0,2,5,7,8,10,13] .nil)),(14,(pL [0,2,5,7,8,10,13] .nil)),(15,(pL [2,4,6,0,8,10,13,15,17,19,21,23,25,26,29,31,33,35,37,39,41] .nil))] Y (by kernel_rfl) Y Y fun Ky=> ?_;refine gd Y ?_ ?_
 ·refine gA ?_;refine gK (a4y _ _ _) Y Y Y fun v5=> ?_;refine gB ?_;refine gd Y ?_ ?_
  ·refine gB ?_;refine gHe Y ?_;exact gr
  refine gA ?_;refine gd Y ?_ ?_
  ·refine gA ?_;refine gK (a4y _ _ _) Y Y Y fun v4=> ?_;refine gB ?_;refine gB ?_;refine gHe Y ?_;exact gr
  refine gB ?_;refine gB ?_;refine gHe Y ?_;exact gr
 refine gB ?_;refine gFb ?_;refine gA ?_;refine gd Y ?_ ?_
 ·refine gA ?_;refine gK (a4y _ _ _) Y Y Y fun v4=> ?_;refine gB ?_;refine gB ?_;refine gHe Y ?_;exact gr
 refine gB ?_;refine gB ?_;refine gHe Y ?_;exact gr
theorem b7g(n:Nat):∀(x1:Expr)(names1:(List Bs))(f1:Facts)(weights1:(List Frac)),FnC Wt 86 [.agg [.int .i64 x1.Op,.int .i64 x1.N,.str x1.Name,.sl 0 x1.Args],.sl 1 names1,.agg [.sl 2 f1.Lifts,.int .i64 f1.Persons,.int .i64 f1.Flats],.sl 3 weights1] (ref36_Eval n x1 names1 f1 weights1) (fun r=> .agg [.int .i64 r.N.P.Sign,.sl 2 r.N.P.Digits,.int .i64 r.N.Q.Sign,.sl 2 r.N.Q.Digits,.ob r.Is]):=by
 induction n with
 |zero=>exact fun _ _ _ _=>b1k (fun _ _=>by kernel_rfl)
 |succ n ih=>
  intro x1 names1 f1 weights1;refine fk (n:=99) Tryz.func86 fun F0 w0 r=> ?_;rw [ref36_Eval_s];refine gc Y ?_ ?_
  ·refine gK (d2d _ _ _ _ _) Y Y Y fun v1=> ?_;exact gr
  refine a1h ((fun k0 m(s:Int×List Result)=>ref36_Eval_L1 n (ref36_Eval n) x1 names1 f1 weights1 k0 m s.1 s.2) _) (fun(s:Int×List Result)=> [.r 9 8 s.2,.v 10 (.int .i64 s.1)]) (fun _=>Y) (_,_) Y Y (fun _=>Y) Y fun K1 m1 hK1 z1=> ?_;obtain⟨i1,l1⟩:=z1;dsimp only;refine gc Y ?_ ?_
  ·refine gHs [(7,(pL [0,2,4,6,8,10,12,14,16,19,21,23,25] .nil)),(16,(pL [0,2,4,6,8,10,12,14,16,18,21,23] .nil)),(18,(pL [0,2,4,6,8,10,12,14,16,18,21,23] .nil)),(19,(pL [0,2,4,6,8,10,12,14,16,18,21,23] .nil))] Y (by kernel_rfl) Y Y fun Ky=> ?_;refine gV Y fun ex11=> ?_;refine gK (ih _ _ _ _) Y Y Y fun v5=> ?_;refine gP Y fun l3=> ?_;refine gHe Y ?_;exact ge hK1 (_,_)
  refine gc Y ?_ ?_
  ·refine gV Y fun ex1=> ?_;refine gc Y ?_ ?_
   ·refine gV Y fun ex2=> ?_;exact gr
   refine gV Y fun ex3=> ?_;exact gr
  refine gc Y ?_ ?_
  ·refine gV Y fun ex4=> ?_;exact gr
  refine gc Y ?_ ?_
  ·refine gV Y fun ex5=> ?_;refine gJ 5 (fun v2=> [.v 73 (.ob v2)]) Y (fun _=>Y) (fun J2 hJ2=> ?_) (fun v2=> ?_)
   ·refine gd Y ?_ ?_
    ·refine gA ?_;refine gV Y fun ex6=> ?_;exact gx hJ2
    exact gx hJ2
   exact gr
  refine gc Y ?_ ?_
  ·refine gV Y fun ex7=> ?_;refine gJ 5 (fun v3=> [.v 86 (.ob v3)]) Y (fun _=>Y) (fun J3 hJ3=> ?_) (fun v3=> ?_)
   ·refine gd Y ?_ ?_
    ·exact gx hJ3
    refine gA ?_;refine gV Y fun ex8=> ?_;exact gx hJ3
   exact gr
  refine gHs [(7,(pL [0,2,4,6,8,10,12,14,16,19,21,23,25] .nil)),(16,(pL [0,2,4,6,8,10,12,14,16,18,21,23] .nil)),(18,(pL [0,2,4,6,8,10,12,14,16,18,21,23] .nil)),(19,(pL [0,2,4,6,8,10,12,14,16,18,21,23] .nil))] Y (by kernel_rfl) Y Y fun Ky=> ?_;refine gV Y fun ex9=> ?_;refine gV Y fun ex10=> ?_;refine gK (d3y _ _ _ _) Y Y Y fun v4=> ?_;refine gHe Y ?_;exact gr
set_option maxRecDepth 1000000
set_option maxHeartbeats 40000000
theorem c1n(n:Nat)(nx1:Int):FnO Wt 153 [.int .i64 nx1] (a6a n nx1) 44 4 3 (fun r=>r):=by
 refine b7j (n:=16) Tryz.func153 Y Y Y (fun _ _=>by kernel_rfl) fun F0 w0 r=> ?_;unfold a6a;refine a1h ((fun k0 m(s:Int×List Frac)=>ref37_zeros_L1 n nx1 k0 m s.1 s.2) _) (fun(s:Int×List Frac)=> [.r 3 3 s.2,.v 4 (.int .i64 s.1)]) (fun _=>Y) (_,_) Y Y (fun _=>Y) Y fun K1 m1 hK1 z1=> ?_;obtain⟨i1,l1⟩:=z1;dsimp only;refine gc Y ?_ ?_
 ·refine gK (a6r _ _) Y Y Y fun v1=> ?_;refine gP Y fun l3=> ?_;exact ge hK1 (_,_)
 exact gRO Y
theorem b5u(n:Nat)(c1:Frac)(nx1:Int):FnC Wt 85 [.agg [.int .i64 c1.P.Sign,.sl 2 c1.P.Digits,.int .i64 c1.Q.Sign,.sl 2 c1.Q.Digits],.int .i64 nx1] (a2x n c1 nx1) (fun r=> .agg [.sl 4 r.Pieces]):=by
 refine fk (n:=12) Tryz.func85 fun F0 w0 r=> ?_;unfold a2x;refine gHs [(1,(pL [0,2,5,7,9,11,13,15] .nil))] Y (by kernel_rfl) Y Y fun Ky=> ?_;refine gO (c1n _ _) Y Y Y fun v1=> ?_;refine gZ Y ?_;refine gZ Y ?_;refine gHe Y ?_;exact gr
theorem d4u(n:Nat)(v1:Frac)(nx1 k:Int):(a2x n v1 nx1).bind (fun v2=>(ix v2.Pieces 0).bind fun ex1=>(ix ex1 0).bind fun ex2=>(a2v n 1).bind fun v3=>(ix ex2.Coefs k).bind fun _=>(setw v2.Pieces k v3).bind fun p1=>some (⟨p1⟩:Form))=
 (a6a n nx1).bind fun l=>(a2v n 1).bind fun v3=>(ix l k).bind fun _=>(lset l k v3).bind fun l2=>some (⟨[[(⟨v1,l2⟩:Afn)]]⟩:Form):=by
 unfold a2x;rw [Option.bind_assoc];congr 1;funext l;show(a2v n 1).bind _=_
 congr 1;funext v3
 show(ix l k).bind _=_
 congr 1;funext z
 show((lset l k v3).bind _).bind _=_;rw [Option.bind_assoc];rfl
theorem e0l(n:Nat)(c1:Frac)(nx1:Int):FnG Wt 85 [.agg [.int .i64 c1.P.Sign,.sl 2 c1.P.Digits,.int .i64 c1.Q.Sign,.sl 2 c1.Q.Digits],.int .i64 nx1] (a6a n nx1)
 (fun r=> [.box 44 [.int .i64 c1.P.Sign,.sl 2 c1.P.Digits,.int .i64 c1.Q.Sign,.sl 2 c1.Q.Digits],.box 34 [.sb 5 4 1],.gone,.row 44 4 3 r,.box 62 [.int .i64 c1.P.Sign,.sl 2 c1.P.Digits,.int .i64 c1.Q.Sign,.sl 2 c1.Q.Digits,.row 3],.box 57 [.sb 4 5 1]]) (fun _=> .agg [.sb 5 4 1]):=by
 refine f3r (n:=12) Tryz.func85 Y Y Y (fun _ _=>by kernel_rfl) fun F0 w0 r=> ?_;refine gEq (show a6a n nx1=(a6a n nx1).bind some by cases a6a n nx1<;>rfl) ?_;refine gHs [(1,(pL [0,2,5,7,9,11,13,15] .nil))] Y (by kernel_rfl) Y Y fun Ky=> ?_;refine gO (c1n _ _) Y Y Y fun v1=> ?_;refine gBs Y ?_;refine gBs Y ?_;refine gHe Y ?_;exact gRG Y
theorem c7t(n:Nat)(k1:Int)(nx1:Int):FnC Wt 87 [.int .i64 k1,.int .i64 nx1] (b1i n k1 nx1) (fun r=> .agg [.sl 4 r.Pieces]):=by
 refine fk (n:=20) Tryz.func87 fun F0 w0 r=> ?_;unfold b1i;refine gK (a6r _ _) Y Y Y fun v1=> ?_;refine gEq (d4u _ _ _ _) ?_;refine gGc (e0l _ _ _) Y Y Y fun l=> ?_;refine gHs [(2,(pL [0,2,4,6,8,10,12,14,17,19,21] .nil))] Y (by kernel_rfl) Y Y fun Ky=> ?_;refine gK (a6r _ _) Y Y Y fun v3=> ?_;refine gV Y fun z=> ?_;refine gW Y Y fun l2=> ?_;refine gHe Y ?_;refine gFi 4 Y ?_;refine gFs 5 5 5 1 Y Y ?_;refine gFs 6 4 1 1 Y Y ?_;exact gr
theorem b4o(n:Nat)(ax1:Afn)(b1:Afn):FnC Wt 205 [.agg [.int .i64 ax1.Const.P.Sign,.sl 2 ax1.Const.P.Digits,.int .i64 ax1.Const.Q.Sign,.sl 2 ax1.Const.Q.Digits,.sl 3 ax1.Coefs],.agg [.int .i64 b1.Const.P.Sign,.sl 2 b1.Const.P.Digits,.int .i64 b1.Const.Q.Sign,.sl 2 b1.Const.Q.Digits,.sl 3 b1.Coefs]] (b6y n ax1 b1) (fun r=> .agg [.int .i64 r.Const.P.Sign,.sl 2 r.Const.P.Digits,.int .i64 r.Const.Q.Sign,.sl 2 r.Const.Q.Digits,.sl 3 r.Coefs]):=by
 refine fk (n:=56) Tryz.func205 fun F0 w0 r=> ?_;unfold b6y;refine gK (b4l _ _ _) Y Y Y fun v1=> ?_;refine a1h ((fun k0 m(s:Int×List Frac)=>ref37_add_L1 n ax1 b1 k0 m s.1 s.2) _) (fun(s:Int×List Frac)=> [.br 7 4 3 s.2,.v 8 (.int .i64 s.1)]) (fun _=>Y) (_,_) Y Y (fun _=>Y) Y fun K1 m1 hK1 z1=> ?_;obtain⟨i1,l1⟩:=z1;dsimp only;refine gJ 6 (fun v2=> [.v 32 (.ob v2)]) Y (fun _=>Y) (fun J2 hJ2=> ?_) (fun v2=> ?_)
 ·refine gd Y ?_ ?_
  ·exact gx hJ2
  exact gx hJ2
 refine gc Y ?_ ?_
 ·refine gA ?_;refine gHs [(6,(pL [0,2,4,6,8,10,12,14,16,18] (.two 10 14 (pL [22,24,26,29,31,33] .nil) (pL [21,23,24,26,31,33] .nil))))] Y (by kernel_rfl) Y Y fun Ky=> ?_;refine gV Y fun ex1=> ?_;refine gA ?_;refine gV Y fun ex2=> ?_;refine gA ?_;try refine gH2 rfl ?_ ?_
  all_goals
   refine gK (b4l _ _ _) Y Y Y fun v3=> ?_;refine gB ?_;refine gHe Y ?_;refine gP Y fun l3=> ?_;exact ge hK1 (_,_)
 exact gr
theorem c1q(n:Nat)(ax1:Afn)(f1:Frac):FnC Wt 204 [.agg [.int .i64 ax1.Const.P.Sign,.sl 2 ax1.Const.P.Digits,.int .i64 ax1.Const.Q.Sign,.sl 2 ax1.Const.Q.Digits,.sl 3 ax1.Coefs],.agg [.int .i64 f1.P.Sign,.sl 2 f1.P.Digits,.int .i64 f1.Q.Sign,.sl 2 f1.Q.Digits]] (a5x n ax1 f1) (fun r=> .agg [.int .i64 r.Const.P.Sign,.sl 2 r.Const.P.Digits,.int .i64 r.Const.Q.Sign,.sl 2 r.Const.Q.Digits,.sl 3 r.Coefs]):=by
 refine fk (n:=44) Tryz.func204 fun F0 w0 r=> ?_;unfold a5x;refine gK (b4r _ _ _) Y Y Y fun v1=> ?_;refine a1h ((fun k0 m(s:Int×List Frac)=>ref37_times_L1 n ax1 f1 k0 m s.1 s.2) _) (fun(s:Int×List Frac)=> [.br 7 4 3 s.2,.v 8 (.int .i64 s.1)]) (fun _=>Y) (_,_) Y Y (fun _=>Y) Y fun K1 m1 hK1 z1=> ?_;obtain⟨i1,l1⟩:=z1;dsimp only;refine gc Y ?_ ?_
 ·refine gA ?_;refine gHs [(6,(pL [0,2,4,6,8,10] (.two 6 10 (pL [14,16,18,21,23,25] .nil) (pL [13,15,16,18,23,25] .nil))))] Y (by kernel_rfl) Y Y fun Ky=> ?_;refine gV Y fun ex1=> ?_;refine gA ?_;try refine gH2 rfl ?_ ?_
  all_goals
   refine gK (b4r _ _ _) Y Y Y fun v2=> ?_;refine gB ?_;refine gHe Y ?_;refine gP Y fun l3=> ?_;exact ge hK1 (_,_)
 exact gr
theorem a9l(n:Nat)(f1:Form):FnC Wt 36 [.agg [.sl 4 f1.Pieces]] (a3r n f1) (fun r=> .int .i64 r):=by
 refine fk (n:=21) Tryz.func36 fun F0 w0 r=> ?_;unfold a3r;refine a1h ((fun k0 m(s:Int×Int)=>ref37_Size_L1 n f1 k0 m s.1 s.2) _) (fun(s:Int×Int)=> [.v 3 (.int .i64 s.1),.v 4 (.int .i64 s.2)]) (fun _=>Y) (_,_) Y Y (fun _=>Y) Y fun K1 m1 hK1 z1=> ?_;obtain⟨nx1,i1⟩:=z1;dsimp only;refine gc Y ?_ ?_
 ·refine gV Y fun ex1=> ?_;exact ge hK1 (_,_)
 exact gr
theorem b8s(n:Nat)(f1:Form)(byx1:Frac):FnC Wt 157 [.agg [.sl 4 f1.Pieces],.agg [.int .i64 byx1.P.Sign,.sl 2 byx1.P.Digits,.int .i64 byx1.Q.Sign,.sl 2 byx1.Q.Digits]] (a6n n f1 byx1) (fun r=> .agg [.sl 4 r.Pieces]):=by
 refine fk (n:=48) Tryz.func157 fun F0 w0 r=> ?_;unfold a6n;refine a1h ((fun k0 m(s:Int×List (List Afn)×(List (List Afn))×Int×(List Int)×Int×(List Int)×(List (List Afn)))=>ref37_scaled_L1 n k0 m s.1 s.2.1 s.2.2.1 s.2.2.2.1 s.2.2.2.2.1 s.2.2.2.2.2.1 s.2.2.2.2.2.2.1 s.2.2.2.2.2.2.2) _) (fun(s:Int×List (List Afn)×(List (List Afn))×Int×(List Int)×Int×(List Int)×(List (List Afn)))=> [.b 2 [.sl 4 s.2.2.2.2.2.2.2],.b 3 [.int .i64 s.2.2.2.1,.sl 2 s.2.2.2.2.1,.int .i64 s.2.2.2.2.2.1,.sl 2 s.2.2.2.2.2.2.1],.b 4 [.sl 4 s.2.2.1],.br 5 0 4 s.2.1,.v 6 (.int .i64 s.1)]) (fun _=>Y) (_,_,_,_,_,_,_,_) Y Y (fun _=>Y) Y fun K1 m1 hK1 z1=> ?_;obtain⟨i1,l1,f2,f3,f4,f5,f6,f7⟩:=z1;dsimp only;refine gc Y ?_ ?_
 ·refine a1h ((fun k0 m(s:Int×List Afn)=>ref37_scaled_L2 n i1 f3 f4 f5 f6 f7 k0 m s.1 s.2) _) (fun(s:Int×List Afn)=> [.r 7 5 s.2,.v 8 (.int .i64 s.1)]) (fun _=>Y) (_,_) Y Y (fun _=>Y) Y fun K2 m2 hK2 z2=> ?_;obtain⟨k1,l3⟩:=z2;dsimp only;refine gV Y fun ex1=> ?_;refine gc Y ?_ ?_
  ·refine gHs [(9,(pL [0,2,4,6,8,10,12,14,16,18,21,23,25,27] .nil))] Y (by kernel_rfl) Y Y fun Ky=> ?_;refine gV Y fun ex2=> ?_;refine gV Y fun ex3=> ?_;refine gK (c1q _ _ _) Y Y Y fun v1=> ?_;refine gP Y fun l6=> ?_;refine gHe Y ?_;exact ge hK2 (_,_)
  refine gZ Y ?_;refine gP Y fun l5=> ?_;exact ge hK1 (_,_,_,_,_,_,_,_)
 exact gr
theorem b5o(n:Nat)(f1:Form):FnC Wt 158 [.agg [.sl 4 f1.Pieces]] (a3d n f1) (fun r=> .tup [.agg [.sl 4 r.1.Pieces],.ob r.2]):=by
 refine fk (n:=84) Tryz.func158 fun F0 w0 r=> ?_;unfold a3d;refine a1h ((fun k0 m(s:Int×Int)=>ref37_opposite_L1 n f1 k0 m s.1 s.2) _) (fun(s:Int×Int)=> [.v 4 (.int .i64 s.1),.v 5 (.int .i64 s.2)]) (fun _=>Y) (_,_) Y Y (fun _=>Y) Y fun K1 m1 hK1 z1=> ?_;obtain⟨choices1,i1⟩:=z1;dsimp only;refine gc Y ?_ ?_
 ·refine gV Y fun ex5=> ?_;refine gc Y ?_ ?_
  ·exact gr
  exact ge hK1 (_,_)
 refine a1h ((fun k0 m(s:Int×List (List Afn)×(List (List Afn))×(List (List Afn)))=>ref37_opposite_L2 n choices1 k0 m s.1 s.2.1 s.2.2.1 s.2.2.2) _) (fun(s:Int×List (List Afn)×(List (List Afn))×(List (List Afn)))=> [.b 1 [.sl 4 s.2.2.2],.b 2 [.sl 4 s.2.2.1],.br 6 0 4 s.2.1,.v 7 (.int .i64 s.1)]) (fun _=>Y) (_,_,_,_) Y Y (fun _=>Y) Y fun K2 m2 hK2 z2=> ?_;obtain⟨nx1,l1,f2,f3⟩:=z2;dsimp only;refine gc Y ?_ ?_
 ·refine gMk wzOk Y fun l3=> ?_;refine a1h ((fun k0 m(s:Int×Int×List Afn)=>ref37_opposite_L3 n f3 k0 m s.1 s.2.1 s.2.2) _) (fun(s:Int×Int×List Afn)=> [.r 8 5 s.2.2,.v 9 (.int .i64 s.1),.v 10 (.int .i64 s.2.1)]) (fun _=>Y) (_,_,_) Y Y (fun _=>Y) Y fun K3 m3 hK3 z3=> ?_;obtain⟨rest1,i2,l4⟩:=z3;dsimp only;refine gc Y ?_ ?_
  ·refine gV Y fun ex1=> ?_;refine gHs [(18,(pL [0,2,4,6,8,10,12,14,16,18,20,22,25,27,29,31] .nil))] Y (by kernel_rfl) Y Y fun Ky=> ?_;refine gV Y fun ex2=> ?_;refine gV Y fun q1=> ?_;refine gV Y fun ex3=> ?_;refine gK (a6r _ _) Y Y Y fun v1=> ?_;refine gK (c1q _ _ _) Y Y Y fun v2=> ?_;refine gV Y fun _=> ?_;refine gW Y Y fun l7=> ?_;refine gHe Y ?_;refine gV Y fun q2=> ?_;exact ge hK3 (_,_,_)
  refine gZ Y ?_;refine gP Y fun l6=> ?_;exact ge hK2 (_,_,_,_)
 exact gr
theorem c7h(n:Nat)(ax1:Form)(b1:Form)(sum1:Bool):FnC Wt 160 [.agg [.sl 4 ax1.Pieces],.agg [.sl 4 b1.Pieces],.ob sum1] (a6o n ax1 b1 sum1) (fun r=> .tup [.agg [.sl 4 r.1.Pieces],.ob r.2]):=by
 refine fk (n:=118) Tryz.func160 fun F0 w0 r=> ?_;unfold a6o;refine gG Y (by kernel_rfl) ?_;refine gQ (a9l _ _) Y Y Y (fun _=>Y) fun v1=> ?_;refine gQ (a9l _ _) Y Y Y (fun _=>Y) fun v2=> ?_;refine gd Y ?_ ?_
 ·refine gA ?_;refine gG Y (by kernel_rfl) ?_;refine gQ (a9l _ _) Y Y Y (fun _=>Y) fun v5=> ?_;refine gA ?_;refine gQ (a9l _ _) Y Y Y (fun _=>Y) fun v6=> ?_;refine gB ?_;refine gc Y ?_ ?_
  ·exact gr
  refine a1h ((fun k0 m(s:Int×List (List Afn)×(List (List Afn))×(List (List Afn))×(List (List Afn)))=>ref37_joined_L1 n sum1 k0 m s.1 s.2.1 s.2.2.1 s.2.2.2.1 s.2.2.2.2) _) (fun(s:Int×List (List Afn)×(List (List Afn))×(List (List Afn))×(List (List Afn)))=> [.b 3 [.sl 4 s.2.2.2.2],.b 4 [.sl 4 s.2.2.2.1],.b 6 [.sl 4 s.2.2.1],.br 9 0 4 s.2.1,.v 10 (.int .i64 s.1)]) (fun _=>Y) (_,_,_,_,_) Y Y (fun _=>Y) Y fun K1 m1 hK1 z1=> ?_;obtain⟨i1,l1,f1,f2,f3⟩:=z1;dsimp only;refine gc Y ?_ ?_
  ·refine a1h ((fun k0 m(s:Int×List (List Afn)×(List (List Afn))×(List (List Afn))×(List (List Afn)))=>ref37_joined_L2 n sum1 i1 k0 m s.1 s.2.1 s.2.2.1 s.2.2.2.1 s.2.2.2.2) _) (fun(s:Int×List (List Afn)×(List (List Afn))×(List (List Afn))×(List (List Afn)))=> [.b 3 [.sl 4 s.2.2.2.2],.b 4 [.sl 4 s.2.2.2.1],.b 6 [.sl 4 s.2.2.1],.br 9 0 4 s.2.1,.v 11 (.int .i64 s.1)]) (fun _=>Y) (_,_,_,_,_) Y Y (fun _=>Y) Y fun K2 m2 hK2 z2=> ?_;obtain⟨k1,l3,f5,f6,f7⟩:=z2;dsimp only;refine gc Y ?_ ?_
   ·refine gd Y ?_ ?_
    ·refine gA ?_;refine gHs [(15,(pL [0,2,4,6,8,10,14,16,18,20,22,13,25,27] .nil)),(22,(pL [0,2,4,6,8,10,12,14,16,18,20,22,24,26,28,30,32,35,37,39,41] .nil))] Y (by kernel_rfl) Y Y fun Ky=> ?_;refine gV Y fun ex7=> ?_;refine gA ?_;refine gV Y fun ex8=> ?_;refine gA ?_;refine gP Y fun l14=> ?_;refine gA ?_;refine gP Y fun l15=> ?_;refine gB ?_;refine gHe Y ?_;refine a1h ((fun k0 m(s:Int×List Afn×List (List Afn)×(List (List Afn))×(List (List Afn))×(List (List Afn)))=>ref37_joined_L3 n sum1 i1 k1 k0 m s.1 s.2.1 s.2.2.1 s.2.2.2.1 s.2.2.2.2.1 s.2.2.2.2.2) _) (fun(s:Int×List Afn×List (List Afn)×(List (List Afn))×(List (List Afn))×(List (List Afn)))=> [.b 3 [.sl 4 s.2.2.2.2.2],.b 4 [.sl 4 s.2.2.2.2.1],.b 6 [.sl 4 s.2.2.2.1],.br 9 0 4 s.2.2.1,.r 12 5 s.2.1,.v 13 (.int .i64 s.1)]) (fun _=>Y) (_,_,_,_,_,_) Y Y (fun _=>Y) Y fun K3 m3 hK3 z3=> ?_;obtain⟨p1,l6,l7,f11,f12,f13⟩:=z3;dsimp only;refine gV Y fun ex1=> ?_;refine gJ 2 (fun v3=> [.v 78 (.ob v3)]) Y (fun _=>Y) (fun J4 hJ4=> ?_) (fun v3=> ?_)
     ·refine gd Y ?_ ?_
      ·exact gx hJ4
      exact gx hJ4
     refine gc Y ?_ ?_
     ·refine a1h ((fun k0 m(s:Int×List Afn)=>ref37_joined_L4 n i1 k1 p1 f12 f13 k0 m s.1 s.2) _) (fun(s:Int×List Afn)=> [.r 12 5 s.2,.v 14 (.int .i64 s.1)]) (fun _=>Y) (_,_) Y Y (fun _=>Y) Y fun K5 m5 hK5 z5=> ?_;obtain⟨q1,l11⟩:=z5;dsimp only;refine gV Y fun ex2=> ?_;refine gc Y ?_ ?_
      ·refine gHs [(15,(pL [0,2,4,6,8,10,14,16,18,20,22,13,25,27] .nil)),(22,(pL [0,2,4,6,8,10,12,14,16,18,20,22,24,26,28,30,32,35,37,39,41] .nil))] Y (by kernel_rfl) Y Y fun Ky=> ?_;refine gV Y fun ex3=> ?_;refine gV Y fun ex4=> ?_;refine gV Y fun ex5=> ?_;refine gV Y fun ex6=> ?_;refine gK (b4o _ _ _) Y Y Y fun v4=> ?_;refine gP Y fun l13=> ?_;refine gHe Y ?_;exact ge hK5 (_,_)
      exact ge hK3 (_,_,_,_,_,_)
     refine gZ Y ?_;refine gP Y fun l10=> ?_;exact ge hK2 (_,_,_,_,_)
    refine gB ?_;refine a1h ((fun k0 m(s:Int×List Afn×List (List Afn)×(List (List Afn))×(List (List Afn))×(List (List Afn)))=>ref37_joined_L3 n sum1 i1 k1 k0 m s.1 s.2.1 s.2.2.1 s.2.2.2.1 s.2.2.2.2.1 s.2.2.2.2.2) _) (fun(s:Int×List Afn×List (List Afn)×(List (List Afn))×(List (List Afn))×(List (List Afn)))=> [.b 3 [.sl 4 s.2.2.2.2.2],.b 4 [.sl 4 s.2.2.2.2.1],.b 6 [.sl 4 s.2.2.2.1],.br 9 0 4 s.2.2.1,.r 12 5 s.2.1,.v 13 (.int .i64 s.1)]) (fun _=>Y) (_,_,_,_,_,_) Y Y (fun _=>Y) Y fun K6 m6 hK6 z6=> ?_;obtain⟨p1,l6,l7,f11,f12,f13⟩:=z6;dsimp only;refine gV Y fun ex1=> ?_;refine gJ 2 (fun v3=> [.v 78 (.ob v3)]) Y (fun _=>Y) (fun J7 hJ7=> ?_) (fun v3=> ?_)
    ·refine gd Y ?_ ?_
     ·exact gx hJ7
     exact gx hJ7
    refine gc Y ?_ ?_
    ·refine a1h ((fun k0 m(s:Int×List Afn)=>ref37_joined_L4 n i1 k1 p1 f12 f13 k0 m s.1 s.2) _) (fun(s:Int×List Afn)=> [.r 12 5 s.2,.v 14 (.int .i64 s.1)]) (fun _=>Y) (_,_) Y Y (fun _=>Y) Y fun K8 m8 hK8 z8=> ?_;obtain⟨q1,l11⟩:=z8;dsimp only;refine gV Y fun ex2=> ?_;refine gc Y ?_ ?_
     ·refine gHs [(15,(pL [0,2,4,6,8,10,14,16,18,20,22,13,25,27] .nil)),(22,(pL [0,2,4,6,8,10,12,14,16,18,20,22,24,26,28,30,32,35,37,39,41] .nil))] Y (by kernel_rfl) Y Y fun Ky=> ?_;refine gV Y fun ex3=> ?_;refine gV Y fun ex4=> ?_;refine gV Y fun ex5=> ?_;refine gV Y fun ex6=> ?_;refine gK (b4o _ _ _) Y Y Y fun v4=> ?_;refine gP Y fun l13=> ?_;refine gHe Y ?_;exact ge hK8 (_,_)
     exact ge hK6 (_,_,_,_,_,_)
    refine gZ Y ?_;refine gP Y fun l10=> ?_;exact ge hK2 (_,_,_,_,_)
   exact ge hK1 (_,_,_,_,_)
  exact gr
 refine gB ?_;refine gc Y ?_ ?_
 ·exact gr
 refine a1h ((fun k0 m(s:Int×List (List Afn)×(List (List Afn))×(List (List Afn))×(List (List Afn)))=>ref37_joined_L1 n sum1 k0 m s.1 s.2.1 s.2.2.1 s.2.2.2.1 s.2.2.2.2) _) (fun(s:Int×List (List Afn)×(List (List Afn))×(List (List Afn))×(List (List Afn)))=> [.b 3 [.sl 4 s.2.2.2.2],.b 4 [.sl 4 s.2.2.2.1],.b 6 [.sl 4 s.2.2.1],.br 9 0 4 s.2.1,.v 10 (.int .i64 s.1)]) (fun _=>Y) (_,_,_,_,_) Y Y (fun _=>Y) Y fun K9 m9 hK9 z9=> ?_;obtain⟨i1,l1,f1,f2,f3⟩:=z9;dsimp only;refine gc Y ?_ ?_
 ·refine a1h ((fun k0 m(s:Int×List (List Afn)×(List (List Afn))×(List (List Afn))×(List (List Afn)))=>ref37_joined_L2 n sum1 i1 k0 m s.1 s.2.1 s.2.2.1 s.2.2.2.1 s.2.2.2.2) _) (fun(s:Int×List (List Afn)×(List (List Afn))×(List (List Afn))×(List (List Afn)))=> [.b 3 [.sl 4 s.2.2.2.2],.b 4 [.sl 4 s.2.2.2.1],.b 6 [.sl 4 s.2.2.1],.br 9 0 4 s.2.1,.v 11 (.int .i64 s.1)]) (fun _=>Y) (_,_,_,_,_) Y Y (fun _=>Y) Y fun K10 m10 hK10 z10=> ?_;obtain⟨k1,l3,f5,f6,f7⟩:=z10;dsimp only;refine gc Y ?_ ?_
  ·refine gd Y ?_ ?_
   ·refine gA ?_;refine gHs [(15,(pL [0,2,4,6,8,10,14,16,18,20,22,13,25,27] .nil)),(22,(pL [0,2,4,6,8,10,12,14,16,18,20,22,24,26,28,30,32,35,37,39,41] .nil))] Y (by kernel_rfl) Y Y fun Ky=> ?_;refine gV Y fun ex7=> ?_;refine gA ?_;refine gV Y fun ex8=> ?_;refine gA ?_;refine gP Y fun l14=> ?_;refine gA ?_;refine gP Y fun l15=> ?_;refine gB ?_;refine gHe Y ?_;refine a1h ((fun k0 m(s:Int×List Afn×List (List Afn)×(List (List Afn))×(List (List Afn))×(List (List Afn)))=>ref37_joined_L3 n sum1 i1 k1 k0 m s.1 s.2.1 s.2.2.1 s.2.2.2.1 s.2.2.2.2.1 s.2.2.2.2.2) _) (fun(s:Int×List Afn×List (List Afn)×(List (List Afn))×(List (List Afn))×(List (List Afn)))=> [.b 3 [.sl 4 s.2.2.2.2.2],.b 4 [.sl 4 s.2.2.2.2.1],.b 6 [.sl 4 s.2.2.2.1],.br 9 0 4 s.2.2.1,.r 12 5 s.2.1,.v 13 (.int .i64 s.1)]) (fun _=>Y) (_,_,_,_,_,_) Y Y (fun _=>Y) Y fun K11 m11 hK11 z11=> ?_;obtain⟨p1,l6,l7,f11,f12,f13⟩:=z11;dsimp only;refine gV Y fun ex1=> ?_;refine gJ 2 (fun v3=> [.v 78 (.ob v3)]) Y (fun _=>Y) (fun J12 hJ12=> ?_) (fun v3=> ?_)
    ·refine gd Y ?_ ?_
     ·exact gx hJ12
     exact gx hJ12
    refine gc Y ?_ ?_
    ·refine a1h ((fun k0 m(s:Int×List Afn)=>ref37_joined_L4 n i1 k1 p1 f12 f13 k0 m s.1 s.2) _) (fun(s:Int×List Afn)=> [.r 12 5 s.2,.v 14 (.int .i64 s.1)]) (fun _=>Y) (_,_) Y Y (fun _=>Y) Y fun K13 m13 hK13 z13=> ?_;obtain⟨q1,l11⟩:=z13;dsimp only;refine gV Y fun ex2=> ?_;refine gc Y ?_ ?_
     ·refine gHs [(15,(pL [0,2,4,6,8,10,14,16,18,20,22,13,25,27] .nil)),(22,(pL [0,2,4,6,8,10,12,14,16,18,20,22,24,26,28,30,32,35,37,39,41] .nil))] Y (by kernel_rfl) Y Y fun Ky=> ?_;refine gV Y fun ex3=> ?_;refine gV Y fun ex4=> ?_;refine gV Y fun ex5=> ?_;refine gV Y fun ex6=> ?_;refine gK (b4o _ _ _) Y Y Y fun v4=> ?_;refine gP Y fun l13=> ?_;refine gHe Y ?_;exact ge hK13 (_,_)
     exact ge hK11 (_,_,_,_,_,_)
    refine gZ Y ?_;refine gP Y fun l10=> ?_;exact ge hK10 (_,_,_,_,_)
   refine gB ?_;refine a1h ((fun k0 m(s:Int×List Afn×List (List Afn)×(List (List Afn))×(List (List Afn))×(List (List Afn)))=>ref37_joined_L3 n sum1 i1 k1 k0 m s.1 s.2.1 s.2.2.1 s.2.2.2.1 s.2.2.2.2.1 s.2.2.2.2.2) _) (fun(s:Int×List Afn×List (List Afn)×(List (List Afn))×(List (List Afn))×(List (List Afn)))=> [.b 3 [.sl 4 s.2.2.2.2.2],.b 4 [.sl 4 s.2.2.2.2.1],.b 6 [.sl 4 s.2.2.2.1],.br 9 0 4 s.2.2.1,.r 12 5 s.2.1,.v 13 (.int .i64 s.1)]) (fun _=>Y) (_,_,_,_,_,_) Y Y (fun _=>Y) Y fun K14 m14 hK14 z14=> ?_;obtain⟨p1,l6,l7,f11,f12,f13⟩:=z14;dsimp only;refine gV Y fun ex1=> ?_;refine gJ 2 (fun v3=> [.v 78 (.ob v3)]) Y (fun _=>Y) (fun J15 hJ15=> ?_) (fun v3=> ?_)
   ·refine gd Y ?_ ?_
    ·exact gx hJ15
    exact gx hJ15
   refine gc Y ?_ ?_
   ·refine a1h ((fun k0 m(s:Int×List Afn)=>ref37_joined_L4 n i1 k1 p1 f12 f13 k0 m s.1 s.2) _) (fun(s:Int×List Afn)=> [.r 12 5 s.2,.v 14 (.int .i64 s.1)]) (fun _=>Y) (_,_) Y Y (fun _=>Y) Y fun K16 m16 hK16 z16=> ?_;obtain⟨q1,l11⟩:=z16;dsimp only;refine gV Y fun ex2=> ?_;refine gc Y ?_ ?_
    ·refine gHs [(15,(pL [0,2,4,6,8,10,14,16,18,20,22,13,25,27] .nil)),(22,(pL [0,2,4,6,8,10,12,14,16,18,20,22,24,26,28,30,32,35,37,39,41] .nil))] Y (by kernel_rfl) Y Y fun Ky=> ?_;refine gV Y fun ex3=> ?_;refine gV Y fun ex4=> ?_;refine gV Y fun ex5=> ?_;refine gV Y fun ex6=> ?_;refine gK (b4o _ _ _) Y Y Y fun v4=> ?_;refine gP Y fun l13=> ?_;refine gHe Y ?_;exact ge hK16 (_,_)
    exact ge hK14 (_,_,_,_,_,_)
   refine gZ Y ?_;refine gP Y fun l10=> ?_;exact ge hK10 (_,_,_,_,_)
  exact ge hK9 (_,_,_,_,_)
 exact gr
theorem c9y(n:Nat):(∀(x1:Expr)(names1:(List Bs))(f1:Facts),FnC Wt 42 [.agg [.int .i64 x1.Op,.int .i64 x1.N,.str x1.Name,.sl 0 x1.Args],.sl 1 names1,.agg [.sl 2 f1.Lifts,.int .i64 f1.Persons,.int .i64 f1.Flats]] (ref37_made n x1 names1 f1) (fun r=> .tup [.agg [.sl 4 r.1.Pieces],.int .i64 r.2]))/\(∀(x1:Expr)(names1:(List Bs))(f1:Facts),FnC Wt 89 [.agg [.int .i64 x1.Op,.int .i64 x1.N,.str x1.Name,.sl 0 x1.Args],.sl 1 names1,.agg [.sl 2 f1.Lifts,.int .i64 f1.Persons,.int .i64 f1.Flats]] (ref37_product n x1 names1 f1) (fun r=> .tup [.agg [.sl 4 r.1.Pieces],.int .i64 r.2]))/\(∀(x1:Expr)(names1:(List Bs))(f1:Facts),FnC Wt 90 [.agg [.int .i64 x1.Op,.int .i64 x1.N,.str x1.Name,.sl 0 x1.Args],.sl 1 names1,.agg [.sl 2 f1.Lifts,.int .i64 f1.Persons,.int .i64 f1.Flats]] (ref37_pair n x1 names1 f1) (fun r=> .tup [.agg [.sl 4 r.1.Pieces],.int .i64 r.2])):=by
 induction n with
 |zero=>exact⟨fun _ _ _=>b1k (fun _ _=>by kernel_rfl),fun _ _ _=>b1k (fun _ _=>by kernel_rfl),fun _ _ _=>b1k (fun _ _=>by kernel_rfl)⟩
 |succ n ih=>
  refine⟨?_,?_,?_⟩
  ·intro x1 names1 f1;refine fk (n:=88) Tryz.func42 fun F0 w0 r=> ?_;rw [ref37_made_s];refine gK (c2u _ _ _) Y Y Y fun v1=> ?_;refine gc Y ?_ ?_
   ·refine gK (b7g _ _ _ _ _) Y Y Y fun v2=> ?_;refine gK (b5u _ _ _) Y Y Y fun v3=> ?_;exact gr
   refine gc Y ?_ ?_
   ·refine gK (b3o _ _ _) Y Y Y fun v4=> ?_;refine gK (c7t _ _ _) Y Y Y fun v5=> ?_;exact gr
   refine gc Y ?_ ?_
   ·refine gHs [(1,(pL [0,2,4,6,8,10,13,15] .nil)),(9,(pL [0,2,4,6,8,10,13,15] .nil)),(11,(pL [0,2,4,6,8,10,12] (.two 7 11 (pL [16,18,20,23,25,27] .nil) (pL [15,17,18,20,25,27] .nil)))),(12,(pL [2,0,5,7] .nil)),(16,(pL [2,0,5,7] .nil)),(18,(pL [2,0,5,7] .nil))] Y (by kernel_rfl) Y Y fun Ky=> ?_;refine gV Y fun ex1=> ?_;refine gK (b7g _ _ _ _ _) Y Y Y fun v6=> ?_;refine gHe Y ?_;refine gd Y ?_ ?_
    ·refine gB ?_;refine gA ?_;refine gHs [(1,(pL [0,2,4,6,8,10,13,15] .nil)),(9,(pL [0,2,4,6,8,10,13,15] .nil)),(11,(pL [0,2,4,6,8,10,12] (.two 7 11 (pL [16,18,20,23,25,27] .nil) (pL [15,17,18,20,25,27] .nil)))),(12,(pL [2,0,5,7] .nil)),(16,(pL [2,0,5,7] .nil)),(18,(pL [2,0,5,7] .nil))] Y (by kernel_rfl) Y Y fun Ky=> ?_;refine gV Y fun ex3=> ?_;refine gA ?_;try refine gH2 rfl ?_ ?_
     all_goals
      refine gK (ih.1 _ _ _) Y Y Y fun v7=> ?_;refine gB ?_;refine gHe Y ?_;exact gr
    refine gB ?_;refine gA ?_;refine gHs [(1,(pL [0,2,4,6,8,10,13,15] .nil)),(9,(pL [0,2,4,6,8,10,13,15] .nil)),(11,(pL [0,2,4,6,8,10,12] (.two 7 11 (pL [16,18,20,23,25,27] .nil) (pL [15,17,18,20,25,27] .nil)))),(12,(pL [2,0,5,7] .nil)),(16,(pL [2,0,5,7] .nil)),(18,(pL [2,0,5,7] .nil))] Y (by kernel_rfl) Y Y fun Ky=> ?_;refine gV Y fun ex3=> ?_;refine gA ?_;try refine gH2 rfl ?_ ?_
    all_goals
     refine gK (ih.1 _ _ _) Y Y Y fun v7=> ?_;refine gB ?_;refine gHe Y ?_;exact gr
   refine gd Y ?_ ?_
   ·refine gB ?_;refine gT ?_;refine gK (ih.2.1 _ _ _) Y Y Y fun v9=> ?_;exact gr
   refine gB ?_;refine gc Y ?_ ?_
   ·refine gK (ih.2.1 _ _ _) Y Y Y fun v9=> ?_;exact gr
   refine gK (ih.2.2 _ _ _) Y Y Y fun v10=> ?_;exact gr
  ·intro x1 names1 f1;refine fk (n:=91) Tryz.func89 fun F0 w0 r=> ?_;rw [ref37_product_s];refine gV Y fun ex1=> ?_;refine gV Y fun ex2=> ?_;refine gK (c2u _ _ _) Y Y Y fun v1=> ?_;refine gM (fun j1=> [.b 8 [.int .i64 j1.2.2.2.2.1,.int .i64 j1.2.2.2.2.2.1,.str j1.2.2.2.2.2.2.1,.sl 0 j1.2.2.2.2.2.2.2],.b 9 [.int .i64 j1.1,.int .i64 j1.2.1,.str j1.2.2.1,.sl 0 j1.2.2.2.1]]) Y (fun _=>Y) (fun J1 hJ1=> ?_) (fun j1=> ?_)
   ·refine gd Y ?_ ?_
    ·refine gA ?_;refine gV Y fun ex3=> ?_;refine gA ?_;refine gV Y fun ex4=> ?_;exact gx hJ1
    exact gx hJ1
   obtain⟨f2,f3,f4,f5,f6,f7,f8,f9⟩:=j1;dsimp only;refine gK (ih.1 _ _ _) Y Y Y fun v2=> ?_;refine gc Y ?_ ?_
   ·exact gr
   refine gK (b7g _ _ _ _ _) Y Y Y fun v3=> ?_;refine gM (fun j2=> [.b 14 [.int .i64 j2.1,.sl 2 j2.2.1,.int .i64 j2.2.2.1,.sl 2 j2.2.2.2]]) Y (fun _=>Y) (fun J2 hJ2=> ?_) (fun j2=> ?_)
   ·refine gd Y ?_ ?_
    ·refine gA ?_;refine gHs [(1,(pL [0,2,5,7,9,11] .nil)),(2,(pL [0,2,5,7,9,11] .nil)),(3,(pL [0,2,4,6,8,10,13,15] .nil)),(9,(pL [0,2,5,7] .nil)),(10,(pL [] (.two 0 1 (pL [3,5,6,8,11,13] .nil) (pL [1,5,6,8,11,13] .nil)))),(12,(pL [] (.two 0 1 (pL [3,5,7,8,10,13] .nil) (pL [1,5,7,8,10,13] .nil)))),(14,(pL [0,2,5,7,9,11] .nil)),(16,(pL [0,2,5,7,9] .nil)),(17,(pL [0,2,4,6,8,10,13,15] .nil)),(20,(pL [0,2,5,7,9,11] .nil))] Y (by kernel_rfl) Y Y fun Ky=> ?_;try refine gH2 rfl ?_ ?_
     all_goals
      refine gK (a6r _ _) Y Y Y fun v11=> ?_;refine gA ?_;refine gK (c6i _ _ _) Y Y Y fun v12=> ?_;refine gHe Y ?_;exact gx hJ2
    exact gx hJ2
   obtain⟨f10,f11,f12,f13⟩:=j2;dsimp only;refine gK (c3e _ _) Y Y Y fun v4=> ?_;refine gc Y ?_ ?_
   ·refine gK (b5u _ _ _) Y Y Y fun v5=> ?_;exact gr
   refine gK (c3e _ _) Y Y Y fun v6=> ?_;refine gc Y ?_ ?_
   ·refine gK (b8s _ _ _) Y Y Y fun v7=> ?_;exact gr
   refine gK (b5o _ _) Y Y Y fun v8=> ?_;refine gc Y ?_ ?_
   ·exact gr
   refine gHs [(1,(pL [0,2,5,7,9,11] .nil)),(2,(pL [0,2,5,7,9,11] .nil)),(3,(pL [0,2,4,6,8,10,13,15] .nil)),(9,(pL [0,2,5,7] .nil)),(10,(pL [] (.two 0 1 (pL [3,5,6,8,11,13] .nil) (pL [1,5,6,8,11,13] .nil)))),(12,(pL [] (.two 0 1 (pL [3,5,7,8,10,13] .nil) (pL [1,5,7,8,10,13] .nil)))),(14,(pL [0,2,5,7,9,11] .nil)),(16,(pL [0,2,5,7,9] .nil)),(17,(pL [0,2,4,6,8,10,13,15] .nil)),(20,(pL [0,2,5,7,9,11] .nil))] Y (by kernel_rfl) Y Y fun Ky=> ?_;refine gK (d3d _ _) Y Y Y fun v9=> ?_;refine gK (b8s _ _ _) Y Y Y fun v10=> ?_;refine gHe Y ?_;exact gr
  intro x1 names1 f1;refine fk (n:=82) Tryz.func90 fun F0 w0 r=> ?_;rw [ref37_pair_s];refine gA ?_;refine gHs [(1,(pL [0,2,4,6,8,10] (.two 6 10 (pL [14,16,18,21,23,25] .nil) (pL [13,15,16,18,23,25] .nil)))),(3,(pL [0,2,5,7] .nil)),(4,(pL [0,2,4,6,8,10] (.two 6 10 (pL [14,16,18,21,23,25] .nil) (pL [13,15,16,18,23,25] .nil)))),(6,(pL [0,2,5,7] .nil)),(9,(pL [] (.two 0 1 (pL [3,5,6,8,11,13] .nil) (pL [1,5,6,8,11,13] .nil)))),(10,(pL [2,4,8,10] (.two 0 8 (pL [] (.two 3 8 (pL [] (.two 6 8 (pL [14,17,19] .nil) (pL [13,15,19] .nil))) (pL [7,13,15,19] .nil))) (pL [1,7,13,15,19] .nil)))),(11,(pL [0,2,5,7,9,11] .nil)),(12,(pL [4,0,2,6,8,11,13,14,16,19,21] .nil)),(13,(pL [] (.two 0 1 (pL [3,5,7,9,11,13] .nil) (pL [1,5,7,9,11,13] .nil))))] Y (by kernel_rfl) Y Y fun Ky=> ?_;refine gV Y fun ex3=> ?_;refine gA ?_;try refine gH2 rfl ?_ ?_
  all_goals
   refine gK (ih.1 _ _ _) Y Y Y fun v7=> ?_;refine gB ?_;refine gHe Y ?_;refine gc Y ?_ ?_
   ·exact gr
   refine gA ?_;refine gHs [(1,(pL [0,2,4,6,8,10] (.two 6 10 (pL [14,16,18,21,23,25] .nil) (pL [13,15,16,18,23,25] .nil)))),(3,(pL [0,2,5,7] .nil)),(4,(pL [0,2,4,6,8,10] (.two 6 10 (pL [14,16,18,21,23,25] .nil) (pL [13,15,16,18,23,25] .nil)))),(6,(pL [0,2,5,7] .nil)),(9,(pL [] (.two 0 1 (pL [3,5,6,8,11,13] .nil) (pL [1,5,6,8,11,13] .nil)))),(10,(pL [2,4,8,10] (.two 0 8 (pL [] (.two 3 8 (pL [] (.two 6 8 (pL [14,17,19] .nil) (pL [13,15,19] .nil))) (pL [7,13,15,19] .nil))) (pL [1,7,13,15,19] .nil)))),(11,(pL [0,2,5,7,9,11] .nil)),(12,(pL [4,0,2,6,8,11,13,14,16,19,21] .nil)),(13,(pL [] (.two 0 1 (pL [3,5,7,9,11,13] .nil) (pL [1,5,7,9,11,13] .nil))))] Y (by kernel_rfl) Y Y fun Ky=> ?_;refine gV Y fun ex2=> ?_;refine gA ?_;try refine gH2 rfl ?_ ?_
   all_goals
    refine gK (ih.1 _ _ _) Y Y Y fun v6=> ?_;refine gB ?_;refine gHe Y ?_;refine gc Y ?_ ?_
    ·exact gr
    refine gM (fun j1=> [.b 10 [.sl 4 j1.2],.v 12 (.ob j1.1)]) Y (fun _=>Y) (fun J1 hJ1=> ?_) (fun j1=> ?_)
    ·refine gd Y ?_ ?_
     ·refine gA ?_;refine gK (b5o _ _) Y Y Y fun v5=> ?_;exact gx hJ1
     exact gx hJ1
    obtain⟨ok1,f4⟩:=j1;dsimp only;refine gA ?_;refine gHs [(1,(pL [0,2,4,6,8,10] (.two 6 10 (pL [14,16,18,21,23,25] .nil) (pL [13,15,16,18,23,25] .nil)))),(3,(pL [0,2,5,7] .nil)),(4,(pL [0,2,4,6,8,10] (.two 6 10 (pL [14,16,18,21,23,25] .nil) (pL [13,15,16,18,23,25] .nil)))),(6,(pL [0,2,5,7] .nil)),(9,(pL [] (.two 0 1 (pL [3,5,6,8,11,13] .nil) (pL [1,5,6,8,11,13] .nil)))),(10,(pL [2,4,8,10] (.two 0 8 (pL [] (.two 3 8 (pL [] (.two 6 8 (pL [14,17,19] .nil) (pL [13,15,19] .nil))) (pL [7,13,15,19] .nil))) (pL [1,7,13,15,19] .nil)))),(11,(pL [0,2,5,7,9,11] .nil)),(12,(pL [4,0,2,6,8,11,13,14,16,19,21] .nil)),(13,(pL [] (.two 0 1 (pL [3,5,7,9,11,13] .nil) (pL [1,5,7,9,11,13] .nil))))] Y (by kernel_rfl) Y Y fun Ky=> ?_;try refine gH2 rfl ?_ ?_
    all_goals
     try refine gH2 rfl ?_ ?_
     all_goals
      refine gP Y fun l1=> ?_;refine gA ?_;try refine gH2 rfl ?_ ?_
      all_goals
       refine gP Y fun l2=> ?_;refine gB ?_;refine gHe Y ?_;refine gJ 2 (fun v1=> [.v 63 (.ob v1)]) Y (fun _=>Y) (fun J2 hJ2=> ?_) (fun v1=> ?_)
       ·refine gd Y ?_ ?_
        ·exact gx hJ2
        exact gx hJ2
       first|refine gFi 8 rfl ?_|refine gFi 9 rfl ?_|refine gFi 7 rfl ?_|refine gFi 10 rfl ?_|refine gFi 6 rfl ?_
       refine gM (fun j3=> [.v 12 (.ob j3.1),.b 13 [.sl 4 j3.2]]) Y (fun _=>Y) (fun J3 hJ3=> ?_) (fun j3=> ?_)
       ·refine gd Y ?_ ?_
        ·refine gA ?_;refine gK (c7h _ _ _ _) Y Y Y fun v4=> ?_;exact gx hJ3
        exact gx hJ3
       obtain⟨ok2,f6⟩:=j3;dsimp only;refine gJ 4 (fun v2=> [.v 79 (.ob v2)]) Y (fun _=>Y) (fun J4 hJ4=> ?_) (fun v2=> ?_)
       ·refine gd Y ?_ ?_
        ·exact gx hJ4
        refine gA ?_;refine gK (a9l _ _) Y Y Y fun v3=> ?_;exact gx hJ4
       refine gc Y ?_ ?_
       ·exact gr
       exact gr
theorem d1x(n:Nat)(x1:Expr)(names1:(List Bs))(f1:Facts):FnC Wt 42 [.agg [.int .i64 x1.Op,.int .i64 x1.N,.str x1.Name,.sl 0 x1.Args],.sl 1 names1,.agg [.sl 2 f1.Lifts,.int .i64 f1.Persons,.int .i64 f1.Flats]] (ref37_made n x1 names1 f1) (fun r=> .tup [.agg [.sl 4 r.1.Pieces],.int .i64 r.2]):=(c9y n).1 x1 names1 f1
theorem d7z(n:Nat)(t1:Tariff)(names1:(List Bs))(f1:Facts):FnC Wt 12 [.agg [.str t1.Name,.int .i64 t1.Fee.Op,.int .i64 t1.Fee.N,.str t1.Fee.Name,.sl 0 t1.Fee.Args,.int .i64 t1.Cap],.sl 1 names1,.agg [.sl 2 f1.Lifts,.int .i64 f1.Persons,.int .i64 f1.Flats]] (a8u n t1 names1 f1) (fun r=> .tup [.agg [.sl 4 r.1.Pieces],.int .i64 r.2]):=by
 refine fk (n:=34) Tryz.func12 fun F0 w0 r=> ?_;unfold a8u;refine gK (c9x _ _ _) Y Y Y fun v1=> ?_;refine gc Y ?_ ?_
 ·exact gr
 refine gK (d0r _ _ _) Y Y Y fun v2=> ?_;refine gc Y ?_ ?_
 ·exact gr
 refine gK (d1x _ _ _ _) Y Y Y fun v3=> ?_;exact gr
theorem c9b(n:Nat)(ax1:Afn)(weights1:(List Frac)):FnC Wt 61 [.agg [.int .i64 ax1.Const.P.Sign,.sl 2 ax1.Const.P.Digits,.int .i64 ax1.Const.Q.Sign,.sl 2 ax1.Const.Q.Digits,.sl 3 ax1.Coefs],.sl 3 weights1] (b0h n ax1 weights1) (fun r=> .tup [.agg [.int .i64 r.1.P.Sign,.sl 2 r.1.P.Digits,.int .i64 r.1.Q.Sign,.sl 2 r.1.Q.Digits],.ob r.2]):=by
 refine fk (n:=67) Tryz.func61 fun F0 w0 r=> ?_;unfold b0h;refine gK (a1j _ _) Y Y Y fun v1=> ?_;refine gJ 7 (fun v2=> [.v 21 (.ob v2)]) Y (fun _=>Y) (fun J1 hJ1=> ?_) (fun v2=> ?_)
 ·refine gd Y ?_ ?_
  ·exact gx hJ1
  exact gx hJ1
 refine gc Y ?_ ?_
 ·exact gr
 refine a1h ((fun k0 m(s:Int×Int×(List Int)×Int×(List Int))=>ref37_Value_L1 n ax1 weights1 k0 m s.1 s.2.1 s.2.2.1 s.2.2.2.1 s.2.2.2.2) _) (fun(s:Int×Int×(List Int)×Int×(List Int))=> [.b 6 [.int .i64 s.2.1,.sl 2 s.2.2.1,.int .i64 s.2.2.2.1,.sl 2 s.2.2.2.2],.v 7 (.int .i64 s.1)]) (fun _=>Y) (_,_,_,_,_) Y Y (fun _=>Y) Y fun K2 m2 hK2 z2=> ?_;obtain⟨i1,f1,f2,f3,f4⟩:=z2;dsimp only;refine gc Y ?_ ?_
 ·refine gV Y fun ex1=> ?_;refine gK (a1j _ _) Y Y Y fun v3=> ?_;refine gJ 8 (fun v4=> [.v 45 (.ob v4)]) Y (fun _=>Y) (fun J3 hJ3=> ?_) (fun v4=> ?_)
  ·refine gd Y ?_ ?_
   ·exact gx hJ3
   refine gA ?_;refine gV Y fun ex4=> ?_;refine gA ?_;refine gK (a1j _ _) Y Y Y fun v7=> ?_;exact gx hJ3
  refine gc Y ?_ ?_
  ·exact gr
  refine gA ?_;refine gHs [(9,(pL [0,2,4,6,8,10,12,14,16] (.two 9 13 (pL [20,22,24,27,29,31] .nil) (pL [19,21,22,24,29,31] .nil))))] Y (by kernel_rfl) Y Y fun Ky=> ?_;refine gV Y fun ex2=> ?_;refine gA ?_;refine gV Y fun ex3=> ?_;refine gA ?_;try refine gH2 rfl ?_ ?_
  all_goals
   refine gK (b4r _ _ _) Y Y Y fun v6=> ?_;refine gB ?_;refine gHe Y ?_;refine gK (b4l _ _ _) Y Y Y fun v5=> ?_;exact ge hK2 (_,_,_,_,_)
 exact gr
theorem c3i(n:Nat)(l1:(List Afn))(weights1:(List Frac)):FnC Wt 22 [.sl 5 l1,.sl 3 weights1] (a7c n l1 weights1) (fun r=> .tup [.agg [.int .i64 r.1.P.Sign,.sl 2 r.1.P.Digits,.int .i64 r.1.Q.Sign,.sl 2 r.1.Q.Digits],.ob r.2]):=by
 refine fk (n:=42) Tryz.func22 fun F0 w0 r=> ?_;unfold a7c;refine a1h ((fun k0 m(s:Int×Int×(List Int)×Int×(List Int))=>ref37_Greatest_L1 n l1 weights1 k0 m s.1 s.2.1 s.2.2.1 s.2.2.2.1 s.2.2.2.2) _) (fun(s:Int×Int×(List Int)×Int×(List Int))=> [.b 6 [.int .i64 s.2.1,.sl 2 s.2.2.1,.int .i64 s.2.2.2.1,.sl 2 s.2.2.2.2],.v 7 (.int .i64 s.1)]) (fun _=>Y) (_,_,_,_,_) Y Y (fun _=>Y) Y fun K1 m1 hK1 z1=> ?_;obtain⟨i1,f1,f2,f3,f4⟩:=z1;dsimp only;refine gc Y ?_ ?_
 ·refine gV Y fun ex1=> ?_;refine gK (c9b _ _ _) Y Y Y fun v1=> ?_;refine gc Y ?_ ?_
  ·exact gr
  refine gJ 5 (fun v2=> [.v 36 (.ob v2)]) Y (fun _=>Y) (fun J2 hJ2=> ?_) (fun v2=> ?_)
  ·refine gd Y ?_ ?_
   ·exact gx hJ2
   refine gA ?_;refine gK (a4y _ _ _) Y Y Y fun v3=> ?_;exact gx hJ2
  refine gc Y ?_ ?_
  ·exact ge hK1 (_,_,_,_,_)
  exact ge hK1 (_,_,_,_,_)
 exact gr
theorem d7n(n:Nat)(f1:Form)(weights1:(List Frac)):FnC Wt 14 [.agg [.sl 4 f1.Pieces],.sl 3 weights1] (c0b n f1 weights1) (fun r=> .tup [.agg [.int .i64 r.1.P.Sign,.sl 2 r.1.P.Digits,.int .i64 r.1.Q.Sign,.sl 2 r.1.Q.Digits],.ob r.2]):=by
 refine fk (n:=45) Tryz.func14 fun F0 w0 r=> ?_;unfold c0b;refine a1h ((fun k0 m(s:Int×Int×(List Int)×Int×(List Int))=>ref37_At_L1 n f1 weights1 k0 m s.1 s.2.1 s.2.2.1 s.2.2.2.1 s.2.2.2.2) _) (fun(s:Int×Int×(List Int)×Int×(List Int))=> [.b 6 [.int .i64 s.2.1,.sl 2 s.2.2.1,.int .i64 s.2.2.2.1,.sl 2 s.2.2.2.2],.v 7 (.int .i64 s.1)]) (fun _=>Y) (_,_,_,_,_) Y Y (fun _=>Y) Y fun K1 m1 hK1 z1=> ?_;obtain⟨i1,f2,f3,f4,f5⟩:=z1;dsimp only;refine gc Y ?_ ?_
 ·refine gV Y fun ex1=> ?_;refine gK (c3i _ _ _) Y Y Y fun v1=> ?_;refine gc Y ?_ ?_
  ·exact gr
  refine gJ 5 (fun v2=> [.v 38 (.ob v2)]) Y (fun _=>Y) (fun J2 hJ2=> ?_) (fun v2=> ?_)
  ·refine gd Y ?_ ?_
   ·exact gx hJ2
   refine gA ?_;refine gK (a4y _ _ _) Y Y Y fun v3=> ?_;exact gx hJ2
  refine gc Y ?_ ?_
  ·exact ge hK1 (_,_,_,_,_)
  exact ge hK1 (_,_,_,_,_)
 refine gHs [(10,(pL [0,2,4,6,8,11,13] .nil))] Y (by kernel_rfl) Y Y fun Ky=> ?_;refine gHe Y ?_;exact gr
theorem d1b(n:Nat)(ax1:Form)(b1:Form):FnC Wt 15 [.agg [.sl 4 ax1.Pieces],.agg [.sl 4 b1.Pieces]] (b4k n ax1 b1) (fun r=> .ob r):=by
 refine fk (n:=97) Tryz.func15 fun F0 w0 r=> ?_;unfold b4k;refine gc Y ?_ ?_
 ·exact gr
 refine a1h ((fun k0 m(s:Int×(List (List Afn))×(List (List Afn)))=>ref37_Same_L1 n k0 m s.1 s.2.1 s.2.2) _) (fun(s:Int×(List (List Afn))×(List (List Afn)))=> [.b 2 [.sl 4 s.2.2],.b 3 [.sl 4 s.2.1],.v 5 (.int .i64 s.1)]) (fun _=>Y) (_,_,_) Y Y (fun _=>Y) Y fun K1 m1 hK1 z1=> ?_;obtain⟨i1,f1,f2⟩:=z1;dsimp only;refine gc Y ?_ ?_
 ·refine gG Y (by kernel_rfl) ?_;refine gV Y fun ex1=> ?_;refine gV Y fun ex2=> ?_;refine gc Y ?_ ?_
  ·exact gr
  refine a1h ((fun k0 m(s:Int×(List (List Afn))×(List (List Afn)))=>ref37_Same_L2 n i1 k0 m s.1 s.2.1 s.2.2) _) (fun(s:Int×(List (List Afn))×(List (List Afn)))=> [.b 2 [.sl 4 s.2.2],.b 3 [.sl 4 s.2.1],.v 6 (.int .i64 s.1)]) (fun _=>Y) (_,_,_) Y Y (fun _=>Y) Y fun K2 m2 hK2 z2=> ?_;obtain⟨k1,f3,f4⟩:=z2;dsimp only;refine gV Y fun ex3=> ?_;refine gc Y ?_ ?_
  ·refine gV Y fun ex4=> ?_;refine gV Y fun ex5=> ?_;refine gV Y fun ex6=> ?_;refine gV Y fun ex7=> ?_;refine gK (b1c _ _ _) Y Y Y fun v1=> ?_;refine gJ 8 (fun v2=> [.v 77 (.ob v2)]) Y (fun _=>Y) (fun J3 hJ3=> ?_) (fun v2=> ?_)
   ·refine gd Y ?_ ?_
    ·exact gx hJ3
    exact gx hJ3
   refine gc Y ?_ ?_
   ·exact gr
   refine a1h ((fun k0 m(s:Int)=>ref37_Same_L3 n ex5 ex7 k0 m s) _) (fun(s:Int)=> [.v 9 (.int .i64 s)]) (fun _=>Y) _ Y Y (fun _=>Y) Y fun K4 m4 hK4 j1=> ?_;refine gc Y ?_ ?_
   ·refine gG Y (by kernel_rfl) ?_;refine gV Y fun ex8=> ?_;refine gV Y fun ex9=> ?_;refine gQ (b1c _ _ _) Y Y Y (fun _=>Y) fun v3=> ?_;refine gc Y ?_ ?_
    ·exact gr
    exact ge hK4 _
   exact ge hK2 (_,_,_)
  exact ge hK1 (_,_,_)
 exact gr
theorem d3i(n:Nat)(t1:Tariff)(names1:(List Bs))(f1:Facts)(weights1:(List Frac)):FnC Wt 9 [.agg [.str t1.Name,.int .i64 t1.Fee.Op,.int .i64 t1.Fee.N,.str t1.Fee.Name,.sl 0 t1.Fee.Args,.int .i64 t1.Cap],.sl 1 names1,.agg [.sl 2 f1.Lifts,.int .i64 f1.Persons,.int .i64 f1.Flats],.sl 3 weights1] (b6c n t1 names1 f1 weights1) (fun r=> .ob r):=by
 refine fk (n:=19) Tryz.func9 fun F0 w0 r=> ?_;unfold b6c;refine gK (d3g _ _ _ _ _) Y Y Y fun v1=> ?_;refine gJ 4 (fun v2=> [.v 18 (.ob v2)]) Y (fun _=>Y) (fun J1 hJ1=> ?_) (fun v2=> ?_)
 ·refine gd Y ?_ ?_
  ·refine gA ?_;refine gK (b9u _ _ _ _) Y Y Y fun v3=> ?_;exact gx hJ1
  exact gx hJ1
 exact gr
theorem c4x(n:Nat)(f1:Form):FnC Wt 10 [.agg [.sl 4 f1.Pieces]] (b0e n f1) (fun r=> .ob r):=by
 refine fk (n:=65) Tryz.func10 fun F0 w0 r=> ?_;unfold b0e;refine gJ 4 (fun v1=> [.v 15 (.ob v1)]) Y (fun _=>Y) (fun J1 hJ1=> ?_) (fun v1=> ?_)
 ·refine gd Y ?_ ?_
  ·exact gx hJ1
  refine gA ?_;refine gK (a9l _ _) Y Y Y fun v5=> ?_;exact gx hJ1
 refine gc Y ?_ ?_
 ·exact gr
 refine a1h ((fun k0 m(s:Int×(List (List Afn)))=>ref37_FewForm_L1 n k0 m s.1 s.2) _) (fun(s:Int×(List (List Afn)))=> [.b 1 [.sl 4 s.2],.v 3 (.int .i64 s.1)]) (fun _=>Y) (_,_) Y Y (fun _=>Y) Y fun K2 m2 hK2 z2=> ?_;obtain⟨i1,f2⟩:=z2;dsimp only;refine gc Y ?_ ?_
 ·refine a1h ((fun k0 m(s:Int×(List (List Afn)))=>ref37_FewForm_L2 n i1 k0 m s.1 s.2) _) (fun(s:Int×(List (List Afn)))=> [.b 1 [.sl 4 s.2],.v 4 (.int .i64 s.1)]) (fun _=>Y) (_,_) Y Y (fun _=>Y) Y fun K3 m3 hK3 z3=> ?_;obtain⟨k1,f3⟩:=z3;dsimp only;refine gV Y fun ex1=> ?_;refine gc Y ?_ ?_
  ·refine gV Y fun ex2=> ?_;refine gV Y fun ex3=> ?_;refine gJ 5 (fun v2=> [.v 50 (.ob v2)]) Y (fun _=>Y) (fun J4 hJ4=> ?_) (fun v2=> ?_)
   ·refine gd Y ?_ ?_
    ·exact gx hJ4
    refine gA ?_;refine gK (b9d _ _ _) Y Y Y fun v4=> ?_;exact gx hJ4
   refine gc Y ?_ ?_
   ·exact gr
   refine a1h ((fun k0 m(s:Int)=>ref37_FewForm_L3 n ex3 k0 m s) _) (fun(s:Int)=> [.v 6 (.int .i64 s)]) (fun _=>Y) _ Y Y (fun _=>Y) Y fun K5 m5 hK5 j1=> ?_;refine gc Y ?_ ?_
   ·refine gV Y fun ex4=> ?_;refine gK (b9d _ _ _) Y Y Y fun v3=> ?_;refine gc Y ?_ ?_
    ·exact gr
    exact ge hK5 _
   exact ge hK3 (_,_)
  exact ge hK2 (_,_)
 exact gr
end M
end Go.Proofs.YthaegflpecbfgaaGreatDoor
