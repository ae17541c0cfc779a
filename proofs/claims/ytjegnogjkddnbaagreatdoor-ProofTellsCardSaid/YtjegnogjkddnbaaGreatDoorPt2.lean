/- Several texts in one, for ProofTells.card: what the theorem leans on. -/
import Derived.Lib.AppendStr
import Derived.Lib.ConvBytes
import Derived.Test.YtjegnogjkddnbaaGreatDoorPt1
namespace Go.Proofs.YtjegnogjkddnbaaGreatDoor
namespace Dp
open Go Go.RowKit Go.Proofs.YtjegnogjkddnbaaGreatDoor.Rt
set_option linter.unusedVariables false
set_option linter.unusedSimpArgs false
section
variable{P:Program}{T:Ty P}{n:Nat}{F0:Frz}{w0:World}{X:List Nat}{W0 W:List OE}{H:DH}{F:Frz}{e:DE}{a:Act}{w:World}
theorem hdEq.refl{e:OE}(h:(∀b o,e≠ .it b o)/\(∀e' k a m c x y z,e≠ .win e' k a m c x y z)):hdEq e e:=by
 cases e with
 |box g t us=>exact⟨us,rfl⟩
 |row el q a m n us=>exact⟨us,rfl⟩
 |mp g es c=>exact⟨es,c,rfl⟩
 |it b o=>exact absurd rfl (h.1 b o)
 |win e' k a m c x y z=>exact absurd rfl (h.2 e' k a m c x y z)
def plainE:OE->Bool | .box _ _ _=>true | .row _ _ _ _ _ _=>true | .mp _ _ _=>true |_=>false
theorem a0k{e:OE}(h:plainE e=true):hdEq e e:=by
 cases e<;>simp [plainE]at h
 ·exact⟨_,rfl⟩
 ·exact⟨_,rfl⟩
 exact⟨_,_,rfl⟩
theorem ownW_app:∀{H:DH}{W:List OE}(b:Blk)(e:OE),H.length=W.length->ownW (H++ [b]) (W++ [e])=ownW H W++ [match b.fz with|true=>OE.dum|false=>e]
 | [],[],b,e,_=>rfl
 | [],_::_,_,_,h=>by simp at h
 |_::_,[],_,_,h=>by simp at h
 |b'::H,e'::W,b,e,h=>by
  simp only [List.cons_append,ownW];rw [ownW_app b e (by simpa using h)]
theorem ownW_set:∀{H:DH}{W:List OE}(i:Nat)(b:Blk)(e:OE),ownW (H.set i b) (W.set i e)=(ownW H W).set i (match b.fz with|true=>OE.dum|false=>e)
 | [],W,i,b,e=>by cases W<;>simp [ownW]
 |b'::H,[],i,b,e=>by cases i<;>simp [ownW]
 |b'::H,e'::W,0,b,e=>rfl
 |b'::H,e'::W,i+1,b,e=>by
  simp only [List.set_cons_succ,ownW];rw [ownW_set i b e]
theorem b2t(hl:H.length=W.length)(hp:∀(i:Nat)e,W[i]?=some e->plainE e=true)(b:Blk)(e':OE):Ext W H F (W++ [e']) (H++ [b]) F:=by
 refine⟨Frz.refl F,fun i b0 e0 h1 h2=> ?_,fun i e0 h=> ?_⟩
 ·have h3:=a0k (hp i e0 h2);exact⟨b0,e0,by rw [List.getElem?_append_left (List.getElem?_eq_some_iff.1 h1).1];exact h1,by rw [List.getElem?_append_left (List.getElem?_eq_some_iff.1 h2).1];exact h2,Nat.le_refl _,fun _=>⟨h3,Nat.le_refl _,fun _ _=>rfl⟩,fun _ _ _ _=>h3,fun _ _ _ _=>h3⟩
 have:=(List.getElem?_eq_some_iff.1 h).1;rw [<-hl]at this;exact⟨_,List.getElem?_eq_getElem this⟩
theorem c6p{o:Ob}{e:OE}(h:RelO W H F o e):plainE e=true:=by
 cases o with
 |box t cs=>obtain⟨g,us,rfl,_⟩:=h;rfl
 |row el q xs=>obtain⟨_,_,_,_,rfl,_⟩:=h;rfl
 |nest el q xs=>obtain⟨_,_,_,_,rfl,_⟩:=h;rfl
 |mp es=>obtain⟨_,_,_,rfl,_⟩:=h;rfl
theorem Rel.plain(h:Rel T F0 w0 X W0 W H F w){i:Nat}{o:OE}(h1:W[i]?=some o):plainE o=true:=by
 obtain⟨b,hb⟩:=h.atW h1;exact c6p (h.blk i b o hb h1).1
theorem Rel.add(h:Rel T F0 w0 X W0 W H F w){w':World}{o:Ob}{e':OE}(hg:w.grownBy w' none)(he:e'.ok w')(hb:∀b,e'.blk=some b->w.heap.size<=b)(hr:RelO (W++ [e']) (H++ [nblk o]) F o e'):
 Rel T F0 w0 X W0 (W++ [e']) (H++ [nblk o]) F w'/\Ext W H F (W++ [e']) (H++ [nblk o]) F:=by
 have hx:Ext W H F (W++ [e']) (H++ [nblk o]) F:=b2t h.len (fun i e h1=>h.plain h1) _ _;refine⟨⟨by simp [h.len],fun i b e h1 h2=> ?_,?_,h.gl,fun i e0 h1=> ?_⟩,hx⟩
 ·rw [List.getElem?_append]at h1 h2;split at h1
  ·rename_i hlt;rw [if_pos (by rw [<-h.len];exact hlt)]at h2;obtain⟨g1,g2⟩:=h.blk i b e h1 h2;exact⟨g1.ext hx,g2⟩
  rename_i hlt;rw [if_neg (by rw [<-h.len];exact hlt)]at h2;have hi:i-H.length=0:=by
   rcases Nat.eq_zero_or_pos (i-H.length)with h0|h0
   ·exact h0
   rw [List.getElem?_eq_none (by simp only [List.length_cons,List.length_nil];omega)]at h1;cases h1
  rw [hi]at h1;rw [<-h.len,hi]at h2;simp only [List.getElem?_cons_zero,Option.some.injEq]at h1 h2;subst h1;subst h2;exact⟨hr,fun hz=>by simp [nblk]at hz⟩
 ·rw [ownW_app _ _ h.len];exact h.hd.add hg he hb
 obtain⟨b,e,g1,g2,g3⟩:=h.lent i e0 h1;exact⟨b,e,by rw [List.getElem?_append_left (List.getElem?_eq_some_iff.1 g1).1];exact g1,by rw [List.getElem?_append_left (List.getElem?_eq_some_iff.1 g2).1];exact g2,g3⟩
theorem Rel.set(h:Rel T F0 w0 X W0 W H F w){w':World}{i:Nat}{b b':Blk}{e e':OE}(h1:H[i]?=some b)(h2:W[i]?=some e)(hf:b.fz=false)(hf':b'.fz=false)(hv:b.ver<=b'.ver)(hh:b'.ver=b.ver->hdEq e e'/\b.st<=b'.st/\(b'.st=b.st->∀k,elemO b'.ob k=elemO b.ob k))(hk:(∀el q a m n us,e≠ .row el q a m n us)->hdEq e e')(ha:b'.ap=false->b.ap=false/\hdEq e e')
 (hg:w.grownBy w' e.blk) (he:e'.ok w') (hb:∀k,e'.blk=some k->e.blk=some k∨w.heap.size<=k) (hr:Ext W H F (W.set i e') (H.set i b') F->RelO (W.set i e') (H.set i b') F b'.ob e'):
 Rel T F0 w0 X W0 (W.set i e') (H.set i b') F w'/\Ext W H F (W.set i e') (H.set i b') F:=by
 have hi1:=(List.getElem?_eq_some_iff.1 h1).1;have hi2:=(List.getElem?_eq_some_iff.1 h2).1;have hx:Ext W H F (W.set i e') (H.set i b') F:=by
  refine⟨Frz.refl F,fun j b0 e0 g1 g2=> ?_,fun j e0 g=>h.atW g⟩
  by_cases hij:i=j
  ·subst hij;rw [h1]at g1;rw [h2]at g2;cases g1;cases g2;refine⟨b',e',by simp [hi1],by simp [hi2],hv,hh,fun g t us e1=>hk (by subst e1;simp),fun g es c e1=>hk (by subst e1;simp)⟩
  have hp:=a0k (h.plain g2);exact⟨b0,e0,by rw [List.getElem?_set_ne hij];exact g1,by rw [List.getElem?_set_ne hij];exact g2,Nat.le_refl _,fun _=>⟨hp,Nat.le_refl _,fun _ _=>rfl⟩,fun _ _ _ _=>hp,fun _ _ _ _=>hp⟩
 have hown:=ownW_get h1 h2;rw [hf]at hown;refine⟨⟨by simp [h.len],fun j b0 e0 g1 g2=> ?_,?_,h.gl,fun j e0 g=> ?_⟩,hx⟩
 ·by_cases hij:i=j
  ·subst hij;simp only [List.getElem?_set_self hi1,List.getElem?_set_self hi2,Option.some.injEq]at g1 g2;subst g1;subst g2;exact⟨hr hx,fun hz=>by rw [hf']at hz;cases hz⟩
  rw [List.getElem?_set_ne hij]at g1 g2;obtain⟨k1,k2⟩:=h.blk j b0 e0 g1 g2;exact⟨k1.ext hx,k2⟩
 ·rw [ownW_set,hf'];exact h.hd.upd hown hg he hb
 obtain⟨b0,e1,g1,g2,g3,g4⟩:=h.lent j e0 g
 by_cases hij:i=j
 ·subst hij;rw [h1]at g1;rw [h2]at g2;cases g1;cases g2;refine⟨b',e',by simp [hi1],by simp [hi2],fun hap=>(g3 (ha hap).1).trans (ha hap).2,fun hn=> ?_⟩;have g5:=g4 hn;refine g5.trans (hk fun el q a m n us he1=> ?_);subst he1;cases e0<;>simp only [hdEq]at g5
  ·obtain⟨_,g5⟩:=g5;cases g5
  ·exact hn _ _ _ _ _ _ rfl
  obtain⟨_,_,g5⟩:=g5;cases g5
 exact⟨b0,e1,by rw [List.getElem?_set_ne hij];exact g1,by rw [List.getElem?_set_ne hij];exact g2,g3,g4⟩
end
set_option linter.unusedVariables false
set_option linter.unusedSimpArgs false
theorem fold_set:∀(l:List Value)(k off:Nat)(cells:Array Value),off+k+l.length<=cells.size->
 ((l.zipIdx k).foldl (fun cs(p:Value×Nat)=>cs.setIfInBounds (off+p.2) p.1) cells).toList=cells.toList.take (off+k)++l++cells.toList.drop (off+k+l.length)
 | [],k,off,cells,_=>by simp
 |v::l,k,off,cells,h=>by
  simp only [List.length_cons]at h;rw [List.zipIdx_cons,List.foldl_cons,fold_set l (k+1) off _ (by simp only [Array.size_setIfInBounds];omega)];have hlt:off+k<cells.toList.length:=by simp only [Array.length_toList];omega
  simp only [Array.toList_setIfInBounds];rw [show off+(k+1)=off+k+1 by omega,List.take_add_one,List.take_set_of_le (Nat.le_refl _),List.getElem?_set_self hlt,List.drop_set_of_lt (by omega)];simp only [Option.toList,List.append_assoc,List.length_cons];rw [show off+k+1+l.length=off+k+(l.length+1) by omega];rfl
theorem c6f{place:Nat->Option (Nat×Nat)}{cells:Array Value}{i off:Nat}{v:Value}{rest:List (Nat×Value)}(hp:place i=some (off,v.cells.size))(hs:off+v.cells.size<=cells.size):
 Instr.fill place cells ((i,v)::rest)=Instr.fill place (cells.toList.take off++v.cells.toList++cells.toList.drop (off+v.cells.size)).toArray rest:=by
 have h:=fold_set v.cells.toList 0 off cells (by simpa using hs);rw [Instr.fill];simp only [hp];rw [if_neg (by simp;omega)]
 congr 1
 apply Array.ext';rw [<-Array.foldl_toList,Array.toList_zipIdx];simpa using h
def zws(z:Value)(k:Nat):List Value:=if k=0 then []else((Array.range k).map (z.cells[· %z.cells.size]!)).toList
theorem e1j(z:Value)(k:Nat):(zws z k).length=k:=by
 unfold zws;split
 ·rename_i h;simp [h]
 simp
theorem b3v{P:Program}{t el:TypeId}{k q:Nat}{z:Value}{vl:List (Nat×Value)}{us:List Value}(hu:P.underlying t=some (.slice el))(hS:a9f P el q)(hz:b2v P el z)(hk:k*q<=16777216)
 (hf:Instr.fill (fun i=>some (i*q,q)) (zws z (k*q)).toArray vl=some us.toArray) (w:World):
 (Instr.buildSlice t k vl.toArray).run P w= .ok (.slice (some ⟨w.heap.size,0,none⟩) k k) (w.alloc (.cells us.toArray el)):=by
 unfold Instr.buildSlice;have hk':¬(2^24<k*q):=by omega
 unfold zws at hf
 by_cases h0:k*q=0
 ·rw [if_pos h0]at hf;have e:Array.map (fun _=>(default:Value)) (Array.range 0)= #[]:=by simp
  simp [underlying,hu,hS w,h0,newRow,e,hf]
 rw [if_neg h0,Array.toArray_toList]at hf;simp [underlying,hu,hS w,h0,hk',hz w,newRow,hf]
section
variable{P:Program}{T:Ty P}{n:Nat}{F0:Frz}{w0:World}{X:List Nat}{W0 W:List OE}{H:DH}{F:Frz}{e:DE}{a:Act}{w:World}
variable{dst:Option Tmp}{type:TypeId}{pos:String}{after:Array Edge}{guard:Option (Nat×Bool)}
def MemR(T:Ty P)(F0:Frz)(w0:World)(X:List Nat)(W0 W:List OE)(H:DH)(F:Frz)(a:Act)(w:World)(o:Oper)(r:Res):Prop:=
 ∃W' F' w' nx,(execOp a.eval o).run P w= .ok nx w'/\Rel T F0 w0 X W0 W' r.H F' w'/\Ext W H F W' r.H F'/\(match r.v with
  |some v=>∃u,nx= .value u/\Conc W' r.H F' v u
  |none=>nx= .skip)
def a5z(T:Ty P)(F0:Frz)(w0:World)(X:List Nat)(W0 W:List OE)(H:DH)(F:Frz)(a:Act)(w:World)(o:Oper):OpR->Prop | .gro v rd=>MemR T F0 w0 X W0 W H F a w o ⟨some v,H,rd,[]⟩ | .mem r=>MemR T F0 w0 X W0 W H F a w o r | .askM _ x k=>∀y,x=some y->MemR T F0 w0 X W0 W H F a w o (k y) | .call _ _ _ _=>False | .pcall _ _ _=>False |_=>True
theorem e5j(hl:H.length=W.length)(hp:∀(i:Nat)e,W[i]?=some e->plainE e=true):Ext W H F W H F:=
 ⟨Frz.refl F,fun i b e h1 h2=>⟨b,e,h1,h2,Nat.le_refl _,fun _=>⟨a0k (hp i e h2),Nat.le_refl _,fun _ _=>rfl⟩,fun _ _ _ _=>a0k (hp i e h2),fun _ _ _ _=>a0k (hp i e h2)⟩,fun i e h=>by
   have:=(List.getElem?_eq_some_iff.1 h).1;rw [<-hl]at this;exact⟨_,List.getElem?_eq_getElem this⟩⟩
theorem Rel.refl(h:Rel T F0 w0 X W0 W H F w):Ext W H F W H F:=e5j h.len fun i e h1=>h.plain h1
theorem d1m(hR:Rel T F0 w0 X W0 W H F w){t:TypeId}{cs:List DV}{us:List Value}{o:Oper}(hc:ConcL W H F cs us)(ho:us.all Value.oneCell'=true)(hr:(execOp a.eval o).run P w= .ok (.value (.pointer (some ⟨w.heap.size,0,none⟩))) (w.alloc (.cells us.toArray t))):a5z T F0 w0 X W0 W H F a w o (newB H (.box t cs)):=by
 unfold newB;rw [a5q];have hx:Ext W H F (W++ [.box w.heap.size t us]) (H++ [nblk (.box t cs)]) F:=b2t hR.len (fun i e h1=>hR.plain h1) _ _;obtain⟨h1,h2⟩:=hR.add (w':=w.alloc (.cells us.toArray t)) (o:= .box t cs) (e':= .box w.heap.size t us) (World.grownBy_alloc w _ none) (heap_alloc_new w _) (fun b hb=>by simp [OE.blk]at hb;omega) ⟨_,us,rfl,hc.ext hx,ho⟩;refine⟨W++ [.box w.heap.size t us],F,_,_,hr,?_,?_,_,rfl,?_⟩
 ·show Rel T F0 w0 X W0 _ (snoc _ H) F _;rw [a1j];exact h1
 ·show Ext W H F _ (snoc _ H) F;rw [a1j];exact h2
 show Conc _ (snoc _ H) F (.bp H.length 0) _;rw [a1j];exact⟨w.heap.size,t,us,by rw [hR.len];simp,rfl⟩
theorem a8v(hR:Rel T F0 w0 X W0 W H F w){el q:Nat}{w':World}{o:Oper}{ob:Ob}{rd wr:List Nat}{e':OE}{u:Value}(hr:(execOp a.eval o).run P w= .ok (.value u) w')(hu:∃ad m c us,e'= .row el q ad m c us/\u= .slice ad m c)
 (hg:w.grownBy w' none) (he:e'.ok w') (hb:∀b,e'.blk=some b->w.heap.size<=b) (hrel:Ext W H F (W++ [e']) (H++ [nblk ob]) F->RelO (W++ [e']) (H++ [nblk ob]) F ob e'):MemR T F0 w0 X W0 W H F a w o (newR H ob rd wr):=by
 unfold newR;rw [a1d];have hx:Ext W H F (W++ [e']) (H++ [nblk ob]) F:=b2t hR.len (fun i e h1=>hR.plain h1) _ _;obtain⟨h1,h2⟩:=hR.add hg he hb (hrel hx);obtain⟨ad,m',c,us',rfl,rfl⟩:=hu;refine⟨W++ [.row el q ad m' c us'],F,_,_,hr,?_,?_,_,rfl,?_⟩
 ·show Rel T F0 w0 X W0 _ (snoc _ H) F _;rw [a1j];exact h1
 ·show Ext W H F _ (snoc _ H) F;rw [a1j];exact h2
 show Conc _ (snoc _ H) F (.row H.length 0) _;rw [a1j];exact⟨ad,m',c,rfl,nblk ob,_,by simp,by rw [hR.len];simp,Nat.le_refl _,fun _=>⟨el,q,us',rfl⟩⟩
theorem c9p(H:DH)(o:Ob)(rd wr:List Nat):new H o rd wr= .mem (newR H o rd wr):=by
 unfold new newR;rw [a5q,a1d]
theorem d0t(hT:TyOk T)(hR:Rel T F0 w0 X W0 W H F w){t:TypeId}:a5z T F0 w0 X W0 W H F a w ⟨dst,.alloc t,type,pos,after,guard⟩ (b4d T H t):=by
 unfold b4d;split
 ·rename_i z hz;obtain⟨h1,h2⟩:=hT.zero hz;refine d1m hR (concL_ofC h2) h2 ?_;simp [execOp,Instr.alloc,h1 w,newVar,newRow]
 trivial
theorem e2o(hR:Rel T F0 w0 X W0 W H F w){t:TypeId}{x:Operand}{y:DV}(hx:Conc W H F y (a.eval x)):a5z T F0 w0 X W0 W H F a w ⟨dst,.box t x,type,pos,after,guard⟩ (oBox H t y):=by
 unfold oBox;split
 ·rename_i hn;obtain⟨h1,h2⟩:=a2d hx hn;refine d1m hR h1 h2 ?_;simp [execOp,Instr.box,newVar,newRow]
 trivial
theorem a7n(ps:List (Nat×Operand)):(ps.toArray.map fun(i,x)=>(i,a.eval x))=(ps.map fun p=>(p.1,a.eval p.2)).toArray:=by
 apply Array.ext';simp
theorem d3k(hE:EnvR n W H F e a)(hg:GlR T F){pl:List (Nat×Nat)}:∀{ps:List (Nat×Operand)}{cs cs':List DV}{us:List Value},bldA T e pl ps cs=some cs'->ConcL W H F cs us->us.all Value.oneCell'=true->
 ∃us',ConcL W H F cs' us'/\us'.all Value.oneCell'=true/\Instr.fill (fun i=>pl[i]?) us.toArray (ps.map fun p=>(p.1,a.eval p.2))=some us'.toArray/\us'.length=us.length
 | [],cs,cs',us,h,hc,ho=>by simp only [bldA,Option.some.injEq]at h;subst h;exact⟨us,hc,ho,rfl,rfl⟩
 |(j,x)::r,cs,cs',us,h,hc,ho=>by
  simp only [bldA]at h;split at h
  ·rename_i off sz y hp hy;split at h
   ·rename_i cs2 hn hset hsz;have h2:=a1w hE hg hy;obtain⟨c1,c2⟩:=a2d h2 hn;obtain⟨s1,s2⟩:=a7o hset;have hsz:=Nat.eq_of_beq_eq_true hsz;rw [a1d]at hsz;have hsz:(cellsD y).length=sz:=hsz;have c3:=c1.len;have c4:=hc.len;have hu:(a.eval x).cells.size=sz:=by rw [<-hsz,<-c3];simp
    have h3:ConcL W H F cs2 (us.take off++(a.eval x).cells.toList++us.drop (off+(a.eval x).cells.size)):=by
     rw [s2,hu,<-hsz];exact((hc.take off).app c1).app (hc.drop _)
    have h4:(us.take off++(a.eval x).cells.toList++us.drop (off+(a.eval x).cells.size)).all Value.oneCell'=true:=by
     refine List.all_eq_true.2 fun y hy=> ?_;rcases List.mem_append.1 hy with hy|hy
     ·rcases List.mem_append.1 hy with hy|hy
      ·exact List.all_eq_true.1 ho y (List.mem_of_mem_take hy)
      exact List.all_eq_true.1 c2 y hy
     exact List.all_eq_true.1 ho y (List.mem_of_mem_drop hy)
    obtain⟨us',g2,g5,g3,g4⟩:=d3k hE hg h h3 h4;refine⟨us',g2,g5,?_,?_⟩
    ·simp only [List.map_cons];rw [c6f (by rw [<-a0j,hp,hu]) (by rw [hu,<-hsz];simp only [List.size_toArray];omega)];exact g3
    rw [g4];simp only [List.length_append,List.length_take,List.length_drop,Array.length_toList];rw [hu,<-hsz];omega
   cases h
  cases h
theorem c8z(hT:TyOk T)(hE:EnvR n W H F e a)(hg:GlR T F){t:TypeId}{ps:List (Nat×Operand)}:a3e P W H F a w ⟨dst,.build t ps.toArray,type,pos,after,guard⟩ (b2y T e t ps):=by
 unfold b2y;split
 ·rename_i z pl hz hb;obtain⟨h1,h2⟩:=hT.zero hz;split
  ·rename_i l hl;obtain⟨us,g1,g2,g3,g4⟩:=d3k hE hg hl (concL_ofC h2) h2;refine⟨_,⟨us,rfl,g1,g2⟩,?_⟩;unfold a0p;have:=hT.bld hb w z _ us h1 (by simpa using g3);simp only [execOp];rw [a7n];simp [this]
  trivial
 trivial
end
set_option linter.unusedVariables false
set_option linter.unusedSimpArgs false
theorem a8n{H:DH}:∀{f:Nat}{l:List DV}{r:List VT}{is:List Nat},a2z H f l=some (r,is)->r.length=l.length
 |0,l,r,is,h=>by simp [a2z]at h
 |f+1,[],r,is,h=>by simp only [a2z,Option.some.injEq,Prod.mk.injEq]at h;obtain⟨rfl,_⟩:=h;rfl
 |f+1,d::l,r,is,h=>by
  simp only [a2z]at h;split at h
  ·split at h
   ·rename_i hr;cases h;simp [a8n hr]
   cases h
  cases h
section
variable{P:Program}{T:Ty P}{n:Nat}{F0:Frz}{w0:World}{X:List Nat}{W0 W:List OE}{H:DH}{F F1:Frz}{e:DE}{a:Act}{w:World}
def c1d(W:List OE)(F1:Frz)(is:List Nat):Prop:=∀i,i∈is->∀e,W[i]?=some e->FzE F1 e
theorem FC.sub{g o:Nat}{us cs:List Value}(h:FC F1 g 0 us)(hp:cs<+:us.drop o):FC F1 g o cs:=by
 obtain⟨cells,t,z,h1,h2⟩:=h;refine⟨cells,t,z,h1,hp.trans ?_⟩;have:=a7p h2 o
 rwa [List.drop_drop,Nat.zero_add]at this
theorem c2m{el q:Nat}{ad:Option Addr}{m c:Nat}{us:List Value}{xs:List VT}(hf:FzE F1 (.row el q ad m c us))(hr:RowN (rpV q) F1 m us xs):VR F1 (.sl xs) (.slice ad m c):=by
 obtain⟨h1,h2,h3,h4⟩:=hf;refine b0b.2 ⟨ad,m,c,q,rfl,hr.1,by rw [hr.1];exact h1,h2,?_⟩;rcases h4 with h4|⟨g,rfl,h5⟩
 ·exact .inl (List.eq_nil_of_length_eq_zero (by rw [hr.1,h4]))
 exact .inr ⟨g,0,us,rfl,h5,hr.2⟩
theorem e7g{el q:Nat}{ad:Option Addr}{m c lo len:Nat}{us:List Value}{xs:List VT}{a':Option Addr}{c':Nat}(hf:FzE F1 (.row el q ad m c us))(hr:RowN (rpV q) F1 m us xs)(hs:SubR q ad m c lo (lo+len) a' len c'):VR F1 (.sl ((xs.drop lo).take len)) (.slice a' len c'):=by
 obtain⟨h1,h2,h3,h4⟩:=hf;obtain⟨s1,s2,s3,s4,s5⟩:=hs;have hsl:SlR (rpV q) F1 ad m c xs:=by
  refine⟨hr.1,by rw [hr.1];exact h1,h2,?_⟩;rcases h4 with h4|⟨g,rfl,h5⟩
  ·exact .inl (List.eq_nil_of_length_eq_zero (by rw [hr.1,h4]))
  exact .inr ⟨g,0,us,rfl,h5,hr.2⟩
 have:=hsl.part (p:=lo) (q:=lo+len) (by omega) (by rw [hr.1];exact s2);have e1:(xs.take (lo+len)).drop lo=(xs.drop lo).take len:=by rw [List.drop_take];congr 1;omega
 rw [e1]at this;refine b0b.2 ⟨a',len,c',q,rfl,?_⟩;rw [s5,s4];have e2:lo+len-lo=len:=by omega
 rw [e2]at this;exact this
theorem e7l{α:Type}{l r:List α}{q i:Nat}(h:l.length=q):(l++r).drop ((i+1)*q)=r.drop (i*q):=by
 have e:(i+1)*q=l.length+i*q:=by rw [h,Nat.add_mul];omega
 rw [e,List.drop_append,List.drop_of_length_le (by omega)];simp
theorem e7t{α:Type}{l r:List α}{q i:Nat}(h:l.length=q):(l++r).take ((i+1)*q)=l++r.take (i*q):=by
 have e:(i+1)*q=l.length+i*q:=by rw [h,Nat.add_mul];omega
 rw [e,List.take_append,List.take_of_length_le (by omega)];simp
theorem b4a{q:Nat}:∀(i:Nat){xs:List DV}{us:List Value},ConcX W H F q xs us->ConcX W H F q (xs.drop i) (us.drop (i*q))
 |0,xs,us,h=>by simpa using h
 |i+1,[],us,h=>by simp only [ConcX]at h;subst h;simp [ConcX]
 |i+1,x::xs,us,⟨u,r,h1,⟨h2,h3⟩,h4,h5⟩=>by
  rw [h1,e7l (show u.cells.toList.length=q by simpa using h2)];exact b4a i h5
theorem b4x{q:Nat}:∀(i:Nat){xs:List DV}{us:List Value},ConcX W H F q xs us->ConcX W H F q (xs.take i) (us.take (i*q))
 |0,xs,us,h=>by simp [ConcX]
 |i+1,[],us,h=>by simp only [ConcX]at h;subst h;simp [ConcX]
 |i+1,x::xs,us,⟨u,r,h1,⟨h2,h3⟩,h4,h5⟩=>by
  rw [h1,e7t (show u.cells.toList.length=q by simpa using h2)];exact⟨u,r.take (i*q),rfl,⟨h2,h3⟩,h4,b4x i h5⟩
mutual
theorem a4h(hR:Rel T F0 w0 X W0 W H F w)(hl:F.le F1):∀{f:Nat}{d:DV}{v:Value}{x:VT}{is:List Nat},a1y H f d=some (x,is)->Conc W H F d v->c1d W F1 is->VR F1 x v
 |0,d,v,x,is,h,_,_=>by simp [a1y]at h
 |f+1,.v y,v,x,is,h,hc,_=>by simp only [a1y,Option.some.injEq,Prod.mk.injEq]at h;obtain⟨rfl,_⟩:=h;exact VR.mono hl hc
 |f+1,.lit b,v,x,is,h,hc,_=>by simp only [a1y,Option.some.injEq,Prod.mk.injEq]at h;obtain⟨rfl,_⟩:=h;exact hc
 |f+1,.nil,v,x,is,h,hc,_=>by
  simp only [a1y,Option.some.injEq,Prod.mk.injEq]at h;obtain⟨rfl,_⟩:=h;obtain rfl:=hc;exact b0b.2 ⟨none,0,0,0,rfl,SlR.nil _ _⟩
 |f+1,.agg l,v,x,is,h,⟨cs,h1,h2,h3⟩,hz=>by
  simp only [a1y]at h;split at h
  ·rename_i r js hr;cases h;exact⟨cs,h1,a4f hR hl hr h2 hz,h3⟩
  cases h
 |f+1,.tup l,v,x,is,h,_,_=>by simp [a1y]at h
 |f+1,.clo g p l,v,x,is,h,⟨ps,cs,h1,h2,h3⟩,hz=>by
  simp only [a1y]at h;split at h
  ·rename_i q js hq;split at h
   ·rename_i r ks hr;cases h;exact⟨ps,cs,h1,a4f hR hl hq h2 fun i hi=>hz i (List.mem_append_left _ hi),a4f hR hl hr h3 fun i hi=>hz i (List.mem_append_right _ hi)⟩
   cases h
  cases h
 |f+1,.row i ver,v,x,is,h,⟨ad,m,c,h0,b,e',h1,h2,h3,h4⟩,hz=>by
  simp only [a1y,a0j,h1]at h;obtain⟨bv,bs,bz,bd,ba,bo⟩:=b;simp only at h h4;split at h
  ·rename_i hv;obtain⟨el,q,us,rfl⟩:=h4 (Nat.eq_of_beq_eq_true hv);have hrel:=(hR.blk i _ _ h1 h2).1;simp only at hrel;split at h
   ·rename_i el' q' xs;cases h;obtain⟨_,_,_,_,e1,e2⟩:=hrel;cases e1;rw [h0];exact c2m (hz i (by simp) _ h2) (e2.mono hl)
   ·rename_i el' q' xs;split at h
    ·rename_i r js hr;cases h;obtain⟨_,_,_,_,e1,e2,e3⟩:=hrel;cases e1;have g1:=b1j hR hl hr e3 fun j hj=>hz j (by simp [hj]);rw [h0];have hfz:=hz i (by simp) _ h2;refine c2m hfz ⟨?_,a6d.1 g1⟩;exact(a8n hr).trans e2
    cases h
   cases h
  cases h
 |f+1,.win i ver lo len,v,x,is,h,⟨a',c',h0,b,e',h1,h2,h3,h4⟩,hz=>by
  simp only [a1y,a0j,h1]at h;obtain⟨bv,bs,bz,bd,ba,bo⟩:=b;simp only at h h4;split at h
  ·rename_i hv;obtain⟨el,q,ad,m,c,us,rfl,hs⟩:=h4 (Nat.eq_of_beq_eq_true hv);have hrel:=(hR.blk i _ _ h1 h2).1;simp only at hrel;split at h
   ·rename_i el' q' xs;cases h;obtain⟨_,_,_,_,e1,e2⟩:=hrel;cases e1;rw [h0];exact e7g (hz i (by simp) _ h2) (e2.mono hl) hs
   ·rename_i el' q' xs;split at h
    ·rename_i r js hr;cases h;obtain⟨_,_,_,_,e1,e2,e3⟩:=hrel;cases e1;have hfz:=hz i (by simp) _ h2;have g0:=b4x len (b4a lo e3);have g1:=b1j hR hl hr g0 fun j hj=>hz j (by simp [hj]);rw [h0];obtain⟨k1,k2,k3,k4⟩:=hfz;obtain⟨s1,s2,s3,s4,s5⟩:=hs;have hlen:r.length=len:=by
      rw [a8n hr];simp;omega
     refine b0b.2 ⟨a',len,c',q,rfl,hlen,by omega,by omega,?_⟩
     by_cases hr0:r= []
     ·exact .inl hr0
     have hl0:0<len:=by rw [<-hlen];exact List.length_pos_iff.2 hr0
     rcases k4 with k4|⟨g,rfl,k5⟩
     ·omega
     have hc:c≠lo:=by omega
     refine .inr ⟨g,lo*q,(us.drop (lo*q)).take (len*q),by rw [s5];simp [hc,addr_add],FC.sub k5 (List.take_prefix _ _),a6d.1 g1⟩
    cases h
   cases h
  cases h
 |f+1,.bp i o,v,x,is,h,⟨g,t,us,h1,h2⟩,hz=>by
  simp only [a1y,a0j]at h;split at h
  ·rename_i b1 b2 b3 b4 b5 t' cs hb;split at h
   ·rename_i r js hr;cases h;have hrel:=(hR.blk i _ _ hb h1).1;obtain⟨g',us',e1,e2,e3⟩:=hrel;cases e1;have hfz:=hz i (by simp) _ h1;exact⟨g,0,.agg us.toArray,⟨us,rfl,a4f hR hl hr e2 fun j hj=>hz j (by simp [hj]),e3⟩,hfz,by rw [h2,Nat.zero_add]⟩
   cases h
  cases h
 |f+1,.rp i ver st k o c,v,x,is,h,⟨g,p,h0,b,e',h1,h2,h3,h4⟩,hz=>by
  simp only [a1y,a0j,h1]at h;obtain⟨bv,bs,bz,bd,ba,bo⟩:=b;simp only at h h4;split at h
  ·rename_i hv;obtain⟨el,q,m,c',us,rfl,hk,rfl,_,_⟩:=h4 (Nat.eq_of_beq_eq_true hv);have hrel:=(hR.blk i _ _ h1 h2).1;simp only at hrel;split at h
   ·rename_i el' q' xs;split at h
    ·rename_i y hy;cases h;obtain⟨_,_,_,_,e1,e2⟩:=hrel;cases e1;obtain⟨u,g1,g2,g3,g4⟩:=a9s e2 hy;obtain⟨k1,k2,k3,k4⟩:=hz i (by simp) _ h2;rcases k4 with k4|⟨g',k5,k6⟩
     ·omega
     cases k5;exact⟨g,k*q,u,VR.mono hl g1,FC.sub k6 g4,h0⟩
    cases h
   ·rename_i el' q' xs;split at h
    ·rename_i y hy;split at h
     ·rename_i r js hr;cases h;obtain⟨_,_,_,_,e1,e2,e3⟩:=hrel;cases e1;obtain⟨u,g1,g2,g3,g4⟩:=b0t e3 hy;obtain⟨k1,k2,k3,k4⟩:=hz i (by simp) _ h2;rcases k4 with k4|⟨g',k5,k6⟩
      ·omega
      cases k5;exact⟨g,k*q,u,a4h hR hl hr g1 fun j hj=>hz j (by simp [hj]),FC.sub k6 g4,h0⟩
     cases h
    cases h
   cases h
  cases h
 |f+1,.mr i,v,x,is,h,_,_=>by simp [a1y]at h
 |f+1,.any,v,x,is,h,_,_=>by simp [a1y]at h
theorem a4f(hR:Rel T F0 w0 X W0 W H F w)(hl:F.le F1):∀{f:Nat}{l:List DV}{cs:List Value}{r:List VT}{is:List Nat},a2z H f l=some (r,is)->ConcL W H F l cs->c1d W F1 is->VRL F1 r cs
 |0,l,cs,r,is,h,_,_=>by simp [a2z]at h
 |f+1,[],cs,r,is,h,hc,_=>by simp only [a2z,Option.some.injEq,Prod.mk.injEq]at h;obtain⟨rfl,_⟩:=h;exact hc
 |f+1,d::l,cs,r,is,h,⟨v,k,h1,h2,h3⟩,hz=>by
  simp only [a2z]at h;split at h
  ·rename_i y js hy;split at h
   ·rename_i r' ks hr;cases h;exact⟨v,k,h1,a4h hR hl hy h2 fun i hi=>hz i (List.mem_append_left _ hi),a4f hR hl hr h3 fun i hi=>hz i (List.mem_append_right _ hi)⟩
   cases h
  cases h
theorem b1j(hR:Rel T F0 w0 X W0 W H F w)(hl:F.le F1):∀{f:Nat}{l:List DV}{q:Nat}{us:List Value}{r:List VT}{is:List Nat},a2z H f l=some (r,is)->ConcX W H F q l us->c1d W F1 is->VRX F1 q r us
 |0,l,q,us,r,is,h,_,_=>by simp [a2z]at h
 |f+1,[],q,us,r,is,h,hc,_=>by simp only [a2z,Option.some.injEq,Prod.mk.injEq]at h;obtain⟨rfl,_⟩:=h;exact hc
 |f+1,d::l,q,us,r,is,h,⟨v,k,h1,h0,h2,h3⟩,hz=>by
  simp only [a2z]at h;split at h
  ·rename_i y js hy;split at h
   ·rename_i r' ks hr;cases h;exact⟨v,k,h1,h0,a4h hR hl hy h2 fun i hi=>hz i (List.mem_append_left _ hi),b1j hR hl hr h3 fun i hi=>hz i (List.mem_append_right _ hi)⟩
   cases h
  cases h
 end
end
set_option linter.unusedVariables false
set_option linter.unusedSimpArgs false
section
variable{P:Program}{T:Ty P}{n:Nat}{F0:Frz}{w0:World}{X:List Nat}{W0 W:List OE}{H:DH}{F F1:Frz}{e:DE}{a:Act}{w:World}
variable{dst:Option Tmp}{type:TypeId}{pos:String}{after:Array Edge}{guard:Option (Nat×Bool)}
theorem HD.dum{O:List OE}(h:HD F0 w0 X F O w)(i:Nat):HD F0 w0 X F (O.set i OE.dum) w:=by
 have hmem:∀x∈O.set i OE.dum,x=OE.dum∨x∈O:=by
  intro x hx;obtain⟨j,hj⟩:=List.mem_iff_getElem?.1 hx;rw [List.getElem?_set]at hj;split at hj
  ·split at hj
   ·cases hj;exact .inl rfl
   cases hj
  exact .inr (List.mem_of_getElem? hj)
 refine⟨h.sat,h.le,h.new,fun x hx=> ?_,fun x hx k hk=> ?_,?_,h.os,h.tape,h.output,h.size,h.old⟩
 ·rcases hmem x hx with rfl|hx
  ·exact c3m _
  exact h.own x hx
 ·rcases hmem x hx with rfl|hx
  ·simp [dum_blk]at hk
  exact h.sep x hx k hk
 rw [List.pairwise_iff_getElem];intro p q hp hq hpq b' hb1 hb2;have hp':p<O.length:=by simpa using hp
 have hq':q<O.length:=by simpa using hq
 rw [List.getElem_set]at hb1 hb2;split at hb1
 ·simp [dum_blk]at hb1
 split at hb2
 ·simp [dum_blk]at hb2
 exact List.pairwise_iff_getElem.1 h.dis p q hp' hq' hpq b' hb1 hb2
def noMp:OE->Bool | .box _ _ _=>true | .row _ _ _ _ _ _=>true |_=>false
theorem Rel.frz1(h:Rel T F0 w0 X W0 W H F w){i:Nat}{b:Blk}{o:OE}(h1:H[i]?=some b)(h2:W[i]?=some o)(hn:noMp o=true):
 ∃F',F.le F'/\Rel T F0 w0 X W0 W (H.set i {b with fz:=true}) F' w/\FzE F' o/\Ext W H F W (H.set i {b with fz:=true}) F':=by
 have hi:=(List.getElem?_eq_some_iff.1 h1).1;have hW:W.set i o=W:=by
  apply List.ext_getElem?;intro j;rw [List.getElem?_set];split
  ·rename_i hij;subst hij;rw [if_pos (List.getElem?_eq_some_iff.1 h2).1];exact h2.symm
  rfl
 have fin:∀F',F.le F'->HD F0 w0 X F' ((ownW H W).set i OE.dum) w->FzE F' o->∃F',F.le F'/\Rel T F0 w0 X W0 W (H.set i {b with fz:=true}) F' w/\FzE F' o/\Ext W H F W (H.set i {b with fz:=true}) F':=by
  intro F' hle hd hz;have hx:Ext W H F W (H.set i {b with fz:=true}) F':=by
   refine⟨hle,fun j b0 e0 g1 g2=> ?_,fun j e0 g=>h.atW g⟩;have hp:=a0k (h.plain g2)
   by_cases hij:i=j
   ·subst hij;rw [h1]at g1;cases g1;exact⟨_,e0,List.getElem?_set_self hi,g2,Nat.le_refl _,fun _=>⟨hp,Nat.le_refl _,fun _ _=>rfl⟩,fun _ _ _ _=>hp,fun _ _ _ _=>hp⟩
   exact⟨b0,e0,by rw [List.getElem?_set_ne hij];exact g1,g2,Nat.le_refl _,fun _=>⟨hp,Nat.le_refl _,fun _ _=>rfl⟩,fun _ _ _ _=>hp,fun _ _ _ _=>hp⟩
  refine⟨F',hle,⟨by simp [h.len],fun j b0 e0 g1 g2=> ?_,?_,h.gl.mono T hle,fun j e0 g=> ?_⟩,hz,hx⟩
  ·by_cases hij:i=j
   ·subst hij;rw [List.getElem?_set_self hi]at g1;rw [h2]at g2;cases g1;cases g2;exact⟨(h.blk i b o h1 h2).1.ext hx,fun _=>hz⟩
   rw [List.getElem?_set_ne hij]at g1;obtain⟨k1,k2⟩:=h.blk j b0 e0 g1 g2;exact⟨k1.ext hx,fun hb=>(k2 hb).mono hle⟩
  ·have:=ownW_set (H:=H) (W:=W) i {b with fz:=true} o;rw [hW]at this;rw [this];exact hd
  obtain⟨b0,e1,g1,g2,g3,g4⟩:=h.lent j e0 g
  by_cases hij:i=j
  ·subst hij;rw [h1]at g1;cases g1;exact⟨_,e1,List.getElem?_set_self hi,g2,g3,g4⟩
  exact⟨b0,e1,by rw [List.getElem?_set_ne hij];exact g1,g2,g3,g4⟩
 have hown:=ownW_get h1 h2;cases hb:b.fz with
 |true=>
  refine fin F (Frz.refl F) ?_ ((h.blk i b o h1 h2).2 hb);exact h.hd.dum i
 |false=>
  rw [hb]at hown;have hok:=h.hd.get hown;cases o with
  |box g t us=>
   have hg:w.heap[g]?=some (.cells us.toArray t (0,0)):=hok;have hs:=h.hd.sep _ (List.mem_of_getElem? hown) g rfl;have hle:F.le (fun k=>if k=g then some (.cells us.toArray t (0,0))else F k):=a8w hs.1;refine fin _ hle (h.hd.freeze hown rfl hg) ⟨us.toArray,t,(0,0),by simp,by simp⟩
  |row el q ad m c us=>
   have hrow:=h.row h1 h2;have hok:w.ownsRow 0 el q (.slice ad m c) m us:=hok;rcases hok.2 with⟨e1,e2⟩|⟨g,cap,cur,e1,_,hg,e3,e4,e5,e6⟩
   ·simp only [Value.slice.injEq]at e1;obtain⟨rfl,rfl,rfl⟩:=e1;exact fin F (Frz.refl F) (h.hd.dum i) ⟨hrow.1,hrow.2.1,hrow.2.2.1,.inl rfl⟩
   simp only [Value.slice.injEq]at e1;obtain⟨rfl,_,rfl⟩:=e1;have hs:=h.hd.sep _ (List.mem_of_getElem? hown) g rfl;have hle:F.le (fun k=>if k=g then some (.cells cur el (0,0))else F k):=a8w hs.1;refine fin _ hle (h.hd.freeze hown rfl hg) ⟨hrow.1,hrow.2.1,hrow.2.2.1,.inr ⟨g,rfl,cur,el,(0,0),by simp,?_⟩⟩;rw [List.drop_zero,<-e6];exact List.take_prefix _ _
  |mp b es c=>cases hn
  |it b o=>cases hn
  |win _ _ _ _ _ _ _ _=>cases hn
theorem Ext.trans{W1 W2 W3:List OE}{H1 H2 H3:DH}{G1 G2 G3:Frz}(h:Ext W1 H1 G1 W2 H2 G2)(k:Ext W2 H2 G2 W3 H3 G3):Ext W1 H1 G1 W3 H3 G3:=by
 refine⟨h.le.trans k.le,fun i b e h1 h2=> ?_,h.len⟩;obtain⟨b',e',g1,g2,g3,g4,g5,g6⟩:=h.blk i b e h1 h2;obtain⟨b2,e2,k1,k2,k3,k4,k5,k6⟩:=k.blk i b' e' g1 g2;refine⟨b2,e2,k1,k2,Nat.le_trans g3 k3,fun hv=> ?_,fun g t us he=> ?_,fun g es c he=> ?_⟩
 ·have e1:b'.ver=b.ver:=by omega
  have e3:b2.ver=b'.ver:=by omega
  obtain⟨a1,a2,a3⟩:=g4 e1;obtain⟨b1,b2',b3⟩:=k4 e3;refine⟨a1.trans b1,Nat.le_trans a2 b2',fun hs j=> ?_⟩;rw [b3 (by omega) j,a3 (by omega) j]
 ·have:=g5 g t us he;subst he;obtain⟨us',rfl⟩:=this;obtain⟨us2,rfl⟩:=k5 _ _ _ rfl;exact⟨us2,rfl⟩
 have:=g6 g es c he;subst he;obtain⟨es',c',rfl⟩:=this;obtain⟨es2,c2,rfl⟩:=k6 _ _ _ rfl;exact⟨es2,c2,rfl⟩
theorem Rel.mark:∀{is:List Nat}{H:DH}{F:Frz},Rel T F0 w0 X W0 W H F w->(∀i,i∈is->∀o,W[i]?=some o->noMp o=true)->∃F',F.le F'/\Rel T F0 w0 X W0 W (markZ is H) F' w/\c1d W F' is/\Ext W H F W (markZ is H) F'
 | [],H,F,h,_=>⟨F,Frz.refl F,h,fun i hi=>by simp at hi,h.refl⟩
 |i::is,H,F,h,hn=>by
  unfold markZ;rw [a0j];cases hb:H[i]? with
  |none=>
   obtain⟨F',h1,h2,h3,h4⟩:=Rel.mark h fun j hj=>hn j (List.mem_cons_of_mem _ hj);refine⟨F',h1,h2,fun j hj o ho=> ?_,h4⟩;rcases List.mem_cons.1 hj with rfl|hj
   ·obtain⟨b,hb'⟩:=h.atW ho;rw [hb]at hb';cases hb'
   exact h3 j hj o ho
  |some b=>
   obtain⟨o,ho⟩:=h.at hb;obtain⟨F1,g1,g2,g3,g4⟩:=h.frz1 hb ho (hn i (by simp) o ho);simp only;rw [a1a];obtain⟨F',h1,h2,h3,h4⟩:=Rel.mark g2 fun j hj=>hn j (List.mem_cons_of_mem _ hj);refine⟨F',g1.trans h1,h2,fun j hj o' ho'=> ?_,g4.trans h4⟩;rcases List.mem_cons.1 hj with rfl|hj
   ·rw [ho]at ho';cases ho';exact g3.mono h1
   exact h3 j hj o' ho'
mutual
theorem a5b(h:Rel T F0 w0 X W0 W H F w):∀{f:Nat}{d:DV}{x:VT}{is:List Nat},a1y H f d=some (x,is)->∀i,i∈is->∀o,W[i]?=some o->noMp o=true
 |0,d,x,is,hr,_,_,_,_=>by simp [a1y]at hr
 |f+1,.v y,x,is,hr,i,hi,o,ho=>by simp only [a1y,Option.some.injEq,Prod.mk.injEq]at hr;obtain⟨_,rfl⟩:=hr;simp at hi
 |f+1,.lit b,x,is,hr,i,hi,o,ho=>by simp only [a1y,Option.some.injEq,Prod.mk.injEq]at hr;obtain⟨_,rfl⟩:=hr;simp at hi
 |f+1,.nil,x,is,hr,i,hi,o,ho=>by simp only [a1y,Option.some.injEq,Prod.mk.injEq]at hr;obtain⟨_,rfl⟩:=hr;simp at hi
 |f+1,.agg l,x,is,hr,i,hi,o,ho=>by
  simp only [a1y]at hr;split at hr
  ·rename_i hl;cases hr;exact a1l h hl i hi o ho
  cases hr
 |f+1,.tup l,x,is,hr,i,hi,o,ho=>by simp [a1y]at hr
 |f+1,.clo g p l,x,is,hr,i,hi,o,ho=>by
  simp only [a1y]at hr;split at hr
  ·rename_i hp;split at hr
   ·rename_i hl;cases hr;rcases List.mem_append.1 hi with hi|hi
    ·exact a1l h hp i hi o ho
    exact a1l h hl i hi o ho
   cases hr
  cases hr
 |f+1,.row j ver,x,is,hr,i,hi,o,ho=>by
  simp only [a1y,a0j]at hr;split at hr
  ·rename_i bv bs bz bd ba bo hb;have key:∀{o},W[j]?=some o->(∃el q xs,bo= .row el q xs)∨(∃el q xs,bo= .nest el q xs)->noMp o=true:=by
    intro o ho hk;have hrel:=(h.blk j _ o hb ho).1;rcases hk with⟨el,q,xs,rfl⟩|⟨el,q,xs,rfl⟩
    ·obtain⟨_,_,_,_,rfl,_⟩:=hrel;rfl
    obtain⟨_,_,_,_,rfl,_⟩:=hrel;rfl
   split at hr
   ·split at hr
    ·cases hr;simp only [List.mem_singleton]at hi;subst hi;exact key ho (.inl ⟨_,_,_,rfl⟩)
    ·split at hr
     ·rename_i hl;cases hr;rcases List.mem_cons.1 hi with rfl|hi
      ·exact key ho (.inr ⟨_,_,_,rfl⟩)
      exact a1l h hl i hi o ho
     cases hr
    cases hr
   cases hr
  cases hr
 |f+1,.win j ver lo len,x,is,hr,i,hi,o,ho=>by
  simp only [a1y,a0j]at hr;split at hr
  ·rename_i bv bs bz bd ba bo hb;have key:∀{o},W[j]?=some o->(∃el q xs,bo= .row el q xs)∨(∃el q xs,bo= .nest el q xs)->noMp o=true:=by
    intro o ho hk;have hrel:=(h.blk j _ o hb ho).1;rcases hk with⟨el,q,xs,rfl⟩|⟨el,q,xs,rfl⟩
    ·obtain⟨_,_,_,_,rfl,_⟩:=hrel;rfl
    obtain⟨_,_,_,_,rfl,_⟩:=hrel;rfl
   split at hr
   ·split at hr
    ·cases hr;simp only [List.mem_singleton]at hi;subst hi;exact key ho (.inl ⟨_,_,_,rfl⟩)
    ·split at hr
     ·rename_i hl;cases hr;rcases List.mem_cons.1 hi with rfl|hi
      ·exact key ho (.inr ⟨_,_,_,rfl⟩)
      exact a1l h hl i hi o ho
     cases hr
    cases hr
   cases hr
  cases hr
 |f+1,.bp j p,x,is,hr,i,hi,o,ho=>by
  simp only [a1y,a0j]at hr;split at hr
  ·rename_i hb;split at hr
   ·rename_i hl;cases hr;rcases List.mem_cons.1 hi with rfl|hi
    ·obtain⟨_,_,rfl,_⟩:=(h.blk i _ o hb ho).1;rfl
    exact a1l h hl i hi o ho
   cases hr
  cases hr
 |f+1,.rp j ver st k p c,x,is,hr,i,hi,o,ho=>by
  simp only [a1y,a0j]at hr;split at hr
  ·rename_i bv bs bz bd ba bo hb;have key:∀{o},W[j]?=some o->(∃el q xs,bo= .row el q xs)∨(∃el q xs,bo= .nest el q xs)->noMp o=true:=by
    intro o ho hk;have hrel:=(h.blk j _ o hb ho).1;rcases hk with⟨el,q,xs,rfl⟩|⟨el,q,xs,rfl⟩
    ·obtain⟨_,_,_,_,rfl,_⟩:=hrel;rfl
    obtain⟨_,_,_,_,rfl,_⟩:=hrel;rfl
   split at hr
   ·split at hr
    ·split at hr
     ·cases hr;simp only [List.mem_singleton]at hi;subst hi;exact key ho (.inl ⟨_,_,_,rfl⟩)
     cases hr
    ·split at hr
     ·split at hr
      ·rename_i hl;cases hr;rcases List.mem_cons.1 hi with rfl|hi
       ·exact key ho (.inr ⟨_,_,_,rfl⟩)
       exact a5b h hl i hi o ho
      cases hr
     cases hr
    cases hr
   cases hr
  cases hr
 |f+1,.mr j,x,is,hr,i,hi,o,ho=>by simp [a1y]at hr
 |f+1,.any,x,is,hr,i,hi,o,ho=>by simp [a1y]at hr
theorem a1l(h:Rel T F0 w0 X W0 W H F w):∀{f:Nat}{l:List DV}{r:List VT}{is:List Nat},a2z H f l=some (r,is)->∀i,i∈is->∀o,W[i]?=some o->noMp o=true
 |0,l,r,is,hr,_,_,_,_=>by simp [a2z]at hr
 |f+1,[],r,is,hr,i,hi,o,ho=>by simp only [a2z,Option.some.injEq,Prod.mk.injEq]at hr;obtain⟨_,rfl⟩:=hr;simp at hi
 |f+1,d::l,r,is,hr,i,hi,o,ho=>by
  simp only [a2z]at hr;split at hr
  ·rename_i hd;split at hr
   ·rename_i hl;cases hr;rcases List.mem_append.1 hi with hi|hi
    ·exact a5b h hd i hi o ho
    exact a1l h hl i hi o ho
   cases hr
  cases hr
 end
end
set_option linter.unusedVariables false
set_option linter.unusedSimpArgs false
section
variable{P:Program}{T:Ty P}{n:Nat}{F0:Frz}{w0:World}{X:List Nat}{W0 W:List OE}{H:DH}{F F1:Frz}{e:DE}{a:Act}{w:World}
variable{dst:Option Tmp}{type:TypeId}{pos:String}{after:Array Edge}{guard:Option (Nat×Bool)}
mutual
theorem pureD_ok:∀{d:DV}{v:Value}{x:VT},pureD d=some x->Conc W H F d v->VR F x v
 | .v y,v,x,h,hc=>by simp only [pureD,Option.some.injEq]at h;subst h;exact hc
 | .lit b,v,x,h,hc=>by simp only [pureD,Option.some.injEq]at h;subst h;exact hc
 | .nil,v,x,h,hc=>by
   simp only [pureD,Option.some.injEq]at h;subst h;obtain rfl:=hc;exact b0b.2 ⟨none,0,0,0,rfl,SlR.nil _ _⟩
 | .agg l,v,x,h,⟨cs,h1,h2,h3⟩=>by
   simp only [pureD]at h;split at h
   ·rename_i hr;cases h;exact⟨cs,h1,pureL_ok hr h2,h3⟩
   cases h
 | .clo f p l,v,x,h,⟨ps,cs,h1,h2,h3⟩=>by
   simp only [pureD]at h;split at h
   ·rename_i hp;split at h
    ·rename_i hr;cases h;exact⟨ps,cs,h1,pureL_ok hp h2,pureL_ok hr h3⟩
    cases h
   cases h
 | .tup l,v,x,h,_=>by simp [pureD]at h
 | .any,v,x,h,_=>by simp [pureD]at h
 | .row _ _,v,x,h,_=>by simp [pureD]at h
 | .win _ _ _ _,v,x,h,_=>by simp [pureD]at h
 | .bp _ _,v,x,h,_=>by simp [pureD]at h
 | .rp _ _ _ _ _ _,v,x,h,_=>by simp [pureD]at h
 | .mr _,v,x,h,_=>by simp [pureD]at h
theorem pureL_ok:∀{l:List DV}{cs:List Value}{r:List VT},pureL l=some r->ConcL W H F l cs->VRL F r cs
 | [],cs,r,h,hc=>by simp only [pureL,Option.some.injEq]at h;subst h;exact hc
 |d::l,cs,r,h,⟨v,k,h1,h2,h3⟩=>by
  simp only [pureL]at h;split at h
  ·rename_i hd;split at h
   ·rename_i hl;cases h;exact⟨v,k,h1,pureD_ok hd h2,pureL_ok hl h3⟩
   cases h
  cases h
 end
theorem c4x{q:Nat}:∀{l:List DV}{us:List Value}{r:List VT},pureL l=some r->ConcX W H F q l us->VRX F q r us
 | [],us,r,h,hc=>by simp only [pureL,Option.some.injEq]at h;subst h;exact hc
 |d::l,us,r,h,⟨v,k,h1,h0,h2,h3⟩=>by
  simp only [pureL]at h;split at h
  ·rename_i hd;split at h
   ·rename_i hl;cases h;exact⟨v,k,h1,h0,pureD_ok hd h2,c4x hl h3⟩
   cases h
  cases h
theorem e9t(h:Rel T F0 w0 X W0 W H F w){q:Nat}{xs:List DV}{ys:List VT}{H':DH}{is:List Nat}{us:List Value}(hf:frzL H xs=some (ys,H',is))(hc:ConcX W H F q xs us):
 ∃F',F.le F'/\Rel T F0 w0 X W0 W H' F' w/\Ext W H F W H' F'/\VRX F' q ys us:=by
 unfold frzL at hf;split at hf
 ·rename_i hp;cases hf;exact⟨F,Frz.refl F,h,h.refl,c4x hp hc⟩
 split at hf
 ·rename_i hr;cases hf;obtain⟨F',h1,h2,h3,h4⟩:=h.mark (a1l h hr);exact⟨F',h1,h2,h4,b1j h h1 hr hc h3⟩
 cases hf
theorem e9r(h:Rel T F0 w0 X W0 W H F w){z:DV}{y:VT}{H':DH}{is:List Nat}{u:Value}(hf:frzL H [z]=some ([y],H',is))(hc:Conc W H F z u):
 ∃F',F.le F'/\Rel T F0 w0 X W0 W H' F' w/\Ext W H F W H' F'/\VR F' y u:=by
 have hc':ConcL W H F [z] [u]:=⟨u,[],rfl,hc,rfl⟩
 have fin:∀F',VRL F' [y] [u]->VR F' y u:=fun F'⟨v,r,e1,e2,_⟩=>by cases e1;exact e2
 unfold frzL at hf;split at hf
 ·rename_i hp;cases hf;exact⟨F,Frz.refl F,h,h.refl,fin _ (pureL_ok hp hc')⟩
 split at hf
 ·rename_i hr;cases hf;obtain⟨F',h1,h2,h3,h4⟩:=h.mark (a1l h hr);exact⟨F',h1,h2,h4,fin _ (a4f h h1 hr hc' h3)⟩
 cases hf
theorem b8z{ag:Bool}{q:Nat}:∀{k:Nat}{cs xs:List DV}{us:List Value},b4j ag q k cs=some xs->ConcL W H F cs us->us.all Value.oneCell'=true->us.length=k*q/\xs.length=k/\ConcX W H F q xs us
 |0,[],xs,us,h,hc,_=>by
  simp only [b4j,Option.some.injEq]at h;subst h;simp only [ConcL]at hc;subst hc;exact⟨by simp,rfl,rfl⟩
 |0,_::_,xs,us,h,_,_=>by simp [b4j]at h
 |k+1,cs,xs,us,h,hc,ho=>by
  simp only [b4j]at h;split at h
  ·rename_i c hcq;obtain⟨t1,t2⟩:=a8s hcq;split at h
   ·rename_i r hr;rw [a4d]at hr;have h1:=hc.take q;rw [t1]at h1;have h3:(us.take q).length=q:=by rw [h1.len,t2]
    have ho1:(us.take q).all Value.oneCell'=true:=List.all_eq_true.2 fun y hy=>List.all_eq_true.1 ho y (List.mem_of_mem_take hy);have ho2:(us.drop q).all Value.oneCell'=true:=List.all_eq_true.2 fun y hy=>List.all_eq_true.1 ho y (List.mem_of_mem_drop hy);obtain⟨g1,g2,g3⟩:=b8z hr (hc.drop q) ho2;have hlen:us.length=(k+1)*q:=by
     have:=congrArg List.length (List.take_append_drop q us);rw [List.length_append,h3,g1]at this;rw [Nat.add_mul];omega
    split at h
    ·cases h;refine⟨hlen,by simp [g2],.agg (us.take q).toArray,us.drop q,?_,⟨by simpa [Value.cells]using h3,by simpa [Value.cells]using ho1⟩,⟨us.take q,rfl,h1,ho1⟩,g3⟩;simp [Value.cells]
    ·cases h;obtain⟨v,k',e1,e2,e3⟩:=h1;simp only [ConcL]at e3;subst e3;have hv:v.oneCell'=true:=by
      have:=List.all_eq_true.1 ho1 v (by rw [e1];simp);exact this
     refine⟨hlen,by simp [g2],v,us.drop q,?_,⟨?_,by rw [a1r hv];simpa using hv⟩,e2,g3⟩
     ·rw [a1r hv];have:=(List.take_append_drop q us).symm;rw [e1]at this;simpa using this
     rw [a1r hv,<-h3,e1];rfl
    cases h
   cases h
  cases h
theorem d4s(hE:EnvR n W H F e a)(hg:GlR T F){q:Nat}:∀{ps:List (Nat×Operand)}{cs cs':List DV}{us:List Value},bldS T e q ps cs=some cs'->ConcL W H F cs us->us.all Value.oneCell'=true->
 ∃us',ConcL W H F cs' us'/\us'.all Value.oneCell'=true/\Instr.fill (fun i=>some (i*q,q)) us.toArray (ps.map fun p=>(p.1,a.eval p.2))=some us'.toArray/\us'.length=us.length
 | [],cs,cs',us,h,hc,ho=>by simp only [bldS,Option.some.injEq]at h;subst h;exact⟨us,hc,ho,rfl,rfl⟩
 |(j,x)::r,cs,cs',us,h,hc,ho=>by
  simp only [bldS]at h;split at h
  ·rename_i y hy;split at h
   ·rename_i cs2 hn hset hsz;have h2:=a1w hE hg hy;obtain⟨c1,c2⟩:=a2d h2 hn;obtain⟨s1,s2⟩:=a7o hset;have hsz:=Nat.eq_of_beq_eq_true hsz;rw [a1d]at hsz;have hsz:(cellsD y).length=q:=hsz;have c3:=c1.len;have c4:=hc.len;have hu:(a.eval x).cells.size=q:=by rw [<-hsz,<-c3];simp
    have h3:ConcL W H F cs2 (us.take (j*q)++(a.eval x).cells.toList++us.drop (j*q+(a.eval x).cells.size)):=by
     rw [s2,hu,<-hsz];exact((hc.take _).app c1).app (hc.drop _)
    have h4:(us.take (j*q)++(a.eval x).cells.toList++us.drop (j*q+(a.eval x).cells.size)).all Value.oneCell'=true:=by
     refine List.all_eq_true.2 fun y hy=> ?_;rcases List.mem_append.1 hy with hy|hy
     ·rcases List.mem_append.1 hy with hy|hy
      ·exact List.all_eq_true.1 ho y (List.mem_of_mem_take hy)
      exact List.all_eq_true.1 c2 y hy
     exact List.all_eq_true.1 ho y (List.mem_of_mem_drop hy)
    obtain⟨us',g2,g5,g3,g4⟩:=d4s hE hg h h3 h4;refine⟨us',g2,g5,?_,?_⟩
    ·simp only [List.map_cons];rw [c6f (off:=j*q) (by rw [hu]) (by rw [hu];simp only [List.size_toArray];omega)];exact g3
    rw [g4];simp only [List.length_append,List.length_take,List.length_drop,Array.length_toList];rw [hu];omega
   cases h
  cases h
theorem repC_ok:∀{us:List Value},us.all Value.oneCell'=true->ConcL W H F (repC us.length) us
 | [],_=>rfl
 |v::us,h=>by
  simp only [List.all_cons,Bool.and_eq_true]at h;exact⟨v,us,rfl,h.1,repC_ok h.2⟩
theorem HD.sub{O O':List OE}(h:HD F0 w0 X F O w)(hs:O'.Sublist O):HD F0 w0 X F O' w:=
 ⟨h.sat,h.le,h.new,fun e he=>h.own e (hs.subset he),fun e he=>h.sep e (hs.subset he),h.dis.sublist hs,h.os,h.tape,h.output,h.size,h.old⟩
theorem e4q{z:Value}(hz:z.cells.toList.all Value.oneCell'=true){k q:Nat}(hq:z.cells.size=q):(zws z (k*q)).all Value.oneCell'=true:=by
 unfold zws;split
 ·rfl
 rename_i h0
 have hq0:0<q:=by rcases Nat.eq_zero_or_pos q with h|h;·subst h;simp at h0
                  ·exact h
 refine List.all_eq_true.2 fun y hy=> ?_;simp only [Array.toList_map,Array.toList_range,List.mem_map,List.mem_range]at hy;obtain⟨j,hj,rfl⟩:=hy;have hlt:j %z.cells.size<z.cells.size:=by rw [hq];exact Nat.mod_lt _ hq0
 rw [getElem!_pos z.cells _ hlt];exact List.all_eq_true.1 hz _ (by simp)
theorem d3n(w:World){el q k:Nat}{us:List Value}(hl:us.length=k*q)(hk:k<=maxLen):(OE.row el q (some ⟨w.heap.size,0,none⟩) k k us).ok (w.alloc (.cells us.toArray el)):=by
 refine⟨hl,.inr ⟨w.heap.size,k,us.toArray,rfl,Nat.zero_le _,heap_alloc_new w _,Nat.le_refl _,hk,by simp [hl],?_⟩⟩;simp [<-hl]
theorem pureL_len:∀{l:List DV}{r:List VT},pureL l=some r->r.length=l.length
 | [],r,h=>by simp only [pureL,Option.some.injEq]at h;subst h;rfl
 |d::l,r,h=>by
  simp only [pureL]at h;split at h
  ·split at h
   ·rename_i hr;cases h;simp [pureL_len hr]
   cases h
  cases h
theorem d5m{xs:List DV}{ys:List VT}{H':DH}(hf:frzL H xs=some (ys,H',[])):H'=H:=by
 unfold frzL at hf;split at hf
 ·cases hf;rfl
 split at hf
 ·cases hf;rfl
 cases hf
theorem d5u{xs:List DV}{ys:List VT}{H':DH}{is:List Nat}(hf:frzL H xs=some (ys,H',is)):ys.length=xs.length:=by
 unfold frzL at hf;split at hf
 ·rename_i hp;cases hf;exact pureL_len hp
 split at hf
 ·rename_i hr;cases hf;exact a8n hr
 cases hf
theorem Rel.frz(h:Rel T F0 w0 X W0 W H F w){F':Frz}(hle:F.le F'):Ext W H F W H F':=
 ⟨hle,fun i b e h1 h2=>⟨b,e,h1,h2,Nat.le_refl _,fun _=>⟨a0k (h.plain h2),Nat.le_refl _,fun _ _=>rfl⟩,fun _ _ _ _=>a0k (h.plain h2),fun _ _ _ _=>a0k (h.plain h2)⟩,fun i e h1=>h.atW h1⟩
theorem Rel.newFz(h:Rel T F0 w0 X W0 W H F w){w':World}{el q m c:Nat}{us:List Value}{o:Obj}(hg:w.grownBy w' none)(he:(OE.row el q (some ⟨w.heap.size,0,none⟩) m c us).ok w')(ho':o= .cells us.toArray el (0,0))(ho:w'.heap[w.heap.size]?=some o):
 ∃F',F.le F'/\Rel T F0 w0 X W0 W H F' w'/\Ext W H F W H F'/\FC F' w.heap.size 0 us:=by
 have h1:=h.hd.add hg he (fun b hb=>by simp [OE.blk,Value.ownBlock]at hb;omega);have hlast:(ownW H W++ [OE.row el q (some ⟨w.heap.size,0,none⟩) m c us])[(ownW H W).length]?=some (OE.row el q (some ⟨w.heap.size,0,none⟩) m c us):=by simp
 have hs:=h1.sep _ (List.mem_of_getElem? hlast) w.heap.size rfl;have h2:=h1.freeze hlast rfl ho;have h3:=h2.sub (O':=ownW H W) (by rw [List.set_append_right _ _ (Nat.le_refl _)];simp);have hle:F.le (fun k=>if k=w.heap.size then some o else F k):=a8w hs.1;have hx:=h.frz hle;refine⟨_,hle,⟨h.len,fun i b e g1 g2=> ?_,h3,h.gl.mono T hle,h.lent⟩,hx,us.toArray,el,(0,0),by simp [ho'],by simp⟩;obtain⟨k1,k2⟩:=h.blk i b e g1 g2;exact⟨k1.ext hx,fun hb=>(k2 hb).mono hle⟩
theorem c6z(hT:TyOk T)(hE:EnvR n W H F e a)(hR:Rel T F0 w0 X W0 W H F w){nst dw:Bool}{t:TypeId}{k:Nat}{ps:List (Nat×Operand)}:a5z T F0 w0 X W0 W H F a w ⟨dst,.buildSlice t k ps.toArray,type,pos,after,guard⟩ (a6l T nst dw e H t k ps):=by
 unfold a6l;split
 ·rename_i el q by' hap
  obtain⟨hu,hS,_⟩:=hT.app hap;split
  ·rename_i z ag hz hag;obtain⟨hz1,hz2⟩:=hT.zero hz;split
   ·rename_i cs hcs;split
    ·rename_i xs hxs;split
     ·rename_i hk1 hk2;have hk1:=Nat.le_of_ble_eq_true hk1;have hk2:=Nat.le_of_ble_eq_true hk2;have hzq:z.cells.size=q:=hT.zsize hap hz;have hone:=e4q hz2 (k:=k) hzq;obtain⟨us,g1,g2,g3,g4⟩:=d4s hE hR.gl hcs (by have:=repC_ok (W:=W) (H:=H) (F:=F) hone;rwa [e1j]at this) hone;obtain⟨c1,c2,c3⟩:=b8z hxs g1 g2;have hrun:=b3v (P:=P) hu hS hz1 hk1 g3 w;have hex:(execOp a.eval ⟨dst,.buildSlice t k ps.toArray,type,pos,after,guard⟩).run P w= .ok (.value (.slice (some ⟨w.heap.size,0,none⟩) k k)) (w.alloc (.cells us.toArray el)):=by
       simp only [execOp];rw [a7n];simp [hrun]
      have hb:∀b,(OE.row el q (some ⟨w.heap.size,0,none⟩) k k us).blk=some b->w.heap.size<=b:=by
       intro b hb;simp [OE.blk,Value.ownBlock]at hb;omega
      unfold b5r;split
      ·rw [c9p];exact a8v hR hex ⟨_,_,_,us,rfl,rfl⟩ (World.grownBy_alloc w _ none) (d3n w c1 hk2) hb fun hx=>⟨_,_,_,us,rfl,c2,c3.ext hx⟩
      split
      ·rename_i ys H' is hf;obtain⟨F',f1,f2,f3,f4⟩:=e9t hR hf c3;have hrn:RowN (rpV q) F' k us ys:=⟨(d5u hf).trans c2,a6d.1 f4⟩
       split
       ·obtain⟨F2,h1,h2,h3,h4⟩:=f2.newFz (World.grownBy_alloc w _ none) (d3n w (el:=el) c1 hk2) rfl (heap_alloc_new w _);split
        ·obtain rfl:=d5m hf;refine⟨W,F2,_,_,hex,h2,f3.trans h3,_,rfl,?_⟩;exact c2m (F1:=F2) (el:=el) (q:=q) ⟨Nat.le_refl _,hk2,c1,.inr ⟨_,rfl,h4⟩⟩ (hrn.mono h1)
        refine⟨W,F2,_,_,hex,h2,f3.trans h3,_,rfl,?_⟩;exact c2m (F1:=F2) (el:=el) (q:=q) ⟨Nat.le_refl _,hk2,c1,.inr ⟨_,rfl,h4⟩⟩ (hrn.mono h1)
       rw [c9p];obtain⟨W',F2,w2,nx,m1,m2,m3,m4⟩:=a8v (ob:= .row el q ys) (rd:=is) (wr:=is) f2 hex ⟨_,_,_,us,rfl,rfl⟩ (World.grownBy_alloc w _ none) (d3n w c1 hk2) hb fun hx=>⟨_,_,_,us,rfl,hrn.mono hx.le⟩
       exact⟨W',F2,w2,nx,m1,m2,f3.trans m3,m4⟩
      trivial
     trivial
    trivial
   trivial
  trivial
 trivial
end
set_option linter.unusedVariables false
set_option linter.unusedSimpArgs false
section
variable{P:Program}{T:Ty P}{n:Nat}{F0:Frz}{w0:World}{X:List Nat}{W0 W:List OE}{H:DH}{F F1:Frz}{e:DE}{a:Act}{w:World}
variable{dst:Option Tmp}{type:TypeId}{pos:String}{after:Array Edge}{guard:Option (Nat×Bool)}
theorem b0o{l1 l2 l3:List Value}(h1:l1.all Value.oneCell'=true)(h2:l2.all Value.oneCell'=true)(h3:l3.all Value.oneCell'=true):(l1++l2++l3).all Value.oneCell'=true:=by
 simp only [List.all_append,h1,h2,h3,Bool.and_self]
theorem b1b{l:List Value}(h:l.all Value.oneCell'=true)(k:Nat):(l.take k).all Value.oneCell'=true:=List.all_eq_true.2 fun y hy=>List.all_eq_true.1 h y (List.mem_of_mem_take hy)
theorem b1e{l:List Value}(h:l.all Value.oneCell'=true)(k:Nat):(l.drop k).all Value.oneCell'=true:=List.all_eq_true.2 fun y hy=>List.all_eq_true.1 h y (List.mem_of_mem_drop hy)
theorem beqT{p q:Bool}(h:(p&&q)=true):p=true/\q=true:=Bool.and_eq_true_iff.1 h
theorem e5i(hT:TyOk T)(hR:Rel T F0 w0 X W0 W H F w){t:TypeId}{x y:Operand}{i o m:Nat}{z:DV}{b:Blk}{g:Nat}{tb:TypeId}{us0:List Value}(hS:T.size t=some m)(hb:H[i]?=some b)(hw:W[i]?=some (.box g tb us0))(hx:a.eval x= .pointer (some ⟨g,o,none⟩))(hy:Conc W H F z (a.eval y)):
 a5z T F0 w0 X W0 W H F a w ⟨none,.store t x y,type,pos,after,guard⟩ (sBox H i o m z b):=by
 have hS:=hT.size hS;unfold sBox;split
 ·rename_i t' cs hfz hob hnl;obtain⟨hn,hl⟩:=beqT hnl;have hl:=Nat.eq_of_beq_eq_true hl;rw [a1d]at hl;have hl:(cellsD z).length=m:=hl;split
  ·rename_i cs' hset;obtain⟨s1,s2⟩:=a7o hset;obtain⟨c1,c2⟩:=a2d hy hn;have hrel:=(hR.blk i b _ hb hw).1;rw [hob]at hrel;obtain⟨g',us,e1,e2,e3⟩:=hrel;cases e1;have hlen:=e2.len;have hvl:=c1.len;have hm:(a.eval y).cells.size=m:=by rw [<-hl,<-hvl];simp
   have hown:=ownW_get hb hw;rw [hfz]at hown;have hg:w.heap[g]?=some (.cells us0.toArray tb (0,0)):=hR.hd.get hown;have hst:=run_storeCells_at P g o tb (a.eval y).cells.toList 0 us0.toArray w hg (by simp [hm];omega) (fun u hu=>List.all_eq_true.1 c2 u hu);have hrun:(execOp a.eval ⟨none,.store t x y,type,pos,after,guard⟩).run P w= .ok .skip (w.setRow g (us0.take o++(a.eval y).cells.toList++us0.drop (o+m)).toArray):=by
    simp only [Nat.add_zero]at hst;simp [execOp,Instr.storeAt,Instr.sureAddr,hx,storeVar,hS w,hm,hst]
   have hone:=b0o (b1b e3 o) c2 (b1e e3 (o+m));have hcl:ConcL W H F cs' (us0.take o++(a.eval y).cells.toList++us0.drop (o+m)):=by
    rw [s2,hl];exact((e2.take o).app c1).app (e2.drop _)
   obtain⟨r1,r2⟩:=hR.set (w':=w.setRow g (us0.take o++(a.eval y).cells.toList++us0.drop (o+m)).toArray) (i:=i) (b:=b) (b':={b with dr:=true,ob:= .box tb cs'}) (e:= .box g tb us0) (e':= .box g tb (us0.take o++(a.eval y).cells.toList++us0.drop (o+m))) hb hw hfz hfz (Nat.le_refl _)
    (fun _=>⟨⟨_,rfl⟩,Nat.le_refl _,fun _ k=>by rw [hob];rfl⟩) (fun _=>⟨_,rfl⟩) (fun h=>⟨h,⟨_,rfl⟩⟩) (a4e w g _) (setRow_heap w g _ _ tb _ hg) (fun k hk=> .inl hk) (fun hx=>⟨g,_,rfl,hcl.ext hx,hone⟩)
   refine⟨W.set i (.box g tb (us0.take o++(a.eval y).cells.toList++us0.drop (o+m))),F,_,_,hrun,?_,?_,rfl⟩
   ·show Rel T F0 w0 X W0 _ (setN H i _) F _;rw [a1a];exact r1
   show Ext W H F _ (setN H i _) F;rw [a1a];exact r2
  trivial
 trivial
theorem d9j(hT:TyOk T)(hR:Rel T F0 w0 X W0 W H F w){t:TypeId}{x y:Operand}{i po m:Nat}{b:Blk}{el:TypeId}{q g mm c:Nat}{us:List Value}(hS:T.size t=some m)(hb:H[i]?=some b)(hfz:b.fz=false)(hw:W[i]?=some (.row el q (some ⟨g,0,none⟩) mm c us))(hmm:0<mm)(hx:a.eval x= .pointer (some ⟨g,po,none⟩))(hm:(a.eval y).cells.size=m)(h1:(a.eval y).cells.toList.all Value.oneCell'=true)(hle:po+m<=us.length):
 ∃w',(execOp a.eval ⟨none,.store t x y,type,pos,after,guard⟩).run P w= .ok .skip w'/\w.grownBy w' (some g)/\(OE.row el q (some ⟨g,0,none⟩) mm c (us.take po++(a.eval y).cells.toList++us.drop (po+m))).ok w':=by
 have hS:=hT.size hS;have hown:=ownW_get hb hw;rw [hfz]at hown;have hok:=hR.hd.get hown;obtain⟨g',cur,e1,e2,e3,e4,e5,e6⟩:=OE.access hok (show(OE.row el q (some ⟨g,0,none⟩) mm c us).view=some (el,q,some ⟨g,0,none⟩,mm,c,us,0)from rfl) hmm;cases e1;have hvl:(a.eval y).cells.toList.length=m:=by simpa using hm
 have hst:=run_storeCells_at P g po el (a.eval y).cells.toList 0 cur w e2 (by rw [hvl];omega) (fun u hu=>List.all_eq_true.1 h1 u hu);have h6:=e6 po (a.eval y).cells.toList (by rw [hvl];exact hle);rw [hvl,Nat.zero_add]at h6;refine⟨_,?_,a4e w g _,h6⟩;simp only [Nat.add_zero]at hst;simp [execOp,Instr.storeAt,Instr.sureAddr,hx,storeVar,hS w,hm,hst]
theorem e8q{x z x':VT}{o:Nat}{u uz:Value}(h:wrV x o (cellsV z)=some x')(hx:VR F x u)(hz:VR F z uz):∃u',VR F x' u'/\u'.cells.toList=u.cells.toList.take o++uz.cells.toList++u.cells.toList.drop (o+uz.cells.size)/\o+uz.cells.size<=u.cells.size:=by
 have hzl:uz.cells.size=(cellsV z).length:=by rw [<-b5t (a4j hz)];simp
 by_cases hag:∃l,x= .agg l
 ·obtain⟨l,rfl⟩:=hag;simp only [wrV]at h;split at h
  ·rename_i l' hs;cases h;obtain⟨s1,s2⟩:=a7o hs;obtain⟨us,rfl,h2,h3⟩:=hx;have hul:=b5t h2;have e:∀{l:List VT}{cs:List Value},VRL F l cs->∀k,VRL F (l.take k) (cs.take k)/\VRL F (l.drop k) (cs.drop k):=by
    intro l cs hl k;exact⟨by have:=ConcL.take (W:= []) (H:= []) k (concL_v.1 hl);rw [<-List.map_take]at this;exact concL_v.2 this,by have:=ConcL.drop (W:= []) (H:= []) k (concL_v.1 hl);rw [<-List.map_drop]at this;exact concL_v.2 this⟩
   have app:∀{l1 l2:List VT}{c1 c2:List Value},VRL F l1 c1->VRL F l2 c2->VRL F (l1++l2) (c1++c2):=by
    intro l1 l2 c1 c2 p1 p2;have:=ConcL.app (W:= []) (H:= []) (concL_v.1 p1) (concL_v.1 p2);rw [<-List.map_append]at this;exact concL_v.2 this
   have hsz:(Value.agg us.toArray).cells.size=us.length:=by simp [Value.cells]
   refine⟨.agg (us.take o++uz.cells.toList++us.drop (o+uz.cells.size)).toArray,⟨_,rfl,?_,b0o (b1b h3 _) (a9w hz) (b1e h3 _)⟩,rfl,by rw [hsz,hzl,hul];exact s1⟩;rw [s2,hzl];exact app (app (e h2 o).1 (a4j hz)) (e h2 _).2
  cases h
 have h0:wrV x o (cellsV z)=wr1 o (cellsV z):=by
  cases x<;>first|rfl|exact absurd ⟨_,rfl⟩ hag
 rw [h0]at h;unfold wr1 at h;split at h
 ·rename_i c hc;cases h;have h1:=c2n hx fun l e=>hag ⟨l,e⟩;have h2:=a4j hz;rw [hc]at h2;obtain⟨v,r,e1,e2,e3⟩:=h2;simp only [VRL]at e3;subst e3;have h3:v.oneCell'=true:=List.all_eq_true.1 (a9w hz) v (by rw [e1];simp);refine⟨v,e2,?_,?_⟩
  ·rw [a1r h3,a1r h1,e1,hzl,hc];simp
  rw [a1r h1,hzl,hc];simp
 cases h
theorem e8r{x z x':DV}{o:Nat}{u uz:Value}(h:wrD x o (cellsD z)=some x')(hx:Conc W H F x u)(hu:u.cells.toList.all Value.oneCell'=true)(hz:Conc W H F z uz)(hn:noTup z=true):∃u',Conc W H F x' u'/\u'.cells.toList=u.cells.toList.take o++uz.cells.toList++u.cells.toList.drop (o+uz.cells.size)/\o+uz.cells.size<=u.cells.size:=by
 obtain⟨z1,z2⟩:=a2d hz hn;have hzl:uz.cells.size=(cellsD z).length:=by rw [<-z1.len];simp
 have key:∀{l l':List DV}{us:List Value},u= .agg us.toArray->ConcL W H F l us->us.all Value.oneCell'=true->setL o (cellsD z) l=some l'->∃u',Conc W H F (.agg l') u'/\u'.cells.toList=u.cells.toList.take o++uz.cells.toList++u.cells.toList.drop (o+uz.cells.size)/\o+uz.cells.size<=u.cells.size:=by
  rintro l l' us rfl h2 h3 hs;obtain⟨s1,s2⟩:=a7o hs;have hul:=h2.len;have hsz:(Value.agg us.toArray).cells.size=us.length:=by simp [Value.cells]
  refine⟨.agg (us.take o++uz.cells.toList++us.drop (o+uz.cells.size)).toArray,⟨_,rfl,?_,b0o (b1b h3 _) z2 (b1e h3 _)⟩,rfl,by rw [hsz,hzl,hul];exact s1⟩;rw [s2,hzl];exact((h2.take o).app z1).app (h2.drop _)
 have scal:(∀l,x≠ .agg l)->(∀l,x≠ .v (.agg l))->wr1 o (cellsD z)=some x'->∃u',Conc W H F x' u'/\u'.cells.toList=u.cells.toList.take o++uz.cells.toList++u.cells.toList.drop (o+uz.cells.size)/\o+uz.cells.size<=u.cells.size:=by
  intro g1 g2 h;unfold wr1 at h;split at h
  ·rename_i c hc _;cases h;have hnx:noTup x=true:=by
    cases hn':noTup x with
    |true=>rfl
    |false=>
     cases x<;>simp [noTup]at hn';obtain⟨cs,rfl,_⟩:=hx;simp [Value.cells,Value.oneCell']at hu
   have h1:=c3a hx g1 g2 hnx;rw [hc]at z1;obtain⟨v,r,e1,e2,e3⟩:=z1;simp only [ConcL]at e3;subst e3;have h3:v.oneCell'=true:=List.all_eq_true.1 z2 v (by rw [e1];simp);refine⟨v,e2,?_,?_⟩
   ·rw [a1r h3,a1r h1,e1,hzl,hc];simp
   rw [a1r h1,hzl,hc];simp
  cases h
 by_cases g1:∃l,x= .agg l
 ·obtain⟨l,rfl⟩:=g1;simp only [wrD]at h;split at h
  ·rename_i l' hs;cases h;obtain⟨us,e1,e2,e3⟩:=hx;exact key e1 e2 e3 hs
  cases h
 by_cases g2:∃l,x= .v (.agg l)
 ·obtain⟨l,rfl⟩:=g2;simp only [wrD]at h;split at h
  ·rename_i l' hs;cases h;obtain⟨us,e1,e2,e3⟩:=hx;exact key e1 (concL_v.1 e2) e3 hs
  cases h
 refine scal (fun l e=>g1 ⟨l,e⟩) (fun l e=>g2 ⟨l,e⟩) ?_;rw [<-h];cases x with
 |agg l=>exact absurd ⟨l,rfl⟩ g1
 |v y=>
  cases y with
  |agg l=>exact absurd ⟨l,rfl⟩ g2
  |_=>rfl
 |_=>rfl
theorem f0n{us cs vc:List Value}{p o m q:Nat}(hpre:cs<+:us.drop p)(hlen:cs.length=q)(hv:vc.length=m)(hle:o+m<=q)(hp:p<=us.length):
 us.take (p+o)++vc++us.drop (p+o+m)=us.take p++(cs.take o++vc++cs.drop (o+m))++us.drop (p+q):=by
 obtain⟨t,ht⟩:=hpre;have hdrop:us.drop (p+q)=t:=by rw [<-List.drop_drop,<-ht,<-hlen];simp
 rw [List.take_add,<-ht,List.take_append_of_le_length (by omega),hdrop,Nat.add_assoc,<-List.drop_drop,<-ht,List.drop_append_of_le_length (by omega)];simp [List.append_assoc]
theorem b9s{q:Nat}{y:DV}{u':Value}(hy:Conc W H F y u')(h1:u'.cells.size=q)(h2:u'.cells.toList.all Value.oneCell'=true):∀{xs:List DV}{l:List Value}{i:Nat},i<xs.length->ConcX W H F q xs l->ConcX W H F q (xs.set i y) (l.take (i*q)++u'.cells.toList++l.drop (i*q+q))
 | [],_,_,h,_=>by simp at h
 |z::xs,l,0,_,⟨u,r,e1,⟨e2,e3⟩,e4,e5⟩=>by
  refine⟨u',r,?_,⟨h1,h2⟩,hy,e5⟩;have:u.cells.toList.length=q:=by simpa using e2
  rw [e1];simp only [Nat.zero_mul,List.take_zero,List.nil_append,Nat.zero_add];rw [List.drop_append,List.drop_of_length_le (by omega),this];simp
 |z::xs,l,i+1,h,⟨u,r,e1,⟨e2,e3⟩,e4,e5⟩=>by
  have hu:u.cells.toList.length=q:=by simpa using e2
  have hd:l.drop ((i+1)*q+q)=r.drop (i*q+q):=by
   have e:(i+1)*q+q=(i+1+1)*q:=by rw [Nat.add_mul (i+1),Nat.one_mul]
   have e':i*q+q=(i+1)*q:=by rw [Nat.add_mul,Nat.one_mul]
   rw [e,e',e1,e7l hu]
  rw [hd,e1,e7t hu];refine⟨u,r.take (i*q)++u'.cells.toList++r.drop (i*q+q),by simp,⟨e2,e3⟩,e4,?_⟩;exact b9s hy h1 h2 (by simpa using h) e5
theorem c1f{i:Nat}:∀{l:List Nat},memN i l=false->i∉l
 | [],_=>by simp
 |j::l,h=>by
  simp only [memN]at h;split at h
  ·cases h
  rename_i hb;intro hm;rcases List.mem_cons.1 hm with rfl|hm
  ·simp at hb
  exact c1f h hm
theorem b3r{i:Nat}:∀{is:List Nat}{H:DH},i∉is->(markZ is H)[i]?=H[i]?
 | [],H,_=>rfl
 |j::is,H,h=>by
  simp only [List.mem_cons,not_or]at h;unfold markZ;rw [a0j];split
  ·rw [b3r h.2,a1a,List.getElem?_set_ne (fun e=>h.1 e.symm)]
  exact b3r h.2
theorem d6l{xs:List DV}{ys:List VT}{H':DH}{is:List Nat}(hf:frzL H xs=some (ys,H',is)){i:Nat}(hi:i∉is):H'[i]?=H[i]?:=by
 unfold frzL at hf;split at hf
 ·cases hf;rfl
 split at hf
 ·cases hf;exact b3r hi
 cases hf
theorem a5j{i ver:Nat}{b:Blk}(h:b6s H i ver=some b):H[i]?=some b/\b.ver=ver/\b.fz=false:=by
 unfold b6s at h;split at h
 ·rename_i b' hb;obtain⟨h1,h2⟩:=a3j hb;split at h
  ·cases h
  rename_i hf;cases h;exact⟨h1,h2,hf⟩
 cases h
theorem b9w(hT:TyOk T)(hR:Rel T F0 w0 X W0 W H F w){t:TypeId}{x y:Operand}{i k o m:Nat}{b:Blk}{el:TypeId}{q g mm c:Nat}{us:List Value}{ob':Ob}(hS:T.size t=some m)(hb:H[i]?=some b)(hfz:b.fz=false)(hw:W[i]?=some (.row el q (some ⟨g,0,none⟩) mm c us))(hk:k<mm)(hx:a.eval x= .pointer (some ⟨g,k*q+o,none⟩))(hm:(a.eval y).cells.size=m)(h1:(a.eval y).cells.toList.all Value.oneCell'=true){cs:List Value}(hpre:cs<+:us.drop (k*q))(hlen:cs.length=q)(hle:o+m<=q)
 (hrel:∀W' H',Ext W H F W' H' F->RelO W' H' F ob' (.row el q (some ⟨g,0,none⟩) mm c (us.take (k*q)++(cs.take o++(a.eval y).cells.toList++cs.drop (o+m))++us.drop (k*q+q)))) {is wr:List Nat}:
 MemR T F0 w0 X W0 W H F a w ⟨none,.store t x y,type,pos,after,guard⟩ ⟨none,setN H i (a8b b ob'),is,wr⟩:=by
 have hrow:=hR.row hb hw;have hkq:k*q+q<=us.length:=by
  rw [hrow.2.2.1];have:=Nat.mul_le_mul_right q (show k+1<=mm from hk)
  rwa [Nat.add_mul,Nat.one_mul]at this
 obtain⟨w',s1,s2,s3⟩:=d9j (type:=type) (pos:=pos) (after:=after) (guard:=guard) hT hR hS hb hfz hw (by omega) hx hm h1 (by omega);have hvl:(a.eval y).cells.toList.length=m:=by simpa using hm
 rw [f0n hpre hlen hvl hle (by omega)]at s3;have hblk:(OE.row el q (some ⟨g,0,none⟩) mm c us).blk=some g:=rfl;obtain⟨r1,r2⟩:=hR.set (w':=w') (b':=a8b b ob') (e':= .row el q (some ⟨g,0,none⟩) mm c (us.take (k*q)++(cs.take o++(a.eval y).cells.toList++cs.drop (o+m))++us.drop (k*q+q))) hb hw hfz hfz (Nat.le_refl _)
  (fun _=>⟨⟨_,rfl⟩,Nat.le_succ _,fun h=>by simp [a8b]at h⟩) (fun h=>absurd rfl (h _ _ _ _ _ _)) (fun h=>⟨h,⟨_,rfl⟩⟩) s2 s3 (fun k hk=> .inl hk) (fun hx=>hrel _ _ hx)
 refine⟨W.set i (.row el q (some ⟨g,0,none⟩) mm c (us.take (k*q)++(cs.take o++(a.eval y).cells.toList++cs.drop (o+m))++us.drop (k*q+q))),F,_,_,s1,?_,?_,rfl⟩
 ·show Rel T F0 w0 X W0 _ (setN H i _) F _;rw [a1a];exact r1
 show Ext W H F _ (setN H i _) F;rw [a1a];exact r2
theorem MemR.before{F':Frz}{H':DH}{o:Oper}{r:Res}(hx:Ext W H F W H' F')(h:MemR T F0 w0 X W0 W H' F' a w o r):MemR T F0 w0 X W0 W H F a w o r:=by
 obtain⟨W',F2,w',nx,h1,h2,h3,h4⟩:=h;exact⟨W',F2,w',nx,h1,h2,hx.trans h3,h4⟩
theorem c8w(hT:TyOk T)(hR:Rel T F0 w0 X W0 W H F w){t:TypeId}{x y:Operand}{m:Nat}{dx dz:DV}(hS:T.size t=some m)(hx:Conc W H F dx (a.eval x))(hy:Conc W H F dz (a.eval y)):a5z T F0 w0 X W0 W H F a w ⟨none,.store t x y,type,pos,after,guard⟩ (c0a H m dx dz):=by
 unfold c0a;split
 ·rename_i i o;rw [a0j];split
  ·rename_i b hb;obtain⟨g,tb,us,h1,h2⟩:=hx;exact e5i hT hR hS hb h1 h2 hy
  trivial
 ·rename_i i ver st k o c;split
  ·rename_i b hb;obtain⟨hb,hv,hfz⟩:=a5j hb;obtain⟨g,p,h0,b',e',h1,h2,h3,h4⟩:=hx;rw [hb]at h1;cases h1;obtain⟨el,q,mm,c',us,rfl,hk,rfl,hst,hc⟩:=h4 hv.symm;have hrel:=(hR.blk i b _ hb h2).1;have hrow:=hR.row hb h2;unfold sRow;split
   ·rename_i el' q' xs hob hnl;obtain⟨hn,hl⟩:=beqT hnl;have hl:=Nat.eq_of_beq_eq_true hl;rw [a1d]at hl;have hl:(cellsD dz).length=m:=hl;obtain⟨c1,c2⟩:=a2d hy hn;have hm:(a.eval y).cells.size=m:=by rw [<-hl,<-c1.len];simp
    split
    ·rename_i z' H' is hf;split
     ·rename_i hmem;have hni:=c1f hmem;obtain⟨F',f1,f2,f3,f4⟩:=e9r hR hf hy;have hb':H'[i]?=some b:=by rw [d6l hf hni];exact hb
      rw [hob]at hrel;obtain⟨_,_,_,_,r1,r2⟩:=hrel;cases r1;have key:∀xx x',xs[k]?=some xx->wrV xx o (cellsV z')=some x'->MemR T F0 w0 X W0 W H F a w ⟨none,.store t x y,type,pos,after,guard⟩ ⟨none,setN H' i (a8b b (.row el q (xs.set k x'))),is,i::is⟩:=by
       intro xx x' hxx hwr;obtain⟨u,g1,g2,g3,g4⟩:=a9s r2 hxx;obtain⟨u',k1,k2,k3⟩:=e8q hwr (VR.mono f1 g1) f4;have hul:u.cells.toList.length=q:=by simpa using g2
       refine MemR.before f3 (b9w (ob':= .row el q (xs.set k x')) hT f2 hS hb' hfz h2 hk h0 hm c2 g4 hul (by omega) fun W' H2 hx=> ?_);have r2':=r2.mono (f1.trans hx.le);refine⟨_,_,_,_,rfl,by rw [List.length_set];exact r2'.1,?_⟩;have:=RowR.set (r:=rpV q) (F:=F') (y:=x') (cs':=u'.cells.toList) ⟨u',rfl,⟨?_,?_⟩,k1⟩ (xs:=xs) (i:=k) (by have:=(List.getElem?_eq_some_iff.1 hxx).1;exact this) (r2.mono f1).2
       ·rw [k2,hm]at this;exact this.mono hx.le
       ·have:u'.cells.toList.length=q:=by rw [k2];simp;omega
        simpa using this
       exact a9w k1
      unfold e5x;split
      ·rename_i xx hstb;split
       ·rename_i x' hwr;have hxx:=hc (Nat.eq_of_beq_eq_true hstb) _ rfl;rw [hob]at hxx;simp only [elemO,Option.map_eq_some_iff,DV.v.injEq]at hxx;obtain⟨_,hxx,rfl⟩:=hxx;exact key _ _ hxx hwr
       trivial
      intro x' hx';obtain⟨xx,hxx,hwr⟩:=Option.bind_eq_some_iff.1 hx';exact key _ _ hxx hwr
     trivial
    trivial
   ·rename_i el' q' xs hob hnl;obtain⟨hn,hl⟩:=beqT hnl;have hl:=Nat.eq_of_beq_eq_true hl;rw [a1d]at hl;have hl:(cellsD dz).length=m:=hl;obtain⟨c1,c2⟩:=a2d hy hn;have hm:(a.eval y).cells.size=m:=by rw [<-hl,<-c1.len];simp
    rw [hob]at hrel;obtain⟨_,_,_,_,r1,r2,r3⟩:=hrel;cases r1;intro x' hx';obtain⟨xx,hxx,hwr⟩:=Option.bind_eq_some_iff.1 hx';obtain⟨u,g1,g2,g3,g4⟩:=b0t r3 hxx;obtain⟨u',k1,k2,k3⟩:=e8r hwr g1 g3 hy hn;have hul:u.cells.toList.length=q:=by simpa using g2
    refine b9w (ob':= .nest el q (xs.set k x')) hT hR hS hb hfz h2 hk h0 hm c2 g4 hul (by omega) fun W' H2 hx=>⟨_,_,_,_,rfl,by rw [List.length_set];exact r2,?_⟩
    have hu':u'.cells.size=q:=by
     have:u'.cells.toList.length=q:=by rw [k2];simp;omega
     simpa using this
    have ho':u'.cells.toList.all Value.oneCell'=true:=by
     rw [k2];exact b0o (b1b g3 _) c2 (b1e g3 _)
    have:=b9s (k1.ext hx) hu' ho' (by have:=(List.getElem?_eq_some_iff.1 hxx).1;exact this) (r3.ext hx);rw [k2,hm]at this;exact this
   trivial
  trivial
 trivial
end
set_option linter.unusedVariables false
set_option linter.unusedSimpArgs false
section
variable{P:Program}{T:Ty P}{n:Nat}{F0:Frz}{w0:World}{X:List Nat}{W0 W:List OE}{H:DH}{F F1:Frz}{e:DE}{a:Act}{w:World}
variable{dst:Option Tmp}{type:TypeId}{pos:String}{after:Array Edge}{guard:Option (Nat×Bool)}
theorem appW{t el tr:TypeId}{q bytes:Nat}(hA:AppIs P t el q bytes){ad:Option Addr}{m c:Nat}{xs:List Value}(hown:(OE.row el q ad m c xs).ok w)
 {ad2:Option Addr} {m2 c2:Nat} {news:List Value} (hl:news.length=m2*q) (hnews:m2=0∨∃a2,ad2=some a2/\∀j u,news[j]?=some u->w.cell? (a2.add j)=some u) (h1:∀u∈news,u.oneCell'=true) (hb:(m+m2)*bytes<=140737488355328):
 ∃ad' c' w',(Builtin.append_ #[t,t] tr #[.slice ad m c,.slice ad2 m2 c2]).run P w= .ok (.slice ad' (m+m2) c') w'/\w.grownBy w' (OE.row el q ad m c xs).blk/\(OE.row el q ad' (m+m2) c' (xs++news)).ok w'/\∀b,(OE.row el q ad' (m+m2) c' (xs++news)).blk=some b->(OE.row el q ad m c xs).blk=some b∨w.heap.size<=b:=by
 obtain⟨inf,z,hinf,hz,hq,hby,hzc⟩:=hA.info;have hsm:m+m2<=maxLen:=by
  have h3:m+m2<=(m+m2)*bytes:=Nat.le_mul_of_pos_right _ hA.pos2;simp only [maxLen];omega
 have hown':w.ownsRow 0 el q (.slice ad m c) m xs:=hown
 by_cases hm2:m2=0
 ·subst hm2;have hn:news= []:=List.eq_nil_of_length_eq_zero (by simpa using hl);subst hn;have hmc:m<=c:=by
   rcases hown'.2 with⟨e1,e2⟩|⟨gb,cap,cur,e1,_,_,e3,_⟩
   ·simp only [Value.slice.injEq]at e1;omega
   simp only [Value.slice.injEq]at e1;omega
  have hfirst:(Builtin.firstCells inf.size 0 (.slice ad2 0 c2)).run P w= .ok #[] w:=by
   cases ad2 with
   |none=>simp [Builtin.firstCells]
   |some ad=>simp [Builtin.firstCells,loadCells,loadCellsFrom]
  have hst:∀ad:Addr,(storeCells ad []).run P w= .ok () w:=fun ad=>by simp [storeCells]
  refine⟨ad,c,w,?_,⟨rfl,rfl,rfl,Nat.le_refl _,fun _ _ _=>rfl⟩,by simpa using hown,fun b hb=> .inl (by simpa using hb)⟩;cases ad with
  |none=>simp [Builtin.append_,run_underlying hA.under,sizeOf,typeInfo,hinf,Builtin.lenOf,hmc,hfirst]
  |some ad=>simp [Builtin.append_,run_underlying hA.under,sizeOf,typeInfo,hinf,Builtin.lenOf,hmc,hfirst,hst]
 obtain⟨a2,hnews0,hnews2⟩:=hnews.resolve_left hm2;clear hnews;subst hnews0;have fin:∀(base:Nat)(v':Value)(w':World),w'.ownsRow base el q v' (m+m2) (xs++news)->w.grownBy w' (Value.slice ad m c).ownBlock->(∀k,v'.ownBlock=some k->(Value.slice ad m c).ownBlock=some k∨w.heap.size<=k)->
  (Builtin.append_ #[t,t] tr #[.slice ad m c,.slice (some a2) m2 c2]).run P w= .ok v' w'->
  ∃ad' c' w',(Builtin.append_ #[t,t] tr #[.slice ad m c,.slice (some a2) m2 c2]).run P w= .ok (.slice ad' (m+m2) c') w'/\w.grownBy w' (OE.row el q ad m c xs).blk/\(OE.row el q ad' (m+m2) c' (xs++news)).ok w'/\∀b,(OE.row el q ad' (m+m2) c' (xs++news)).blk=some b->(OE.row el q ad m c xs).blk=some b∨w.heap.size<=b:=by
  intro base v' w' hown2 hgr hk hr;have hv':∃a' c',v'= .slice a' (m+m2) c':=by
   rcases hown2.2 with⟨rfl,h0⟩|⟨g,cap,cur,rfl,_⟩
   ·exact⟨none,0,by rw [h0]⟩
   exact⟨_,_,rfl⟩
  obtain⟨a',c',rfl⟩:=hv';refine⟨a',c',w',hr,hgr,⟨hown2.1,?_⟩,hk⟩;rcases hown2.2 with h0|⟨g,cap,cur,h1,_,h2⟩
  ·exact .inl h0
  exact .inr ⟨g,cap,cur,h1,Nat.zero_le _,h2⟩
 rcases hown'.2 with⟨he,h0⟩|⟨gb,cap,cur,he,_,hgb,hnc,hcm,hcs,htake⟩
 ·simp only [Value.slice.injEq]at he;obtain⟨rfl,rfl,rfl⟩:=he;have hx:xs= []:=List.eq_nil_of_length_eq_zero (by simpa using hown'.1);subst hx;obtain⟨v',w',hr,hown2,hgr,_⟩:=run_append_own (P:=P) w w.heap.size t tr el inf z q bytes hA.under hinf hz hq hby hzc hA.pos (.slice none 0 0) 0 [] (World.ownsRow_nil _ _ _ _) a2 m2 c2 news hl hnews2 h1 hsm hb (Nat.le_refl _);exact fin _ v' w' hown2 hgr (fun k hk=> .inr (hown2.lt k hk).1) hr
 simp only [Value.slice.injEq]at he;obtain⟨rfl,_,e3⟩:=he;obtain rfl:cap=c:=e3.symm;obtain⟨v',w',hr,hown2,hgr,_⟩:=run_append_own (P:=P) w 0 t tr el inf z q bytes hA.under hinf hz hq hby hzc hA.pos (.slice (some ⟨gb,0,none⟩) m cap) m xs hown' a2 m2 c2 news hl hnews2 h1 hsm hb (Nat.zero_le _);refine fin _ v' w' hown2 hgr (fun k hk=> ?_) hr
 by_cases hroom:m+m2<=cap
 ·have hfit:m*inf.size+news.length<=cur.size:=by rw [hl,hcs,hq,<-Nat.add_mul];exact Nat.mul_le_mul_right _ hroom
  have hr2:=run_append_room (P:=P) w t tr el inf hA.under hinf gb m cap cur hgb a2 m2 c2 news (by rw [hq];exact hl) hnews2 h1 hroom hfit;rw [hr]at hr2;cases hr2;exact .inl hk
 have holds:∀j u,xs[j]?=some u->w.cell? ((⟨gb,0,none⟩:Addr).add j)=some u:=hown'.cells (g:=gb) rfl;have hr2:=run_append_grow (P:=P) w t tr el inf z hA.under hinf hz ⟨gb,0,none⟩ m cap xs (by rw [hq];exact hown'.1) holds a2 m2 c2 news (by rw [hq];exact hl) hnews2 (by omega) (by simp only [maxLen]at hsm;omega) (growslice_fits (by omega) (by rw [hby];exact hb));rw [hr]at hr2;cases hr2;simp only [Value.ownBlock,Option.some.injEq]at hk;exact .inr (by omega)
structure SrcOk(W:List OE)(H:DH)(F:Frz)(w:World)(q:Nat)(u:Value)(s:Src):Prop where
 src:∃ad2 m2 c2 news,u= .slice ad2 m2 c2/\news.length=m2*q/\(m2=0∨∃a2,ad2=some a2/\∀j v,news[j]?=some v->w.cell? (a2.add j)=some v)/\(∀v∈news,v.oneCell'=true)/\
  ((s.zs= []/\s.ys.length=m2/\RowR (rpV q) F news s.ys)∨(s.ys= []/\s.chk=false/\s.zs.length=m2/\ConcX W H F q s.zs news))
theorem b9m{q:Nat}:∀{xs:List DV}{us:List Value},ConcX W H F q xs us->∀u∈us,u.oneCell'=true
 | [],us,h=>by simp only [ConcX]at h;subst h;simp
 |x::xs,us,⟨u,r,h1,⟨h2,h3⟩,h4,h5⟩=>by
  subst h1;intro v hv;rcases List.mem_append.1 hv with hv|hv
  ·exact List.all_eq_true.1 h3 v hv
  exact b9m h5 v hv
theorem b9c(hR:Rel T F0 w0 X W0 W H F w){el q i ver:Nat}{b:Blk}{u:Value}{s:Src}(hx:Conc W H F (.row i ver) u)(hb:H[i]?=some b)(hv:b.ver=ver)(h:b9f el q i b.ob=some s):SrcOk W H F w q u s:=by
 obtain⟨ad,m,c,rfl,b',e',h1,h2,h3,h4⟩:=hx;rw [hb]at h1;cases h1;obtain⟨el',q',us,rfl⟩:=h4 hv.symm;have hrel:=(hR.blk i b _ hb h2).1;have hrow:=hR.row hb h2;have hcell:=hR.cell hb h2;have hread:m=0∨∃a2,ad=some a2/\∀j v,us[j]?=some v->w.cell? (a2.add j)=some v:=by
  rcases hrow.2.2.2 with h0|⟨g,rfl⟩
  ·exact .inl h0
  exact .inr ⟨_,rfl,fun j v hj=>by rw [addr_add,Nat.zero_add];exact hcell g rfl j v hj⟩
 unfold b9f at h;split at h
 ·rename_i hob;rw [hob]at hrel;obtain⟨_,_,_,_,e1,e2,e3⟩:=hrel;cases e1;split at h
  ·rename_i he hq;cases h;obtain rfl:=Nat.eq_of_beq_eq_true hq;exact⟨ad,m,c,us,rfl,hrow.2.2.1,hread,b9m e3,.inr ⟨rfl,rfl,e2,e3⟩⟩
  cases h
 ·rename_i hob;rw [hob]at hrel;obtain⟨_,_,_,_,e1,e2⟩:=hrel;cases e1;split at h
  ·rename_i he hq;cases h;obtain rfl:=Nat.eq_of_beq_eq_true hq;exact⟨ad,m,c,us,rfl,hrow.2.2.1,hread,RowR.one e2.2,.inl ⟨rfl,e2.1,e2.2⟩⟩
  cases h
 cases h
theorem a2j(hR:Rel T F0 w0 X W0 W H F w){el q:Nat}{d:DV}{u:Value}{s:Src}(hx:Conc W H F d u)(h:b0f H el q d=some s)(hsz:s.chk=true->szOk q s.ys=true):SrcOk W H F w q u s:=by
 unfold b0f at h;split at h
 ·split at h
  ·rename_i hb0;obtain⟨hb,hv⟩:=a3j hb0;exact b9c hR hx hb hv h
  cases h
 ·rename_i i ver lo len;split at h
  ·rename_i b hb0;obtain⟨hb,hv⟩:=a3j hb0;clear hb0;obtain⟨a',c',rfl,b',e',h1,h2,h3,h4⟩:=hx;rw [hb]at h1;cases h1;obtain⟨el',q',ad,m,c,us,rfl,hs⟩:=h4 hv.symm;have hrel:=(hR.blk i b _ hb h2).1;have hrow:=hR.row hb h2;have hcell:=hR.cell hb h2;unfold d2a at h;split at h
   ·rename_i hob;rw [hob]at hrel;obtain⟨_,_,_,_,e1,e2⟩:=hrel;cases e1;split at h
    ·rename_i he hq;cases h;obtain rfl:=Nat.eq_of_beq_eq_true hq;obtain⟨s1,s2,s3,s4,s5⟩:=hs;have hr:=(RowR.take len (RowR.drop lo e2.2))
     have hk:(rpV q).k=q:=rfl;rw [hk]at hr;have hl:=RowR.len hr;rw [hk]at hl;have hlen:((List.drop lo (by assumption:List VT)).take len).length=len:=by
      simp only [List.length_take,List.length_drop];have:=e2.1;omega
     refine⟨a',len,c',_,rfl,by rw [hl,hlen],?_,RowR.one hr,.inl ⟨rfl,hlen,hr⟩⟩;rcases hrow.2.2.2 with h0|⟨g,rfl⟩
     ·exact .inl (by omega)
     by_cases hl0:len=0
     ·exact .inl hl0
     have hc:c≠lo:=by omega
     refine .inr ⟨⟨g,lo*q,none⟩,by rw [s5];simp [hc,addr_add],fun j v hj=> ?_⟩;rw [addr_add];refine hcell g rfl _ v ?_;rw [List.getElem?_take]at hj;split at hj
     ·rwa [List.getElem?_drop]at hj
     cases hj
    cases h
   cases h
  cases h
 ·cases h;obtain⟨ad,m,c,q',rfl,hs⟩:=b0b.1 hx;have hs:=e9x hs (hsz rfl);obtain⟨g1,g2,g3,g4⟩:=hs;rcases g4 with rfl|⟨b,o,l,rfl,k1,k2⟩
  ·simp only [List.length_nil]at g1;subst g1;exact⟨ad,0,c,[],rfl,by simp,.inl rfl,by simp,.inl ⟨rfl,rfl,rfl⟩⟩
  have hll:=RowR.len k2;exact⟨some ⟨b,o,none⟩,m,c,l,rfl,by rw [hll,g1];rfl,.inr ⟨_,rfl,fun j v hj=>by rw [addr_add];exact k1.cell hR.hd.sat hj⟩,RowR.one k2,.inl ⟨rfl,g1,k2⟩⟩
 ·cases h;obtain rfl:=hx;exact⟨none,0,0,[],rfl,by simp,.inl rfl,by simp,.inl ⟨rfl,rfl,rfl⟩⟩
 cases h
end
set_option linter.unusedVariables false
set_option linter.unusedSimpArgs false
section
variable{P:Program}{T:Ty P}{n:Nat}{F0:Frz}{w0:World}{X:List Nat}{W0 W:List OE}{H:DH}{F F1:Frz}{e:DE}{a:Act}{w:World}
variable{dst:Option Tmp}{type:TypeId}{pos:String}{after:Array Edge}{guard:Option (Nat×Bool)}
theorem b9k{t el:TypeId}{q bytes:Nat}(hA:AppIs P t el q bytes)(hR:Rel T F0 w0 X W0 W H F w){x y:Operand}{i:Nat}{b:Blk}{ad0:Option Addr}{m0 c0:Nat}{us0:List Value}(hb:H[i]?=some b)(hfz:b.fz=false)(hw:W[i]?=some (.row el q ad0 m0 c0 us0))
 {m:Nat} {us:List Value} (hx:a.eval x= .slice ad0 m c0) (hok:(OE.row el q ad0 m c0 us).ok w) (hblk:(OE.row el q ad0 m c0 us).blk=(OE.row el q ad0 m0 c0 us0).blk)
 {ad2:Option Addr} {m2 c2:Nat} {news:List Value} (hy:a.eval y= .slice ad2 m2 c2) (hl:news.length=m2*q) (hnews:m2=0∨∃a2,ad2=some a2/\∀j u,news[j]?=some u->w.cell? (a2.add j)=some u) (h1:∀u∈news,u.oneCell'=true) (hbd:(m+m2)*bytes<=140737488355328)
 {ob':Ob} (hrel:∀ad' c' W' H',Ext W H F W' H' F->RelO W' H' F ob' (.row el q ad' (m+m2) c' (us++news))) {rd wr:List Nat}:
 MemR T F0 w0 X W0 W H F a w ⟨dst,.call ⟨.builtin .append, #[x,y], #[t,t]⟩,type,pos,after,guard⟩ ⟨some (.row i (b.ver+1)),setN H i (grown b ob'),rd,wr⟩:=by
 obtain⟨ad',c',w',r1,r2,r3,r4⟩:=appW (tr:=type) hA hok hl hnews h1 hbd (c2:=c2);rw [hblk]at r2 r4;obtain⟨s1,s2⟩:=hR.set (w':=w') (b':=grown b ob') (e':= .row el q ad' (m+m2) c' (us++news)) hb hw hfz hfz (Nat.le_succ _)
  (fun h=>by simp [grown]at h) (fun h=>absurd rfl (h _ _ _ _ _ _)) (fun h=>by simp [grown]at h) r2 r3 r4 (fun hx=>hrel _ _ _ _ hx)
 have hi:=(List.getElem?_eq_some_iff.1 hb).1;have hi2:=(List.getElem?_eq_some_iff.1 hw).1;refine⟨W.set i (.row el q ad' (m+m2) c' (us++news)),F,w',.value (.slice ad' (m+m2) c'),?_,?_,?_,_,rfl,?_⟩
 ·simp [execOp,resolve,invoke,builtin,hx,hy,r1]
 ·show Rel T F0 w0 X W0 _ (setN H i _) F _;rw [a1a];exact s1
 ·show Ext W H F _ (setN H i _) F;rw [a1a];exact s2
 show Conc _ (setN H i _) F _ _;rw [a1a];exact⟨ad',m+m2,c',rfl,grown b ob',_,List.getElem?_set_self hi,List.getElem?_set_self hi2,Nat.le_refl _,fun _=>⟨el,q,_,rfl⟩⟩
theorem a4v{α:Type}{by':Nat}{xs ys zs:List α}(h:Rt.app by' xs ys=some zs):(xs.length+ys.length)*by'<=140737488355328/\zs=xs++ys:=by
 unfold Rt.app at h;split at h
 ·rename_i h0;cases h;exact⟨h0,rfl⟩
 cases h
theorem a8f{chk:Bool}{q by':Nat}{xs ys zs:List VT}(h:appQ chk q by' xs ys=some zs):(chk=true->szOk q ys=true)/\(xs.length+ys.length)*by'<=140737488355328/\zs=xs++ys:=by
 unfold appQ at h;split at h
 ·obtain⟨h1,h2⟩:=a4v h;exact⟨(fun hc=>by cases hc),h1,h2⟩
 split at h
 ·rename_i hs;obtain⟨h1,h2⟩:=a4v h;exact⟨fun _=>hs,h1,h2⟩
 cases h
theorem a8y{q:Nat}:∀{xs ys:List DV}{us vs:List Value},ConcX W H F q xs us->ConcX W H F q ys vs->ConcX W H F q (xs++ys) (us++vs)
 | [],ys,us,vs,h,h2=>by simp only [ConcX]at h;subst h;exact h2
 |x::xs,ys,us,vs,⟨u,r,e1,e2,e3,e4⟩,h2=>⟨u,r++vs,by rw [e1,List.append_assoc],e2,e3,a8y e4 h2⟩
theorem c1o{q:Nat}:∀{xs:List VT}{us:List Value},RowR (rpV q) F us xs->ConcX W H F q (xs.map .v) us
 | [],us,h=>h
 |x::xs,us,⟨cs,r,e1,h,e4⟩=>by
  obtain⟨u,rfl,e2,e3⟩:=h;exact⟨u,r,e1,e2,e3,c1o e4⟩
theorem e8i{el q:Nat}{ad:Option Addr}{m c k:Nat}{us:List Value}(h:(OE.row el q ad m c us).ok w)(hk:k<=m):(OE.row el q ad k c (us.take (k*q))).ok w:=by
 have h':w.ownsRow 0 el q (.slice ad m c) m us:=h;show w.ownsRow 0 el q (.slice ad k c) k (us.take (k*q));have hle:k*q<=m*q:=Nat.mul_le_mul_right _ hk;refine⟨by rw [List.length_take,h'.1];omega,?_⟩;rcases h'.2 with⟨e1,e2⟩|⟨g,cap,cur,e1,e2,e3,e4,e5,e6,e7⟩
 ·simp only [Value.slice.injEq]at e1;obtain⟨rfl,rfl,rfl⟩:=e1;obtain rfl:k=0:=by omega
  exact .inl ⟨rfl,rfl⟩
 simp only [Value.slice.injEq]at e1;obtain⟨rfl,_,rfl⟩:=e1;refine .inr ⟨g,c,cur,rfl,e2,e3,by omega,e5,e6,?_⟩;rw [<-e7,List.take_take,Nat.min_eq_left hle]
theorem b4z{el q:Nat}{y:DV}{s:Src}(hsrc:b0f H el q y=some s)(hne:s.zs= []->False):s.chk=false:=by
 unfold b0f at hsrc;split at hsrc
 ·split at hsrc
  ·unfold b9f at hsrc;split at hsrc
   ·split at hsrc
    ·cases hsrc;rfl
    cases hsrc
   ·split at hsrc
    ·cases hsrc;rfl
    cases hsrc
   cases hsrc
  cases hsrc
 ·split at hsrc
  ·unfold d2a at hsrc;split at hsrc
   ·split at hsrc
    ·cases hsrc;rfl
    cases hsrc
   cases hsrc
  cases hsrc
 ·cases hsrc;exact absurd rfl hne
 ·cases hsrc;rfl
 cases hsrc
theorem c6y(hT:TyOk T)(hR:Rel T F0 w0 X W0 W H F w){nst:Bool}{t:TypeId}{x y:Operand}{dx dy:DV}(hx:Conc W H F dx (a.eval x))(hy:Conc W H F dy (a.eval y)):a5z T F0 w0 X W0 W H F a w ⟨dst,.call ⟨.builtin .append, #[x,y], #[t,t]⟩,type,pos,after,guard⟩ (a9n nst H dx dy (T.app t)):=by
 unfold a9n;split
 ·rename_i el q by' hap
  obtain⟨hu,hS,hA⟩:=hT.app hap;split
  ·rename_i s hpos hsrc;obtain⟨hq0,hb0⟩:=beqT hpos;have hA:=hA (by simpa using hq0) (by simpa using hb0);unfold apTo;split
   · -- a nil slice
     have hx:a.eval x= .slice none 0 0:=hx;have nw:∀{ob:Ob}(m2:Nat)(us:List Value)(ad2:Option Addr)(c2:Nat)(rd:List Nat),a.eval y= .slice ad2 m2 c2->us.length=m2*q->(m2=0∨∃a2,ad2=some a2/\∀j u,us[j]?=some u->w.cell? (a2.add j)=some u)->(∀u∈us,u.oneCell'=true)->m2*by'<=140737488355328->(∀ad' c' W' H',Ext W H F W' H' F->RelO W' H' F ob (.row el q ad' m2 c' us))->
      MemR T F0 w0 X W0 W H F a w ⟨dst,.call ⟨.builtin .append, #[x,y], #[t,t]⟩,type,pos,after,guard⟩ (newR H ob rd []):=by
      intro ob m2 us ad2 c2 rd hy2 hl hn h1 hbd hrel;obtain⟨ad',c',w',r1,r2,r3,r4⟩:=appW (tr:=type) (ad:=none) (m:=0) (c:=0) (xs:= []) hA (World.ownsRow_nil _ _ _ _) hl hn h1 (by simpa using hbd) (c2:=c2);simp only [Nat.zero_add,List.nil_append]at r1 r3 r4;have hnone:(OE.row el q none 0 0 []).blk=none:=rfl;rw [hnone]at r2 r4;exact a8v (u:= .slice ad' m2 c') hR (by simp [execOp,resolve,invoke,builtin,hx,hy2,r1]) ⟨_,_,_,us,rfl,rfl⟩ r2 r3 (fun b hb=>(r4 b hb).resolve_left (by simp)) fun hx=>hrel _ _ _ _ hx
     unfold e5c;split
     ·rename_i hzs;intro zs hz;obtain⟨h1,h2,rfl⟩:=a8f hz;obtain⟨ad2,m2,c2,news,k1,k2,k3,k4,k5⟩:=(a2j hR hy hsrc h1).src;rcases k5 with⟨_,l1,l2⟩|⟨l0,_,l1,l2⟩
      ·exact nw m2 news ad2 c2 _ k1 k2 k3 k4 (by rw [<-l1];simpa using h2) fun ad' c' W' H' hx=>⟨_,_,_,_,rfl,by simpa using l1,by simpa using l2.mono hx.le⟩
      rw [hzs]at l1 l2;simp only [List.length_nil]at l1;subst l1;simp only [ConcX]at l2;subst l2;rw [l0];exact nw 0 [] ad2 c2 _ k1 k2 k3 k4 (by simp) fun ad' c' W' H' hx=>⟨_,_,_,_,rfl,rfl,rfl⟩
     rename_i hne;split
     ·intro zs hz;obtain⟨h2,rfl⟩:=a4v hz;obtain⟨ad2,m2,c2,news,k1,k2,k3,k4,k5⟩:=(a2j hR hy hsrc fun hc=>by rw [b4z hsrc hne]at hc;cases hc).src;rcases k5 with⟨l0,_,_⟩|⟨l0,_,l1,l2⟩
      ·exact absurd l0 hne
      exact nw m2 news ad2 c2 _ k1 k2 k3 k4 (by rw [<-l1];simpa using h2) fun ad' c' W' H' hx=>⟨_,_,_,_,rfl,by simpa using l1,by simpa using l2.ext hx⟩
     trivial
   · -- a row of the call's own
     rename_i i ver;split
     ·rename_i b hb0;obtain⟨hb,hv,hfz⟩:=a5j hb0;obtain⟨ad,m,c,hax,b',e',h1,h2,h3,h4⟩:=hx;rw [hb]at h1;cases h1;obtain⟨el',q',us,rfl⟩:=h4 hv.symm;have hrel:=(hR.blk i b _ hb h2).1;have hown:=ownW_get hb h2;rw [hfz]at hown;have hok:=hR.hd.get hown;unfold e1q;split
      ·rename_i el2 q2 xs hob;rw [hob]at hrel;obtain⟨_,_,_,_,e1,e2⟩:=hrel;cases e1;split
       ·rename_i heq hzs;obtain⟨he,hq⟩:=beqT heq;obtain rfl:=Nat.eq_of_beq_eq_true he;obtain rfl:=Nat.eq_of_beq_eq_true hq;intro zs hz;obtain⟨g1,g2,rfl⟩:=a8f hz;obtain⟨ad2,m2,c2,news,k1,k2,k3,k4,k5⟩:=(a2j hR hy hsrc g1).src;have hys:s.ys.length=m2/\RowR (rpV q) F news s.ys:=by
         rcases k5 with⟨_,l1,l2⟩|⟨l0,_,l1,l2⟩
         ·exact⟨l1,l2⟩
         rw [hzs]at l1 l2;simp only [List.length_nil]at l1;simp only [ConcX]at l2;subst l2;rw [l0];exact⟨l1,rfl⟩
        have hbd:(m+m2)*by'<=140737488355328:=by rw [<-e2.1,<-hys.1];exact g2
        exact b9k (ob':= .row el q _) hA hR hb hfz h2 hax hok rfl k1 k2 k3 k4 hbd fun ad' c' W' H' hx=>⟨_,_,_,_,rfl,by rw [List.length_append,e2.1,hys.1],(RowR.append hys.2 e2.2).mono hx.le⟩
       ·rename_i ys heq hne;obtain⟨he,hq⟩:=beqT heq;obtain rfl:=Nat.eq_of_beq_eq_true he;obtain rfl:=Nat.eq_of_beq_eq_true hq;split
        ·intro zs hz;obtain⟨g2,rfl⟩:=a4v hz;obtain⟨ad2,m2,c2,news,k1,k2,k3,k4,k5⟩:=(a2j hR hy hsrc fun hc=>by rw [b4z hsrc hne]at hc;cases hc).src;rcases k5 with⟨l0,_,_⟩|⟨l0,_,l1,l2⟩
         ·exact absurd l0 hne
         have hbd:(m+m2)*by'<=140737488355328:=by rw [<-e2.1,<-l1];simpa using g2
         exact b9k (ob':= .nest el q _) hA hR hb hfz h2 hax hok rfl k1 k2 k3 k4 hbd fun ad' c' W' H' hx=>⟨_,_,_,_,rfl,by rw [List.length_append,List.length_map,e2.1,l1],(a8y (c1o e2.2) l2).ext hx⟩
        trivial
       trivial
      ·rename_i el2 q2 xs hob;rw [hob]at hrel;obtain⟨_,_,_,_,e1,e2,e3⟩:=hrel;cases e1;split
       ·rename_i heq hzs;obtain⟨heq,hchk⟩:=beqT heq;obtain⟨he,hq⟩:=beqT heq;obtain rfl:=Nat.eq_of_beq_eq_true he;obtain rfl:=Nat.eq_of_beq_eq_true hq;intro zs hz;obtain⟨g2,rfl⟩:=a4v hz;obtain⟨ad2,m2,c2,news,k1,k2,k3,k4,k5⟩:=(a2j hR hy hsrc fun hc=>by rw [hc]at hchk;cases hchk).src;have hys:s.ys.length=m2/\RowR (rpV q) F news s.ys:=by
         rcases k5 with⟨_,l1,l2⟩|⟨l0,_,l1,l2⟩
         ·exact⟨l1,l2⟩
         rw [hzs]at l1 l2;simp only [List.length_nil]at l1;simp only [ConcX]at l2;subst l2;rw [l0];exact⟨l1,rfl⟩
        have hbd:(m+m2)*by'<=140737488355328:=by rw [<-e2,<-hys.1];simpa using g2
        exact b9k (ob':= .nest el q _) hA hR hb hfz h2 hax hok rfl k1 k2 k3 k4 hbd fun ad' c' W' H' hx=>⟨_,_,_,_,rfl,by rw [List.length_append,List.length_map,e2,hys.1],(a8y e3 (c1o hys.2)).ext hx⟩
       ·rename_i ys heq hne;obtain⟨heq,hchk⟩:=beqT heq;obtain⟨he,hq⟩:=beqT heq;obtain rfl:=Nat.eq_of_beq_eq_true he;obtain rfl:=Nat.eq_of_beq_eq_true hq;intro zs hz;obtain⟨g2,rfl⟩:=a4v hz;obtain⟨ad2,m2,c2,news,k1,k2,k3,k4,k5⟩:=(a2j hR hy hsrc fun hc=>by rw [hc]at hchk;cases hchk).src;rcases k5 with⟨l0,_,_⟩|⟨l0,_,l1,l2⟩
        ·exact absurd l0 hne
        have hbd:(m+m2)*by'<=140737488355328:=by rw [<-e2,<-l1];simpa using g2
        exact b9k (ob':= .nest el q _) hA hR hb hfz h2 hax hok rfl k1 k2 k3 k4 hbd fun ad' c' W' H' hx=>⟨_,_,_,_,rfl,by rw [List.length_append,e2,l1],(a8y e3 l2).ext hx⟩
       trivial
      trivial
     trivial
   · -- a part of one, from its beginning
     rename_i i ver k;split
     ·rename_i b hb0;obtain⟨hb,hv,hfz⟩:=a5j hb0;obtain⟨a',c',hax,b',e',h1,h2,h3,h4⟩:=hx;rw [hb]at h1;cases h1;obtain⟨el',q',ad,m,c,us,rfl,hs⟩:=h4 hv.symm;have hrel:=(hR.blk i b _ hb h2).1;have hown:=ownW_get hb h2;rw [hfz]at hown;have hok:=hR.hd.get hown;have hrow:=hR.row hb h2;unfold e1s;split
      ·rename_i el2 q2 xs hob;rw [hob]at hrel;obtain⟨_,_,_,_,e1,e2⟩:=hrel;cases e1;split
       ·rename_i heq hzs;obtain⟨he,hq⟩:=beqT heq;obtain rfl:=Nat.eq_of_beq_eq_true he;obtain rfl:=Nat.eq_of_beq_eq_true hq;intro zs hz;obtain⟨g1,g2,rfl⟩:=a8f hz;obtain⟨ad2,m2,c2,news,k1,k2,k3,k4,k5⟩:=(a2j hR hy hsrc g1).src;have hys:s.ys.length=m2/\RowR (rpV q) F news s.ys:=by
         rcases k5 with⟨_,l1,l2⟩|⟨l0,_,l1,l2⟩
         ·exact⟨l1,l2⟩
         rw [hzs]at l1 l2;simp only [List.length_nil]at l1;simp only [ConcX]at l2;subst l2;rw [l0];exact⟨l1,rfl⟩
        obtain⟨s1,s2,s3,s4,s5⟩:=hs;have hkm:k<=m:=by omega
        have hcut:=e8i hok hkm;have haa:a'=ad:=by
         rw [s5];simp only [Nat.zero_mul];split
         ·rfl
         cases ad<;>simp [Addr.add]
        have hcc:c'=c:=by omega
        subst haa;subst hcc;have e3:=e2.take (r:=rpV q) hkm;have hbd:(k+m2)*by'<=140737488355328:=by
         have:=e3.1;rw [<-this,<-hys.1];exact g2
        exact b9k (ob':= .row el q _) hA hR hb hfz h2 hax hcut (by cases a'<;>rfl) k1 k2 k3 k4 hbd fun ad' c' W' H' hx=>⟨_,_,_,_,rfl,by rw [List.length_append,e3.1,hys.1],(RowR.append hys.2 e3.2).mono hx.le⟩
       trivial
      trivial
     trivial
   trivial
  trivial
 trivial
end
set_option linter.unusedVariables false
set_option linter.unusedSimpArgs false
section
variable{P:Program}{T:Ty P}{n:Nat}{F0:Frz}{w0:World}{X:List Nat}{W0 W:List OE}{H:DH}{F F1:Frz}{e:DE}{a:Act}{w:World}
variable{dst:Option Tmp}{type:TypeId}{pos:String}{after:Array Edge}{guard:Option (Nat×Bool)}
theorem d1k{v:Value}(hv:v.oneCell'=true):VR F (vtC v) v:=by
 unfold vtC;split
 ·exact rfl
 ·exact rfl
 ·exact c7w _
 ·exact b0b.2 ⟨none,0,0,0,rfl,SlR.nil _ _⟩
 exact⟨rfl,hv⟩
theorem vtL_ok:∀{l:List Value},l.all Value.oneCell'=true->VRL F (l.map vtC) l
 | [],_=>rfl
 |v::l,h=>by
  simp only [List.all_cons,Bool.and_eq_true]at h;exact⟨v,l,rfl,d1k h.1,vtL_ok h.2⟩
theorem f0m{v:Value}(hv:v.cells.toList.all Value.oneCell'=true):VR F (vtV v) v:=by
 unfold vtV;split
 ·rename_i cs;exact⟨cs.toList,by simp,vtL_ok hv,hv⟩
 rename_i hne;refine d1k ?_;cases v<;>first|exact absurd rfl (hne _)|(simp [Value.cells,Value.oneCell']at hv⊢)
theorem d6p(hT:TyOk T)(hR:Rel T F0 w0 X W0 W H F w){t:TypeId}{x y:Operand}{k k':IntKind}{N:Int}(hx:a.eval x= .int k N)(hy:a.eval y= .int k' N):a5z T F0 w0 X W0 W H F a w ⟨dst,.makeSlice t x y,type,pos,after,guard⟩ (d6g T H N (T.app t)):=by
 unfold d6g;split
 ·rename_i el q by' hap
  obtain⟨hu,hS,hA⟩:=hT.app hap;split
  ·rename_i z hz hpos;obtain⟨hq0,hb0⟩:=beqT hpos;have hA:=hA (by simpa using hq0) (by simpa using hb0);obtain⟨hz1,hz2⟩:=hT.zero hz;have hzq:=hT.zsize hap hz;intro xs hxs;unfold mks at hxs;split at hxs
   ·rename_i h0;cases hxs;obtain⟨p,rfl⟩:=Int.eq_ofNat_of_zero_le h0.1;simp only [Int.toNat_natCast]at*;obtain⟨i,z',hi,hz',hq',hby,hzc⟩:=hA.info;have hzz:=hT.zinfo hap hz;rw [hi]at hzz;simp only [Option.map_some,Option.some.injEq]at hzz;rw [hz']at hzz;cases hzz;have hpm:p<=maxLen:=by
     have h3:p<=p*by':=Nat.le_mul_of_pos_right _ hA.pos2
     have:=h0.2;simp only [maxLen];omega
    obtain⟨w',hrun,hown,hgr⟩:=run_make_full (P:=P) w 0 t el i z q hA.under hi hz' hq' k k' p (by rw [hby,Nat.mul_comm];have:=h0.2;omega) hpm (Nat.zero_le _);refine a8v (u:= .slice (some ⟨w.heap.size,0,none⟩) p p) hR (by simp [execOp,hx,hy,hrun]) ⟨_,_,_,_,rfl,rfl⟩ hgr hown (fun b hb=>by simp [OE.blk,Value.ownBlock]at hb;omega) fun hx=>⟨_,_,_,_,rfl,by simp,?_⟩
    have hzR:(rpV q).R F z.cells.toList (vtV z):=⟨z,rfl,⟨hzq,hz2⟩,f0m hz2⟩
    refine RowR.rep hzR p _ (by simp [size_madeCells,hq'];rfl) (fun j v hj=> ?_);simp only [madeCells,Array.toList_map,Array.toList_range,List.getElem?_map,Option.map_eq_some_iff]at hj;obtain⟨j',hj',rfl⟩:=hj;obtain⟨hj1,hj2⟩:=List.getElem?_eq_some_iff.1 hj';simp only [List.length_range]at hj1;simp only [List.getElem_range]at hj2;subst hj2;have hkk:(rpV q).k=q:=rfl;rw [hkk];have hlt:j %q<z.cells.size:=by rw [hzq];exact Nat.mod_lt _ hA.pos
    rw [hzq,getElem!_pos z.cells _ hlt,Array.getElem?_toList];simp [hlt]
   cases hxs
  trivial
 trivial
end
set_option linter.unusedVariables false
set_option linter.unusedSimpArgs false
section
variable{P:Program}{T:Ty P}{n:Nat}{F0:Frz}{w0:World}{X:List Nat}{W0 W:List OE}{H:DH}{F F1:Frz}{e:DE}{a:Act}{w:World}
variable{dst:Option Tmp}{type:TypeId}{pos:String}{after:Array Edge}{guard:Option (Nat×Bool)}
def a2c(T:Ty P)(F0:Frz)(w0:World)(X:List Nat)(W0 W:List OE)(H:DH)(F:Frz)(a:Act)(w:World)(o:Oper)(r:OpR):Prop:=a3e P W H F a w o r/\a5z T F0 w0 X W0 W H F a w o r
def calmR:OpR->Bool | .val _ _=>true | .askV _ _ _ _=>true | .none=>true |_=>false
def memR:OpR->Bool | .gro _ _=>true | .mem _=>true | .askM _ _ _=>true | .none=>true |_=>false
theorem a1e{o:Oper}{r:OpR}(h:a3e P W H F a w o r)(hc:calmR r=true):a2c T F0 w0 X W0 W H F a w o r:=⟨h,by cases r<;>simp [calmR]at hc<;>trivial⟩
theorem a9o{o:Oper}{r:OpR}(h:a5z T F0 w0 X W0 W H F a w o r)(hc:memR r=true):a2c T F0 w0 X W0 W H F a w o r:=⟨by cases r<;>simp [memR]at hc<;>trivial,h⟩
theorem a0u{o:Oper}:a2c T F0 w0 X W0 W H F a w o .none:=⟨trivial,trivial⟩
theorem a3n(x:Option DV):calmR (oV x)=true:=by cases x<;>rfl
theorem c9k(x:Option DV)(rd:List Nat):calmR (oL x rd)=true:=by cases x<;>rfl
theorem c6r(t:TypeId)(d:DV):calmR (d4i T H t d)=true:=by
 unfold d4i;split
 ·split
  ·unfold lBox;split
   ·exact c9k _ _
   rfl
  rfl
 ·exact a3n _
 ·split
  ·unfold e3s;split
   ·exact c9k _ _
   split<;>rfl
  rfl
 rfl
theorem c1n(d:DV)(z:Int)(D:Option TypeDesc):calmR (b7w T d z D)=true:=by
 unfold b7w;split
 ·split<;>rfl
 ·split
  ·split<;>rfl
  rfl
 rfl
theorem b3a(d:DV)(z:Int)(D:Option TypeDesc):calmR (a4s T H d z D)=true:=by
 unfold a4s;split
 ·split
  ·unfold ixSl;split
   ·rfl
   ·split
    ·unfold e3h;split
     ·split<;>rfl
     ·split<;>rfl
     rfl
    rfl
   ·split
    ·unfold e6y;split
     ·split<;>rfl
     ·split<;>rfl
     rfl
    rfl
   rfl
  rfl
 ·split
  ·unfold e3k;split<;>rfl
  rfl
 rfl
theorem c1e(t:TypeId)(d:DV)(lo hi:Option Operand):calmR (b0g T e H t d lo hi)=true:=by
 unfold b0g;split
 ·split
  ·unfold c9h;split
   ·split<;>rfl
   ·split
    ·split
     ·rfl
     ·split
      ·split
       ·split<;>rfl
       ·split<;>rfl
       rfl
      rfl
     ·rfl
     rfl
    rfl
   rfl
  rfl
 rfl
theorem a7r(op:BinOp)(q:Option Bool)(rd:List Nat):calmR (b3b op q rd)=true:=by unfold b3b;split<;>rfl
theorem d2v(c:Bool)(op:BinOp)(t:TypeId)(x y:DV):calmR (oBin T H c op t x y)=true:=by
 unfold oBin;split
 ·rfl
 split
 ·unfold c6i;split
  ·rfl
  ·rfl
  ·split<;>rfl
  ·split<;>rfl
  rfl
 ·split<;>rfl
 unfold d5h;split
 ·split
  ·exact a7r _ _ _
  rfl
 ·split
  ·exact a7r _ _ _
  rfl
 ·split
  ·exact a7r _ _ _
  rfl
 rfl
theorem d4g(H:DH)(o:Ob)(rd wr:List Nat):memR (new H o rd wr)=true:=by rw [c9p];rfl
theorem c4b(H:DH)(o:Ob):memR (newB H o)=true:=by unfold newB;rw [a5q];rfl
theorem c2h(nst dw:Bool)(t:TypeId)(k:Nat)(ps:List (Nat×Operand)):memR (a6l T nst dw e H t k ps)=true:=by
 unfold a6l;split
 ·split
  ·split
   ·split
    ·split
     ·unfold b5r;split
      ·exact d4g _ _ _ _
      split
      ·split
       ·split<;>rfl
       exact d4g _ _ _ _
      rfl
     rfl
    rfl
   rfl
  rfl
 rfl
theorem c7e(m:Nat)(x z:DV):memR (c0a H m x z)=true:=by
 unfold c0a;split
 ·split
  ·unfold sBox;split
   ·split<;>rfl
   rfl
  rfl
 ·split
  ·unfold sRow;split
   ·split
    ·split
     ·unfold e5x;split
      ·split<;>rfl
      rfl
     rfl
    rfl
   ·rfl
   rfl
  rfl
 rfl
theorem c2a(nst:Bool)(x y:DV)(t:Option (TypeId×Nat×Nat)):memR (a9n nst H x y t)=true:=by
 unfold a9n;split
 ·split
  ·unfold apTo;split
   ·unfold e5c;split
    ·rfl
    split<;>rfl
   ·split
    ·unfold e1q;split
     ·split
      ·rfl
      ·split<;>rfl
      rfl
     ·split
      ·rfl
      ·rfl
      rfl
     rfl
    rfl
   ·split
    ·unfold e1s;split
     ·split<;>rfl
     rfl
    rfl
   rfl
  rfl
 rfl
theorem a5w(hE:EnvR n W H F e a)(hg:GlR T F){o:Oper}{x:Operand}{f:DV->OpR}(h:∀d,Conc W H F d (a.eval x)->a2c T F0 w0 X W0 W H F a w o (f d)):a2c T F0 w0 X W0 W H F a w o (on1 T e x f):=by
 unfold on1;split
 ·rename_i hx;exact h _ (a1w hE hg hx)
 exact a0u
theorem b4w(hE:EnvR n W H F e a)(hg:GlR T F){o:Oper}{x y:Operand}{f:DV->DV->OpR}(h:∀d d',Conc W H F d (a.eval x)->Conc W H F d' (a.eval y)->a2c T F0 w0 X W0 W H F a w o (f d d')):a2c T F0 w0 X W0 W H F a w o (on2 T e x y f):=by
 unfold on2;split
 ·rename_i hx hy;exact h _ _ (a1w hE hg hx) (a1w hE hg hy)
 exact a0u
theorem d0x{o:Oper}{d:DV}{u:Value}{f:Int->OpR}(hd:Conc W H F d u)(h:∀k z,u= .int k z->a2c T F0 w0 X W0 W H F a w o (f z)):a2c T F0 w0 X W0 W H F a w o (onI d f):=by
 unfold onI;split
 ·exact h _ _ hd
 exact a0u
theorem d4m{x y:DV}{args:List Operand}(h:ConcL W H F [x,y] (args.map a.eval)):∃x0 y0,args= [x0,y0]/\Conc W H F x (a.eval x0)/\Conc W H F y (a.eval y0):=by
 obtain⟨v,r,h1,h2,v',r',h3,h4,h5⟩:=h;simp only [ConcL]at h5;subst h5;subst h3;rcases args with _|⟨x0,_|⟨y0,_|⟨_,_⟩⟩⟩
 ·cases h1
 ·cases h1
 ·cases h1;exact⟨x0,y0,rfl,h2,h4⟩
 cases h1
theorem f0v(hT:TyOk T)(hE:EnvR n W H F e a)(hR:Rel T F0 w0 X W0 W H F w)(nst dw:Bool):∀(op:Op),a2c T F0 w0 X W0 W H F a w ⟨dst,op,type,pos,after,guard⟩ (opR T nst dw e H type op):=by
 intro op;have hg:=hR.gl;unfold opR;split
 ·exact a1e (b2r fun v hv=>⟨_,a1w hE hg hv,by unfold a0p;simp [execOp]⟩) (a3n _)
 ·exact a1e (b2r fun v hv=>⟨_,a1w hE hg hv,by unfold a0p;simp [execOp]⟩) (a3n _)
 ·exact a1e (b2r fun v hv=>d5v hE hg hv) (a3n _)
 ·refine a9o (d0t hT hR) ?_;unfold b4d;split
  ·exact c4b _ _
  rfl
 ·refine a5w hE hg fun d hd=>a9o (e2o hR hd) ?_;unfold oBox;split
  ·exact c4b _ _
  rfl
 ·rename_i t ps;obtain⟨ps⟩:=ps;refine a1e (c8z hT hE hg) ?_;unfold b2y;split
  ·split<;>rfl
  rfl
 ·rename_i t k ps;obtain⟨ps⟩:=ps;exact a9o (c6z hT hE hR) (c2h _ _ _ _ _)
 ·exact a5w hE hg fun d hd=>a1e (d6k hT hR hd) (c6r _ _)
 ·refine b4w hE hg fun d d' hd hd'=> ?_;unfold d4q;split
  ·rename_i m hm;exact a9o (c8w (type:=type) (pos:=pos) (after:=after) (guard:=guard) hT hR hm hd hd') (c7e _ _ _)
  exact a0u
 ·exact a5w hE hg fun d hd=>a1e (b2r fun v hv=>d8p hd hv) (a3n _)
 ·exact b4w hE hg fun d d' hd hd'=>a1e (e1k hT hR hd hd') (d2v _ _ _ _ _)
 ·exact a5w hE hg fun d hd=>a1e (b2r fun v hv=>e3i hd hv) (a3n _)
 ·refine a5w hE hg fun d hd=> ?_;unfold e0v;split
  ·rename_i hs ht;unfold e9w;split
   ·split
    ·refine a1e ⟨_,rfl,?_⟩ rfl;unfold a0p;simp only [Conc,VR]at hd;simp [execOp,hd,convert,underlying,hT.und hs,hT.und ht,Conv.intToInt]
    exact a0u
   exact a0u
  exact a0u
 ·rename_i fn fi caps;unfold oFn;split
  ·rename_i f p l hp hl;obtain⟨fi⟩:=fi;obtain⟨caps⟩:=caps;refine a1e ⟨.func (.func f) (fi.map a.eval).toArray (caps.map a.eval).toArray,⟨_,_,rfl,b3m hE hg hp,b3m hE hg hl⟩,?_⟩ rfl;unfold a0p;simp [execOp,Instr.makeFunc]
  exact a0u
 ·rename_i t x y;unfold onS;split
  ·rename_i hs;refine a5w hE hg fun d hd=>d0x hd fun k z hz=> ?_;have hy:∃k',a.eval y= .int k' z:=by
    unfold sameO at hs;split at hs
    ·obtain rfl:=Nat.eq_of_beq_eq_true hs;exact⟨k,hz⟩
    ·obtain⟨h1,h2⟩:=beqT hs;have h1:=of_decide_eq_true h1;have h2:=of_decide_eq_true h2;subst h1;subst h2;exact⟨k,hz⟩
    cases hs
   obtain⟨k',hy⟩:=hy;refine a9o (d6p hT hR hz hy) ?_;unfold d6g;split
   ·split<;>rfl
   rfl
  exact a0u
 ·exact a5w hE hg fun d hd=>a1e (d1d hT hE hR hd) (c1e _ _ _ _)
 ·rename_i t x j;refine a1e (b2r fun v hv=> ?_) (a3n _);unfold a5e at hv;split at hv
  ·rename_i hf hx;exact c7f hT hf (a1w hE hg hx) hv
  cases hv
 ·exact a1e (b2r fun v hv=>d3u hT hE hg hv) (a3n _)
 ·exact b4w hE hg fun d d' hd hd'=>d0x hd' fun k z hz=>a1e (b6h hT hR hd hz) (b3a _ _ _)
 ·exact b4w hE hg fun d d' hd hd'=>d0x hd' fun k z hz=>a1e (d4e hT hd hz) (c1n _ _ _)
 ·exact a5w hE hg fun d hd=>a1e (b2r fun v hv=>d6y hd hv) (a3n _)
 ·rename_i b args ts;obtain⟨args⟩:=args;obtain⟨ts⟩:=ts;unfold a9i;split
  ·rename_i l hl;have hc:=b3m hE hg hl;have hlen:=hc.len;unfold oBI;split
   ·rename_i x;obtain⟨v,r,h1,h2,h3⟩:=hc;simp only [ConcL]at h3;subst h3;cases args with
    |nil=>cases h1
    |cons x0 args=>
     simp only [List.map_cons,List.cons.injEq]at h1;obtain⟨h1,h4⟩:=h1;cases args with
     |cons _ _=>cases h4
     |nil=>
      subst h1;rcases ts with _|⟨t,_|⟨_,_⟩⟩
      ·exact a0u
      ·refine a1e (e1y hT hR h2) ?_;show calmR (oLen H x (T.und t))=true;unfold oLen;split
       ·split<;>rfl
       ·unfold e6t;split
        ·rfl
        ·rfl
        split<;>rfl
       rfl
      exact a0u
   ·rename_i x y;obtain⟨x0,y0,rfl,h1,h2⟩:=d4m hc;exact a1e (b2r fun v hv=>e0u (mx:=false) h1 h2 hv) (a3n _)
   ·rename_i x y;obtain⟨x0,y0,rfl,h1,h2⟩:=d4m hc;exact a1e (b2r fun v hv=>e0u (mx:=true) h1 h2 hv) (a3n _)
   ·rename_i x y;obtain⟨x0,y0,rfl,h1,h2⟩:=d4m hc;rcases ts with _|⟨t1,_|⟨t2,_|⟨_,_⟩⟩⟩
    ·exact a0u
    ·exact a0u
    ·show a2c T F0 w0 X W0 W H F a w _ (match Nat.beq t1 t2 with
      |true=>a9n nst H x y (T.app t1)
      |false=> .none)
     split
     ·rename_i ht;obtain rfl:=Nat.eq_of_beq_eq_true ht;exact a9o (c6y hT hR h1 h2) (c2a _ _ _ _)
     exact a0u
    exact a0u
   exact a0u
  exact a0u
 exact a0u
end
set_option linter.unusedVariables false
set_option linter.unusedSimpArgs false
theorem a3i{F:Frz}{x:VT}(h:plainV x=true){v:Value}:VR F x v↔v=valV x:=by
 cases x<;>simp [plainV]at h<;>rfl
section
variable{F:Frz}
theorem d2c{k:IntKind}:∀{es:List (VT×VT)}{l:List (Int×VT)}{ms:List MapEntry},unI k es=some l->MapR F es ms->MpR (Value.int k) valV ms l
 | [],l,ms,h,hm=>by cases h;simp only [MapR]at hm;subst hm;trivial
 |(j,v)::es,l,ms,h,hm=>by
  simp only [unI]at h;split at h
  ·rename_i k' x;split at h
   ·rename_i hk hp;split at h
    ·rename_i r hr;cases h;have hk:=of_decide_eq_true hk;subst hk;obtain⟨e,r',rfl,h1,h2,h3⟩:=hm;exact⟨h1,(a3i hp).1 h2,d2c hr h3⟩
    cases h
   cases h
  cases h
theorem a9c{k:IntKind}:∀{es:List (VT×VT)}{l:List (Int×VT)},unI k es=some l->∀p∈l,plainV p.2=true
 | [],l,h=>by cases h;intro p hp;simp at hp
 |(j,v)::es,l,h=>by
  simp only [unI]at h;split at h
  ·rename_i k' x;split at h
   ·rename_i hk hp;split at h
    ·rename_i r hr;cases h;intro p hp';rcases List.mem_cons.1 hp' with rfl|hp'
     ·exact hp
     exact a9c hr p hp'
    cases h
   cases h
  cases h
theorem unS_ok:∀{es:List (VT×VT)}{l:List (Bs×VT)}{ms:List MapEntry},unS es=some l->MapR F es ms->MpR vs valV ms l
 | [],l,ms,h,hm=>by cases h;simp only [MapR]at hm;subst hm;trivial
 |(j,v)::es,l,ms,h,hm=>by
  simp only [unS]at h;split at h
  ·rename_i x;split at h
   ·rename_i hp;split at h
    ·rename_i r hr;cases h;obtain⟨e,r',rfl,h1,h2,h3⟩:=hm;exact⟨h1,(a3i hp).1 h2,unS_ok hr h3⟩
    cases h
   cases h
  cases h
theorem unS_plain:∀{es:List (VT×VT)}{l:List (Bs×VT)},unS es=some l->∀p∈l,plainV p.2=true
 | [],l,h=>by cases h;intro p hp;simp at hp
 |(j,v)::es,l,h=>by
  simp only [unS]at h;split at h
  ·rename_i x;split at h
   ·rename_i hp;split at h
    ·rename_i r hr;cases h;intro p hp';rcases List.mem_cons.1 hp' with rfl|hp'
     ·exact hp
     exact unS_plain hr p hp'
    cases h
   cases h
  cases h
theorem e7m{k:IntKind}:∀{l:List (Int×VT)}{ms:List MapEntry},(∀p∈l,plainV p.2=true)->MpR (Value.int k) valV ms l->MapR F (l.map fun p=>(.int k p.1,p.2)) ms
 | [],[],_,_=>rfl
 |p::l,e::ms,hp,h=>⟨e,ms,rfl,h.1,(a3i (hp p (by simp))).2 h.2.1,e7m (fun q hq=>hp q (by simp [hq])) h.2.2⟩
 | [],_::_,_,h=>h.elim
 |_::_,[],_,h=>h.elim
theorem backS:∀{l:List (Bs×VT)}{ms:List MapEntry},(∀p∈l,plainV p.2=true)->MpR vs valV ms l->MapR F (l.map fun p=>(.str p.1,p.2)) ms
 | [],[],_,_=>rfl
 |p::l,e::ms,hp,h=>⟨e,ms,rfl,h.1,(a3i (hp p (by simp))).2 h.2.1,backS (fun q hq=>hp q (by simp [hq])) h.2.2⟩
 | [],_::_,_,h=>h.elim
 |_::_,[],_,h=>h.elim
end
theorem a9x{K:Type} [BEq K]{v:VT}(hv:plainV v=true){k:K}:∀{l:List (K×VT)},(∀p∈l,plainV p.2=true)->∀p∈Rt.mput l k v,plainV p.2=true
 | [],_,p,hp=>by simp [Rt.mput]at hp;subst hp;exact hv
 |q::l,h,p,hp=>by
  simp only [Rt.mput]at hp;split at hp
  ·rcases List.mem_cons.1 hp with rfl|hp
   ·exact hv
   exact h p (by simp [hp])
  rcases List.mem_cons.1 hp with rfl|hp
  ·exact h p (by simp)
  exact a9x hv (fun q hq=>h q (by simp [hq])) p hp
theorem a7g{K:Type} [BEq K]{k:K}{l:List (K×VT)}(h:∀p∈l,plainV p.2=true){v:VT}(hv:Rt.mget l k=some v):plainV v=true:=by
 unfold Rt.mget at hv;cases hf:l.find? (fun p=>k==p.1)with
 |none=>rw [hf]at hv;cases hv
 |some p=>rw [hf]at hv;cases hv;exact h p (List.mem_of_find?_eq_some hf)
section
variable{P:Program}{T:Ty P}{n:Nat}{F0:Frz}{w0:World}{X:List Nat}{W0 W:List OE}{H:DH}{F F1:Frz}{e:DE}{a:Act}{w:World}
variable{dst:Option Tmp}{type:TypeId}{pos:String}{after:Array Edge}{guard:Option (Nat×Bool)}
theorem e0e(hE:EnvR n W H F e a)(hg:GlR T F){x y z:Operand}{o:Oper}{f:DV->DV->DV->OpR}(h:∀d d' d'',Conc W H F d (a.eval x)->Conc W H F d' (a.eval y)->Conc W H F d'' (a.eval z)->a2c T F0 w0 X W0 W H F a w o (f d d' d'')):a2c T F0 w0 X W0 W H F a w o (on3 T e x y z f):=by
 unfold on3;split
 ·rename_i hx hy hz;exact h _ _ _ (a1w hE hg hx) (a1w hE hg hy) (a1w hE hg hz)
 exact a0u
theorem d0m(hR:Rel T F0 w0 X W0 W H F w){t:TypeId}:a5z T F0 w0 X W0 W H F a w ⟨dst,.makeMap t none,type,pos,after,guard⟩ (c2w H):=by
 unfold c2w;rw [a5q];have hx:Ext W H F (W++ [.mp w.heap.size [] 0]) (H++ [nblk (.mp [])]) F:=b2t hR.len (fun i e h1=>hR.plain h1) _ _;obtain⟨h1,h2⟩:=hR.add (w':=w.alloc (.map #[] 0)) (o:= .mp []) (e':= .mp w.heap.size [] 0) (World.grownBy_alloc w _ none) ⟨by show(w.alloc _).heap[w.heap.size]?=_;rw [heap_alloc_new],List.nodup_nil,fun _ he=>by cases he⟩ (fun b hb=>by simp [OE.blk]at hb;omega) ⟨_,[],0,rfl,rfl⟩;refine⟨W++ [.mp w.heap.size [] 0],F,_,_,(by simp [execOp,run_makeMap]:(execOp a.eval ⟨dst,.makeMap t none,type,pos,after,guard⟩).run P w= .ok (.value (.map (some w.heap.size))) (w.alloc (.map #[] 0))),?_,?_,_,rfl,?_⟩
 ·show Rel T F0 w0 X W0 _ (snoc _ H) F _;rw [a1j];exact h1
 ·show Ext W H F _ (snoc _ H) F;rw [a1j];exact h2
 show Conc _ (snoc _ H) F (.mr H.length) _;rw [a1j];exact⟨w.heap.size,[],0,by rw [hR.len];simp,rfl⟩
theorem d0o(hR:Rel T F0 w0 X W0 W H F w){i:Nat}{es:List (VT×VT)}(h:mpOf H i=some es){v:Value}(hv:Conc W H F (.mr i) v):∃b g ms c,H[i]?=some b/\b.ob= .mp es/\W[i]?=some (.mp g ms c)/\v= .map (some g)/\MapR F es ms/\b.fz=false/\w.heap[g]?=some (.map ms.toArray c)/\a4l ms c:=by
 unfold mpOf at h;rw [a0j]at h;split at h
 ·rename_i b hb;split at h
  ·rename_i es' ho;cases h;obtain⟨g,ms,c,h1,rfl⟩:=hv;obtain⟨h2,h3⟩:=hR.blk i b _ hb h1;rw [ho]at h2;obtain⟨g',ms',c',e1,h4⟩:=h2;cases e1;have hf:b.fz=false:=by
    cases hf:b.fz with
    |false=>rfl
    |true=>exact(h3 hf).elim
   have hown:=ownW_get hb h1;rw [hf]at hown;obtain⟨k1,k2⟩:w.heap[g]?=some (.map ms.toArray c)/\a4l ms c:=hR.hd.get hown;exact⟨b,g,ms,c,hb,ho,h1,rfl,h4,hf,k1,k2⟩
  cases h
 cases h
theorem c3g(hR:Rel T F0 w0 X W0 W H F w){i:Nat}{b:Blk}{g c c':Nat}{ms ms':List MapEntry}{es es':List (VT×VT)}{o:Oper}(hb:H[i]?=some b)(ho:b.ob= .mp es)(hw:W[i]?=some (.mp g ms c))(hf:b.fz=false)(hg:w.heap[g]?=some (.map ms.toArray c))(hr:(execOp a.eval o).run P w= .ok .skip {w with heap:=w.heap.setIfInBounds g (.map ms'.toArray c')})(hst:a4l ms' c')(hm:∀F,MapR F es' ms'):a5z T F0 w0 X W0 W H F a w o (c7r H i (some es')):=by
 unfold c7r;rw [a0j,hb];dsimp only;rw [hf];dsimp only;have hlt:g<w.heap.size:=(Array.getElem?_eq_some_iff.1 hg).1;obtain⟨r1,r2⟩:=hR.set (w':={w with heap:=w.heap.setIfInBounds g (.map ms'.toArray c')}) (b':=a8b b (.mp es')) (e':= .mp g ms' c') hb hw hf hf (Nat.le_refl _)
  (fun _=>⟨⟨_,_,rfl⟩,Nat.le_succ _,fun hs=>by simp [a8b]at hs⟩) (fun _=>⟨_,_,rfl⟩) (fun h=>⟨h,_,_,rfl⟩) (b7v w g _) ⟨by show(w.heap.setIfInBounds g _)[g]?=_;simp [hlt],hst⟩ (fun k hk=> .inl hk) (fun hx=>⟨g,ms',c',rfl,hm F⟩)
 refine⟨W.set i (.mp g ms' c'),F,_,_,hr,?_,?_,rfl⟩
 ·show Rel T F0 w0 X W0 _ (setN H i _) F _;rw [a1a];exact r1
 show Ext W H F _ (setN H i _) F;rw [a1a];exact r2
theorem d0i(hT:TyOk T)(hR:Rel T F0 w0 X W0 W H F w){op:Op}{t:TypeId}{m kx vx:Operand}{dm dk dv:DV}(hop:op= .insert t m kx vx∨op= .mapUpdate t m kx vx)(h1:Conc W H F dm (a.eval m))(h2:Conc W H F dk (a.eval kx))(h3:Conc W H F dv (a.eval vx)):
 a5z T F0 w0 X W0 W H F a w ⟨dst,op,type,pos,after,guard⟩ (c7k T H dm dk dv (T.und t)):=by
 unfold c7k;split
 ·rename_i kt et hu;have hu:=hT.und hu;split
  ·rename_i i key v hk hv;have h2:=pureD_ok hk h2;have h3:=pureD_ok hv h3;split
   ·rename_i es hp he;obtain⟨b,g,ms,c,hb,ho,hw,hmv,hmr,hf,hg,hst⟩:=d0o hR he h1;have hvv:=(a3i hp).1 h3;have hrun:∀{ms':List MapEntry}{c':Nat},(Instr.mapUpdate t (.map (some g)) (a.eval kx) (a.eval vx)).run P w= .ok () {w with heap:=w.heap.setIfInBounds g (.map ms'.toArray c')}->(execOp a.eval ⟨dst,op,type,pos,after,guard⟩).run P w= .ok .skip {w with heap:=w.heap.setIfInBounds g (.map ms'.toArray c')}:=by
     intro ms' c' hr;rcases hop with rfl|rfl<;>simp [execOp,hmv,hr]
    unfold e1i;split
    ·rename_i k hkd;have hkd:=hT.und hkd;split
     ·rename_i k' x;split
      ·rename_i hkk;have hkk:=of_decide_eq_true hkk;subst hkk;unfold putI;split
       ·rename_i l hl;obtain⟨ms',c',r1,r2,r3⟩:=d1o (KeyIs.int hkd) hu hg hst (d2c hl hmr) x v;rw [<-hvv,<-show a.eval kx= .int k' x from h2]at r1;exact c3g hR hb ho hw hf hg (hrun r1) r3 fun F=>e7m (a9x hp (a9c hl)) r2
       trivial
      trivial
     trivial
    ·rename_i hkd;have hkd:=hT.und hkd;split
     ·rename_i x;unfold putS;split
      ·rename_i l hl;obtain⟨ms',c',r1,r2,r3⟩:=d1o (KeyIs.str hkd) hu hg hst (unS_ok hl hmr) x v;rw [<-hvv,<-show a.eval kx=vs x from h2]at r1;exact c3g hR hb ho hw hf hg (hrun r1) r3 fun F=>backS (a9x hp (unS_plain hl)) r2
      trivial
     trivial
    trivial
   trivial
  trivial
 trivial
theorem c5y(dm dk dv:DV)(D:Option TypeDesc):memR (c7k T H dm dk dv D)=true:=by
 have hs:∀i q,memR (c7r H i q)=true:=by
  intro i q;unfold c7r;split
  ·split
   ·split<;>rfl
   rfl
  rfl
 unfold c7k;split
 ·split
  ·split
   ·unfold e1i;split
    ·split
     ·split
      ·exact hs _ _
      rfl
     rfl
    ·split
     ·exact hs _ _
     rfl
    rfl
   rfl
  rfl
 rfl
theorem b4q{o:Oper}{z:Value}{i:Nat}{q:Option VT}(hz1:z.oneCell'=true)(hp:∀v,q=some v->plainV v=true)(hr:(execOp a.eval o).run P w= .ok (.value (.tuple #[(q.map valV).getD z,.bool q.isSome])) w):a3e P W H F a w o (a6c z i q):=by
 unfold a6c;split
 ·rename_i v;exact⟨_,⟨[valV v,.bool true],rfl,_,_,rfl,(a3i (hp v rfl)).2 rfl,_,_,rfl,rfl,rfl⟩,by unfold a0p;simpa using hr⟩
 split
 ·exact⟨_,⟨[z,.bool false],rfl,_,_,rfl,d1k hz1,_,_,rfl,rfl,rfl⟩,by unfold a0p;simpa using hr⟩
 trivial
theorem b0d(z:Value)(i:Nat)(q:Option VT):calmR (a6c z i q)=true:=by
 unfold a6c;split
 ·rfl
 split<;>rfl
theorem d7v(hT:TyOk T)(hR:Rel T F0 w0 X W0 W H F w){t:TypeId}{m kx:Operand}{dm dk:DV}(h1:Conc W H F dm (a.eval m))(h2:Conc W H F dk (a.eval kx)):
 a2c T F0 w0 X W0 W H F a w ⟨dst,.lookup t m kx true,type,pos,after,guard⟩ (d0r T H dm dk (T.und t)):=by
 unfold d0r;split
 ·rename_i kt et hu;have hu:=hT.und hu;split
  ·rename_i i key hk;have h2:=pureD_ok hk h2;split
   ·rename_i es z he hz;obtain⟨hz1,hz2⟩:=hT.zero hz;obtain⟨b,g,ms,c,hb,ho,hw,hmv,hmr,hf,hg,hst⟩:=d0o hR he h1;have hrun:∀{u:Value},(Instr.lookup t (.map (some g)) (a.eval kx) true).run P w= .ok u w->(execOp a.eval ⟨dst,.lookup t m kx true,type,pos,after,guard⟩).run P w= .ok (.value u) w:=by
     intro u hr;simp [execOp,hmv,hr]
    have hone:∀q:Option VT,plainV (vtC z)=true->z.oneCell'=true:=by
     intro q hp;cases z<;>simp [vtC,plainV]at hp<;>rfl
    unfold e0d;split
    ·rename_i k hkd;have hkd:=hT.und hkd;split
     ·rename_i k' x;split
      ·rename_i hkk;have hkk:=of_decide_eq_true hkk;subst hkk;unfold f0l;split
       ·rename_i l hl;have hr:=d1u (KeyIs.int hkd) hu (hz1 w) hg (d2c hl hmr) x;rw [<-show a.eval kx= .int k' x from h2]at hr
        by_cases hzz:z.oneCell'=true
        ·exact a1e (b4q hzz (fun v hv=>a7g (a9c hl) hv) (hrun hr)) (b0d _ _ _)
        unfold a6c;split
        ·rename_i v hv;rw [hv]at hr;exact a1e ⟨_,⟨[valV v,.bool true],rfl,_,_,rfl,(a3i (a7g (a9c hl) hv)).2 rfl,_,_,rfl,rfl,rfl⟩,by unfold a0p;simpa using hrun hr⟩ rfl
        split
        ·rename_i hp;exact(hzz (hone none hp)).elim
        exact a0u
       exact a0u
      exact a0u
     exact a0u
    ·rename_i hkd;have hkd:=hT.und hkd;split
     ·rename_i x;unfold e8g;split
      ·rename_i l hl;have hr:=d1u (KeyIs.str hkd) hu (hz1 w) hg (unS_ok hl hmr) x;rw [<-show a.eval kx=vs x from h2]at hr
       by_cases hzz:z.oneCell'=true
       ·exact a1e (b4q hzz (fun v hv=>a7g (unS_plain hl) hv) (hrun hr)) (b0d _ _ _)
       unfold a6c;split
       ·rename_i v hv;rw [hv]at hr;exact a1e ⟨_,⟨[valV v,.bool true],rfl,_,_,rfl,(a3i (a7g (unS_plain hl) hv)).2 rfl,_,_,rfl,rfl,rfl⟩,by unfold a0p;simpa using hrun hr⟩ rfl
       split
       ·rename_i hp;exact(hzz (hone none hp)).elim
       exact a0u
      exact a0u
     exact a0u
    exact a0u
   exact a0u
  exact a0u
 exact a0u
theorem c5q{t:TypeId}(hT:TyOk T)(h:isIfc (T.und t)=some false):∃D,P.underlying t=some D/\∀m,D≠ .interface m:=by
 unfold isIfc at h;split at h
 ·cases h
 ·rename_i D hne hu;exact⟨D,hT.und hu,fun m e=>hne m (by rw [<-e])⟩
 cases h
theorem b6r{t:TypeId}{D:TypeDesc}(hu:P.underlying t=some D)(hn:∀m,D≠ .interface m)(v:Value)(w:World):(Instr.makeInterface t v).run P w= .ok (.iface t v) w:=by
 unfold Instr.makeInterface;cases D<;>first
  |exact absurd rfl (hn _)
  |simp [underlying,hu]
theorem d4h(hT:TyOk T)(hR:Rel T F0 w0 X W0 W H F w){t:TypeId}{x:Operand}{d:DV}(hd:Conc W H F d (a.eval x)):a2c T F0 w0 X W0 W H F a w ⟨dst,.makeInterface t x,type,pos,after,guard⟩ (d3m T H t d):=by
 unfold d3m;split
 ·rename_i y is hi hr;obtain⟨D,hu,hn⟩:=c5q hT hi;have hrun:(execOp a.eval ⟨dst,.makeInterface t x,type,pos,after,guard⟩).run P w= .ok (.value (.iface t (a.eval x))) w:=by
   simp [execOp,b6r hu hn]
  split
  ·have hv:=a4h hR (Frz.refl F) hr hd (fun i hi=>by simp at hi);exact a1e ⟨_,⟨_,rfl,hv⟩,hrun⟩ rfl
  obtain⟨F1,h1,h2,h3,h4⟩:=hR.mark (is:=is) fun i hi o ho=>a5b hR hr i hi o ho;have hv:=a4h hR h1 hr hd h3;exact a9o ⟨W,F1,w,_,hrun,h2,h4,_,rfl,_,rfl,hv⟩ rfl
 exact a0u
theorem d4j(hT:TyOk T){o:Oper}{ok:Bool}{t:TypeId}(hr:ok=true->∀z,b2v P t z->(execOp a.eval o).run P w= .ok (.value (.tuple #[z,.bool false])) w):a2c T F0 w0 X W0 W H F a w o (taNo ok (T.zero t)):=by
 unfold taNo;split
 ·rename_i d hd;cases hz:T.zero t with
  |none=>rw [hz]at hd;cases hd
  |some z=>
   rw [hz]at hd;have hd:ofV z=some d:=hd;obtain⟨hz1,hz2⟩:=hT.zero hz;exact a1e ⟨_,⟨[z,.bool false],rfl,_,_,rfl,c6n hd,_,_,rfl,rfl,rfl⟩,by unfold a0p;simpa using hr rfl z hz1⟩ rfl
 exact a0u
theorem c7g(hT:TyOk T){x:Operand}{s t:TypeId}{ok:Bool}{d:DV}(hd:Conc W H F d (a.eval x)):a2c T F0 w0 X W0 W H F a w ⟨dst,.typeAssert x s t ok,type,pos,after,guard⟩ (c0u T t ok d):=by
 unfold c0u;split
 ·rename_i hi;obtain⟨D,hu,hn⟩:=c5q hT hi;split
  ·have hx:a.eval x= .nilIface:=hd.1;refine d4j hT fun hok z hz=> ?_;subst hok;have:(Instr.typeAssert .nilIface s t true).run P w= .ok (.tuple #[z,.bool false]) w:=by
    unfold Instr.typeAssert;cases D<;>first
     |exact absurd rfl (hn _)
     |simp [underlying,hu,hz w]
   simp [execOp,hx,this]
  ·rename_i u y;obtain⟨v,hx,hv⟩:=hd;split
   ·rename_i hb;obtain rfl:=Nat.eq_of_beq_eq_true hb;have hrun:(Instr.typeAssert (.iface u v) s u ok).run P w= .ok (if ok then .tuple #[v,.bool true]else v) w:=by
     unfold Instr.typeAssert;cases D<;>first
      |exact absurd rfl (hn _)
      |(cases ok<;>simp [underlying,hu])
    cases ok with
    |true=>exact a1e ⟨_,⟨[v,.bool true],rfl,_,_,rfl,hv,_,_,rfl,rfl,rfl⟩,by unfold a0p;simp [execOp,hx,hrun]⟩ rfl
    |false=>exact a1e ⟨v,hv,by unfold a0p;simp [execOp,hx,hrun]⟩ rfl
   rename_i hb;have hne:¬u=t:=fun e=>by subst e;simp at hb
   refine d4j hT fun hok z hz=> ?_;subst hok;have:(Instr.typeAssert (.iface u v) s t true).run P w= .ok (.tuple #[z,.bool false]) w:=by
    unfold Instr.typeAssert;cases D<;>first
     |exact absurd rfl (hn _)
     |simp [underlying,hu,hne,hz w]
   simp [execOp,hx,this]
  exact a0u
 exact a0u
theorem sameKs_plain:∀{ks:List Nat}{xs ys:List VT}{b:Bool},sameKs ks xs ys=some b->(∀x∈xs,plainV x=true)/\∀y∈ys,plainV y=true
 | [],[],[],b,_=>⟨fun x h=>by simp at h,fun x h=>by simp at h⟩
 |c::ks,x::xs,y::ys,b,h=>by
  simp only [sameKs]at h;split at h
  ·rename_i b1 h1;split at h
   ·rename_i b2 h2;obtain⟨g1,g2⟩:=sameKs_plain h2;have:plainV x=true/\plainV y=true:=by
     unfold sameK at h1;split at h1<;>first
      |exact⟨rfl,rfl⟩
      |cases h1
    refine⟨fun z hz=> ?_,fun z hz=> ?_⟩
    ·rcases List.mem_cons.1 hz with rfl|hz
     ·exact this.1
     exact g1 z hz
    rcases List.mem_cons.1 hz with rfl|hz
    ·exact this.2
    exact g2 z hz
   cases h
  cases h
 | [],[],_::_,_,h=>by cases h
 | [],_::_,_,_,h=>by cases h
 |_::_,[],_,_,h=>by cases h
 |_::_,_::_,[],_,h=>by cases h
theorem c9s{F:Frz}:∀{xs:List VT}{us:List Value},(∀x∈xs,plainV x=true)->VRL F xs us->us=xs.map valV
 | [],us,_,h=>h
 |x::xs,us,hp,h=>by
  obtain⟨v,r,rfl,h1,h2⟩:=h;rw [(a3i (hp x (by simp))).1 h1,c9s (fun y hy=>hp y (by simp [hy])) h2];rfl
theorem e5v(hT:TyOk T){t t':TypeId}{ks:List Nat}(hk:T.eqs t=some ks){op:BinOp}{x y:Operand}{dx dy:DV}(hx:Conc W H F dx (a.eval x))(hy:Conc W H F dy (a.eval y)):a2c T F0 w0 X W0 W H F a w ⟨dst,.binOp op t x y t',type,pos,after,guard⟩ (oEqS ks op dx dy):=by
 unfold oEqS;split
 ·rename_i xs ys hpx hpy;obtain⟨us,hu,hu1,_⟩:=pureD_ok hpx hx;obtain⟨vs',hv,hv1,_⟩:=pureD_ok hpy hy;unfold f0f;split
  ·rename_i b hb;obtain⟨hg,he⟩:=hT.eqs hk xs ys b hb;obtain⟨p1,p2⟩:=sameKs_plain hb;rw [c9s p1 hu1]at hu;rw [c9s p2 hv1]at hv;have hgu:∀op,(eqGuard op t x y (a.eval x) (a.eval y)).run P w= .ok () w:=fun op=>by
    rw [hu,hv];exact run_eqGuard_agg w op t x y _ _ hg
   split
   ·refine a1e ⟨.bool b,rfl,?_⟩ rfl;unfold a0p;have h1:=hgu .eql;have h2:=run_eql_struct (P:=P) w t (xs.map valV).toArray (ys.map valV).toArray;rw [he w]at h2;rw [hu,hv]at h1;simp only [execOp,hu,hv];simp [h1,h2,Result.andThen]
   ·refine a1e ⟨.bool (!b),rfl,?_⟩ rfl;unfold a0p;have h1:=hgu .neq;have h2:=run_neq_struct (P:=P) w t (xs.map valV).toArray (ys.map valV).toArray;rw [he w]at h2;rw [hu,hv]at h1;simp only [execOp,hu,hv];simp [h1,h2,Result.andThen]
   exact a0u
  exact a0u
 exact a0u
theorem b8h(hT:TyOk T)(hR:Rel T F0 w0 X W0 W H F w){i lo n2 el q:Nat}{xs:List VT}{b:Blk}{x y:Operand}{dT sT el' by':Nat}{dy:DV}{da a0:Option Addr}{dc m c:Nat}{us:List Value}(hap:T.app dT=some (el',q,by'))(hb:H[i]?=some b)(hfz:b.fz=false)(ho:b.ob= .row el q xs)(hw:W[i]?=some (.row el q a0 m c us))
 (hx:a.eval x= .slice da n2 dc) (hd:0<n2->∃g,a0=some ⟨g,0,none⟩/\da=some ⟨g,lo*q,none⟩) (hfit:lo+n2<=m) (hy:Conc W H F dy (a.eval y)):
 a5z T F0 w0 X W0 W H F a w ⟨dst,.call ⟨.builtin .copy, #[x,y], #[dT,sT]⟩,type,pos,after,guard⟩ (b8c H i lo n2 el q xs b (b0f H el q dy)):=by
 obtain⟨hu,hS,_⟩:=hT.app hap;unfold b8c;split
 ·rename_i s hsrc;split
  ·rename_i hz;intro _ hchk;obtain⟨ad2,m2,c2,news,k1,k2,k3,k4,k5⟩:=(a2j hR hy hsrc (fun hc=>by
    unfold chkU at hchk;rw [hc]at hchk;dsimp only at hchk;split at hchk
    ·assumption
    cases hchk)).src
   have hys:s.ys.length=m2/\RowR (rpV q) F news s.ys:=by
    rcases k5 with h|⟨h1,_,h2,h3⟩
    ·exact h.2
    rw [hz]at h2;have:m2=0:=by simpa using h2.symm
    subst this;rw [hz]at h3;simp only [ConcX]at h3;subst h3;rw [h1];exact⟨rfl,rfl⟩
   obtain⟨y1,y2⟩:=hys;obtain⟨hrel,hfe⟩:=hR.blk i b _ hb hw;rw [ho]at hrel;obtain⟨a1,m1,c1,us1,e1,hrn⟩:=hrel;cases e1;have hown:=ownW_get hb hw;rw [hfz]at hown;have hok:=hR.hd.get hown;have hrow:=hR.row hb hw;have hmin:Nat.min m2 n2=min m2 n2:=rfl;have hgo:∀(w':World)(us':List Value),(execOp a.eval ⟨dst,.call ⟨.builtin .copy, #[x,y], #[dT,sT]⟩,type,pos,after,guard⟩).run P w= .ok (.value (.int .i64 (min n2 s.ys.length:Nat))) w'->w.grownBy w' (OE.row el q a0 m c us).blk->(OE.row el q a0 m c us').ok w'->RowN (rpV q) F m us' (xs.take lo++s.ys.take n2++xs.drop (lo+min n2 s.ys.length))->
    MemR T F0 w0 X W0 W H F a w ⟨dst,.call ⟨.builtin .copy, #[x,y], #[dT,sT]⟩,type,pos,after,guard⟩ ⟨some (.v (.int .i64 (min n2 s.ys.length:Nat))),setN H i (a8b b (.row el q (xs.take lo++s.ys.take n2++xs.drop (lo+min n2 s.ys.length)))),i::s.rd,[i]⟩:=by
    intro w' us' hr hg hk hn;obtain⟨r1,r2⟩:=hR.set (w':=w') (b':=a8b b (.row el q (xs.take lo++s.ys.take n2++xs.drop (lo+min n2 s.ys.length)))) (e':= .row el q a0 m c us') hb hw hfz hfz (Nat.le_refl _)
     (fun _=>⟨⟨_,rfl⟩,Nat.le_succ _,fun h=>by simp [a8b]at h⟩) (fun h=>absurd rfl (h _ _ _ _ _ _)) (fun h=>⟨h,⟨_,rfl⟩⟩) hg hk (fun k hk=> .inl hk) (fun hx=>⟨_,_,_,_,rfl,hn⟩)
    refine⟨W.set i (.row el q a0 m c us'),F,w',_,hr,?_,?_,_,rfl,rfl⟩
    ·show Rel T F0 w0 X W0 _ (setN H i _) F _;rw [a1a];exact r1
    show Ext W H F _ (setN H i _) F;rw [a1a];exact r2
   rcases Nat.eq_zero_or_pos (min m2 n2)with h0|hpos
   ·have h1:s.ys.take n2= []:=by
     apply List.length_eq_zero_iff.1;rw [List.length_take,y1];omega
    have h2:min n2 s.ys.length=0:=by rw [y1];omega
    refine hgo w us ?_ ⟨rfl,rfl,rfl,Nat.le_refl _,fun _ _ _=>rfl⟩ hok (by rw [h1,h2];simpa using hrn);have e1:∀a:Addr,(loadCells a 0).run P w= .ok #[] w:=fun a=>run_loadCells_list (P:=P) w a [] (fun j v hj=>by simp at hj);rw [h2];cases ad2<;>cases da<;>simp [execOp,resolve,invoke,builtin,hx,k1,Builtin.copy_,underlying,hu,Builtin.lenOf,Builtin.firstCells,hS w,h0,e1,storeCells,goInt]
   obtain⟨g,rfl,rfl⟩:=hd (by omega);obtain⟨a2,rfl,hsrc2⟩:=k3.resolve_left (by omega);have hm:0<m:=by omega
   obtain⟨b',cur,ha',hb',hblk,hcur,⟨hxl,hbound⟩,hst⟩:=OE.access hok (e:=el) (k:=q) (a:=some ⟨g,0,none⟩) (m:=m) (c:=c) (xs:=us) (base:=0) rfl hm;cases ha';have hcl:(news.take (min m2 n2*q)).length=min m2 n2*q:=by
    rw [List.length_take,k2];exact Nat.min_eq_left (Nat.mul_le_mul_right _ (Nat.min_le_left ..))
   have hle:lo*q+(news.take (min m2 n2*q)).length<=us.length:=by
    rw [hxl,hcl,<-Nat.add_mul];exact Nat.mul_le_mul_right _ (by omega)
   have hR2:RowR (rpV q) F (news.take (min m2 n2*q)) (s.ys.take (min m2 n2)):=y2.take _;have h1:=hR2.one;have hrun:=run_storeCells_at P g (lo*q) el (news.take (min m2 n2*q)) 0 cur w hb' (by omega) h1;have hok2:=hst (lo*q) (news.take (min m2 n2*q)) hle;have hload:=run_loadCells_list (P:=P) w a2 (news.take (min m2 n2*q)) (fun j v hj=>hsrc2 j v (by
    have hlt:=(List.getElem?_eq_some_iff.1 hj).1;rw [hcl]at hlt
    rwa [List.getElem?_take_of_lt hlt]at hj))
   rw [hcl]at hload;simp only [Nat.zero_add]at hok2;simp only [Nat.add_zero]at hrun;have hmn:min n2 s.ys.length=min m2 n2:=by rw [y1];exact Nat.min_comm _ _
   have htk:s.ys.take n2=s.ys.take (min m2 n2):=by
    rw [<-y1];rcases Nat.le_total n2 s.ys.length with h|h
    ·rw [Nat.min_eq_right h]
    rw [Nat.min_eq_left h,List.take_of_length_le h,List.take_length]
   refine hgo _ (us.take (lo*q)++news.take (min m2 n2*q)++us.drop (lo*q+(news.take (min m2 n2*q)).length)) ?_ (by rw [hblk];exact a4e w g _) hok2 ?_
   ·rw [hmn];simp [execOp,resolve,invoke,builtin,hx,k1,Builtin.copy_,underlying,hu,Builtin.lenOf,Builtin.firstCells,hS w,hload,hrun,goInt]
   obtain⟨hl1,hl2⟩:=hrn;rw [hmn,htk];refine⟨?_,?_⟩
   ·simp only [List.length_append,List.length_take,List.length_drop,y1];omega
   have e1:lo*q+(news.take (min m2 n2*q)).length=(lo+min m2 n2)*q:=by rw [hcl,Nat.add_mul]
   rw [e1];exact RowR.append (hl2.drop _) (RowR.append hR2 (hl2.take lo))
  trivial
 trivial
theorem c6w{i lo n2 el q:Nat}{xs:List VT}{b:Blk}{s:Option Src}:memR (b8c H i lo n2 el q xs b s)=true:=by
 unfold b8c;split
 ·split<;>rfl
 rfl
theorem d0g{q:Nat}{x y:DV}:memR (d2l H q x y)=true:=by
 have hB:∀i lo n b,memR (c7h H q i lo n y b)=true:=by
  intro i lo n b;unfold c7h;split
  ·split
   ·exact c6w
   rfl
  rfl
 unfold d2l;split
 ·split
  ·exact hB _ _ _ _
  rfl
 ·split
  ·exact hB _ _ _ _
  rfl
 rfl
theorem d6w(hT:TyOk T)(hR:Rel T F0 w0 X W0 W H F w){x y:Operand}{dT sT el' q by':Nat}{dx dy:DV}(hap:T.app dT=some (el',q,by'))(hx:Conc W H F dx (a.eval x))(hy:Conc W H F dy (a.eval y)):
 a5z T F0 w0 X W0 W H F a w ⟨dst,.call ⟨.builtin .copy, #[x,y], #[dT,sT]⟩,type,pos,after,guard⟩ (d2l H q dx dy):=by
 unfold d2l;split
 ·rename_i i ver;split
  ·rename_i b n2 hb hn;obtain⟨hb,hv,hf⟩:=a5j hb;unfold c7h;split
   ·rename_i el q1 xs ho;split
    ·rename_i hq;obtain⟨hq,hle⟩:=beqT hq;obtain rfl:=Nat.eq_of_beq_eq_true hq;obtain⟨da,m,c,hxv,b0,e0,g1,g2,g3,g4⟩:=hx;rw [hb]at g1;cases g1;obtain⟨el0,q0,us,rfl⟩:=g4 hv.symm;have hrel:=(hR.blk i b _ hb g2).1;rw [ho]at hrel;obtain⟨a1,m1,c1,us1,e1,hrn⟩:=hrel;cases e1;have hrow:=hR.row hb g2;have hn2:n2=m:=by
      have:a7l H (.row i ver)=some xs.length:=by
       simp only [a7l];rw [a0j,hb];simp [hv,ho]
      rw [this]at hn;cases hn;exact hrn.1
     subst hn2;refine b8h hT hR hap hb hf ho g2 hxv (fun h=> ?_) (by omega) hy;rcases hrow.2.2.2 with h0|⟨g,hg⟩
     ·omega
     exact⟨g,hg,by rw [hg];simp⟩
    trivial
   trivial
  trivial
 ·rename_i i ver lo n2;split
  ·rename_i b hb;obtain⟨hb,hv,hf⟩:=a5j hb;unfold c7h;split
   ·rename_i el q1 xs ho;split
    ·rename_i hq;obtain⟨hq,hle⟩:=beqT hq;obtain rfl:=Nat.eq_of_beq_eq_true hq;obtain⟨a',c',hxv,b0,e0,g1,g2,g3,g4⟩:=hx;rw [hb]at g1;cases g1;obtain⟨el0,q0,a0,m,c,us,rfl,hsub⟩:=g4 hv.symm;have hrel:=(hR.blk i b _ hb g2).1;rw [ho]at hrel;obtain⟨a1,m1,c1,us1,e1,hrn⟩:=hrel;cases e1;have hrow:=hR.row hb g2;have hlen:=hrn.1;have hle:=Nat.le_of_ble_eq_true hle;refine b8h hT hR hap hb hf ho g2 hxv (fun h=> ?_) (by omega) hy;obtain⟨s1,s2,s3,s4,s5⟩:=hsub;have hmc:=hrow.1;have hne:¬c=lo:=by omega
     rw [if_neg hne]at s5;rcases hrow.2.2.2 with h0|⟨g,hg⟩
     ·omega
     exact⟨g,hg,by rw [s5,hg];simp [Rt.addr_add]⟩
    trivial
   trivial
  trivial
 trivial
theorem c8v(hT:TyOk T)(hE:EnvR n W H F e a)(hR:Rel T F0 w0 X W0 W H F w){args:List Operand}{ts:List TypeId}:a5z T F0 w0 X W0 W H F a w ⟨dst,.call ⟨.builtin .copy,args.toArray,ts.toArray⟩,type,pos,after,guard⟩ (c4f T H ts (opL T e args))/\memR (c4f T H ts (opL T e args))=true:=by
 unfold c4f;split
 ·rename_i t1 t2 x y hl;have hc:=b3m hE hR.gl hl;obtain⟨x0,y0,rfl,h1,h2⟩:=d4m hc;split
  ·rename_i hap;exact⟨d6w hT hR hap h1 h2,d0g⟩
  exact⟨trivial,rfl⟩
 exact⟨trivial,rfl⟩
theorem HD.addFz{O:List OE}(h:HD F0 w0 X F O w){w':World}(hg:w.grownBy w' none){o:Obj}(ho:w'.heap[w.heap.size]?=some o):HD F0 w0 X (fun b=>if b=w.heap.size then some o else F b) O w'/\F.le (fun b=>if b=w.heap.size then some o else F b):=by
 have hlt:∀{b:Nat},F b≠none->b<w.heap.size:=fun hb=>Sat.lt h.sat hb;have hle:F.le (fun b=>if b=w.heap.size then some o else F b):=fun b x hx=>by
  have:=hlt (b:=b) (by rw [hx];simp);show(if b=w.heap.size then some o else F b)=some x;rw [if_neg (by omega)];exact hx
 have h2:=h.grow hg;refine⟨⟨fun b x hx=> ?_,h.le.trans hle,fun b hb=> ?_,h2.own,fun e he b hb=> ?_,h2.dis,h2.os,h2.tape,h2.output,h2.size,h2.old⟩,hle⟩
 ·replace hx:(if b=w.heap.size then some o else F b)=some x:=hx
  split at hx
  ·rename_i he;subst he;cases hx;exact ho
  exact h2.sat b x hx
 ·replace hb:(if b=w.heap.size then some o else F b)≠none:=hb
  split at hb
  ·rename_i he;subst he;exact .inr (.inl h.size)
  exact h.new b hb
 obtain⟨k1,k2⟩:=h.sep e he b hb;refine⟨?_,k2⟩;show(if b=w.heap.size then some o else F b)=none;have hlt2:b<w.heap.size:=OE.lt (h.own e he) hb;rw [if_neg (by omega)];exact k1
theorem Rel.fzs(h:Rel T F0 w0 X W0 W H F w){w':World}{F':Frz}(hd:HD F0 w0 X F' (ownW H W) w')(hl:F.le F'):Rel T F0 w0 X W0 W H F' w'/\Ext W H F W H F':=by
 have hx:Ext W H F W H F':=⟨hl,h.refl.2,h.refl.3⟩
 exact⟨⟨h.len,fun i b e h1 h2=>⟨RelO.ext hx (h.blk i b e h1 h2).1,fun hf=>((h.blk i b e h1 h2).2 hf).mono hl⟩,hd,h.gl.mono T hl,h.lent⟩,hx⟩
theorem b2j{F:Frz}:∀l:Bs,VRX F 1 (a1q l) (l.map fun b=>Value.int .u8 b.toNat)
 | []=>rfl
 |b::l=>⟨.int .u8 b.toNat,_,rfl,⟨rfl,rfl⟩,rfl,b2j l⟩
theorem e4n(hT:TyOk T)(hR:Rel T F0 w0 X W0 W H F w){s t el:TypeId}{x:Operand}{d:DV}(hd:Conc W H F d (a.eval x))(hs:T.und s=some .string)(ht:T.und t=some (.slice el))(he:T.und el=some (.int .u8)):
 a5z T F0 w0 X W0 W H F a w ⟨dst,.convert s t x,type,pos,after,guard⟩ (oToB H d):=by
 unfold oToB;split
 ·rename_i l;intro l' hl';unfold d8v at hl';split at hl'
  ·rename_i hle;cases hl';have hle:=Nat.le_of_ble_eq_true hle;have hx:a.eval x=vs l:=hd;have hrun:=Lib.run_convert_string_bytes (P:=P) w s t el ⟨l.toArray⟩ (hT.und hs) (hT.und ht) (hT.und he);have hgr:w.grownBy (Lib.bytesWorld w el ⟨l.toArray⟩) none:=⟨rfl,rfl,rfl,by rw [Lib.bytesWorld_size];omega,fun k hk _=>Lib.bytesWorld_at_old w el _ k hk⟩
   obtain⟨h1,h2⟩:=hR.hd.addFz hgr (Lib.bytesWorld_at_new w el ⟨l.toArray⟩);obtain⟨h3,h4⟩:=hR.fzs h1 h2;have hsz:(⟨l.toArray⟩:ByteArray).size=l.length:=a2k l;rw [hsz]at hrun;refine⟨W,_,_,_,?_,h3,h4,_,rfl,some ⟨w.heap.size,0,none⟩,l.length,grownCap w l.length 0 el,rfl,by simp [a1q],?_,?_,.inr ⟨w.heap.size,0,1,l.map fun b=>Value.int .u8 b.toNat,rfl,⟨_,_,_,if_pos rfl,?_⟩,b2j l⟩⟩
   ·simp only [execOp,hx];unfold vs;simp [hrun]
   ·simp only [a1q,List.length_map];exact grownCap_ge w l.length 0 el
   ·exact grownCap_le_maxLen w l.length 0 el (by simp only [maxLen];omega)
   simp [Lib.bytesCells]
  cases hl'
 trivial
theorem b7s{F:Frz}:∀{xs:List VT}{l:Bs}{us:List Value},bytesV xs=some l->RowR (rpV 1) F us xs->us=l.map fun b=>Value.int .u8 b.toNat
 | [],l,us,h,hr=>by cases h;cases hr;rfl
 |x::xs,l,us,h,hr=>by
  obtain⟨cs,r,rfl,⟨u,rfl,⟨h1,h2⟩,h3⟩,h4⟩:=hr;unfold bytesV at h;split at h
  ·rename_i he;cases he
  ·rename_i y l' he;cases he;split at h
   ·rename_i hd;split at h
    ·rename_i q hq;cases h;have k1:=b7s hq h4;subst k1;cases h3;have hd:=of_decide_eq_true hd;rw [List.map_cons,<-hd];rfl
    cases h
   cases h
  cases h
theorem e2x(l:Bs):c8g (l.map fun b=>((b.toNat:Nat):Int))=l:=by
 unfold c8g;rw [List.map_map]
 conv=>rhs;rw [<-List.map_id l]
 exact List.map_congr_left fun b _=>by simp
theorem e3l(hT:TyOk T)(hR:Rel T F0 w0 X W0 W H F w){s t el:TypeId}{x:Operand}{d:DV}(hd:Conc W H F d (a.eval x))(hs:T.und s=some (.slice el))(he:T.und el=some (.int .u8))(ht:T.und t=some .string):
 a3e P W H F a w ⟨dst,.convert s t x,type,pos,after,guard⟩ (oToS H el d):=by
 unfold oToS;split
 ·rename_i j vj;split
  ·rename_i b hb;split
   ·rename_i s' hsrc;split
    ·rename_i hz;intro l hl;obtain⟨hb1,hb2⟩:=a3j hb;obtain⟨ad,m,c,news,hu,hlen,hread,hone,hor⟩:=(b9c hR hd hb1 hb2 hsrc).src;have hus:news=l.map fun b=>Value.int .u8 b.toNat:=by
      rcases hor with⟨-,hys,hrow⟩|⟨hy0,-,hzl,hcx⟩
      ·exact b7s hl hrow
      rw [hz]at hcx;rw [hy0]at hl;cases hl;simpa [ConcX]using hcx
     have hr:(Conv.bytesToString (.slice ad m c)).run P w= .ok (vs l) w:=by
      rcases hread with h0|⟨a2,rfl,hc⟩
      ·subst h0;have hn:news= []:=List.eq_nil_of_length_eq_zero (by rw [hlen,Nat.zero_mul]);rw [hn]at hus;obtain rfl:l= []:=by cases l with|nil=>rfl|cons b l=>cases hus
       cases ad with
       |none=>rfl
       |some a2=>
        have hload:=run_loadCells_list (P:=P) w a2 [] (fun j v hj=>by simp at hj);rw [run_bytesToString w a2 0 c [] hload];rfl
      have hload:=run_loadCells_list (P:=P) w a2 news hc;rw [hlen,Nat.mul_one,hus]at hload;have hm:(l.map fun b=>Value.int .u8 b.toNat)=(l.map fun b=>((b.toNat:Nat):Int)).map (Value.int .u8):=by simp
      rw [hm]at hload;rw [run_bytesToString w _ m c _ hload];rw [c7w,d2i,e2x];rfl
     refine⟨vs l,rfl,?_⟩;unfold a0p;simp [execOp,hu,convert,underlying,hT.und hs,hT.und ht,hT.und he,hr]
    trivial
   trivial
  trivial
 trivial
theorem strW{P:Program}{w:World}{t u el tr:TypeId}{inf:TypeInfo}(hul:P.underlying t=some (.slice el))(hu:P.underlying u=some .string)(hinf:P.info? el=some inf)(hz:inf.zero=some (.int .u8 0))(hq:inf.size=1)(hby:inf.bytes=1){ad:Option Addr}{m c:Nat}{xs:List Value}
 (hown:(OE.row el 1 ad m c xs).ok w) (s:ByteArray) (hb:m+s.size<=140737488355328):
 ∃ad' c' w',(Builtin.append_ #[t,u] tr #[.slice ad m c,.string s]).run P w= .ok (.slice ad' (m+s.size) c') w'/\w.grownBy w' (OE.row el 1 ad m c xs).blk/\(OE.row el 1 ad' (m+s.size) c' (xs++Lib.strCells s)).ok w'/\∀b,(OE.row el 1 ad' (m+s.size) c' (xs++Lib.strCells s)).blk=some b->(OE.row el 1 ad m c xs).blk=some b∨w.heap.size<=b:=by
 have hsm:m+s.size<=maxLen:=by simp only [maxLen];omega
 have hown':w.ownsRow 0 el 1 (.slice ad m c) m xs:=hown;have fin:∀(base:Nat)(v':Value)(w':World),w'.ownsRow base el 1 v' (m+s.size) (xs++Lib.strCells s)->w.grownBy w' (Value.slice ad m c).ownBlock->(∀k,v'.ownBlock=some k->(Value.slice ad m c).ownBlock=some k∨w.heap.size<=k)->
  (Builtin.append_ #[t,u] tr #[.slice ad m c,.string s]).run P w= .ok v' w'->
  ∃ad' c' w',(Builtin.append_ #[t,u] tr #[.slice ad m c,.string s]).run P w= .ok (.slice ad' (m+s.size) c') w'/\w.grownBy w' (OE.row el 1 ad m c xs).blk/\(OE.row el 1 ad' (m+s.size) c' (xs++Lib.strCells s)).ok w'/\∀b,(OE.row el 1 ad' (m+s.size) c' (xs++Lib.strCells s)).blk=some b->(OE.row el 1 ad m c xs).blk=some b∨w.heap.size<=b:=by
  intro base v' w' hown2 hgr hk hr;have hv':∃a' c',v'= .slice a' (m+s.size) c':=by
   rcases hown2.2 with⟨rfl,h0⟩|⟨g,cap,cur,rfl,_⟩
   ·exact⟨none,0,by rw [h0]⟩
   exact⟨_,_,rfl⟩
  obtain⟨a',c',rfl⟩:=hv';refine⟨a',c',w',hr,hgr,⟨hown2.1,?_⟩,hk⟩;rcases hown2.2 with h0|⟨g,cap,cur,h1,_,h2⟩
  ·exact .inl h0
  exact .inr ⟨g,cap,cur,h1,Nat.zero_le _,h2⟩
 rcases hown'.2 with⟨he,h0⟩|⟨gb,cap,cur,he,_,hgb,hnc,hcm,hcs,htake⟩
 ·simp only [Value.slice.injEq]at he;obtain⟨rfl,rfl,rfl⟩:=he;have hx:xs= []:=List.eq_nil_of_length_eq_zero (by simpa using hown'.1);subst hx;obtain⟨v',w',hr,hown2,hgr,_⟩:=Lib.run_append_own_string (P:=P) w w.heap.size t u tr el inf hul hu hinf hz hq hby (.slice none 0 0) 0 [] (World.ownsRow_nil _ _ _ _) s hsm hb (Nat.le_refl _);exact fin _ v' w' hown2 hgr (fun k hk=> .inr (hown2.lt k hk).1) hr
 simp only [Value.slice.injEq]at he;obtain⟨rfl,_,e3⟩:=he;obtain rfl:cap=c:=e3.symm;obtain⟨v',w',hr,hown2,hgr,_⟩:=Lib.run_append_own_string (P:=P) w 0 t u tr el inf hul hu hinf hz hq hby (.slice (some ⟨gb,0,none⟩) m cap) m xs hown' s hsm hb (Nat.zero_le _);refine fin _ v' w' hown2 hgr (fun k hk=> ?_) hr
 by_cases hroom:m+s.size<=cap
 ·have hr2:=Lib.run_append_room_string (P:=P) w t u tr el inf hul hu hinf hq gb m cap cur hgb s hroom (by omega);rw [hr]at hr2;cases hr2;exact .inl hk
 have holds:∀j v,xs[j]?=some v->w.cell? ((⟨gb,0,none⟩:Addr).add j)=some v:=hown'.cells (g:=gb) rfl;have hr2:=Lib.run_append_grow_string (P:=P) w t u tr el inf (.int .u8 0) hul hu hinf hz ⟨gb,0,none⟩ m cap xs (by rw [hq];exact hown'.1) holds s (by omega) (by simp only [maxLen]at hsm;omega) (by rw [hby];exact growslice_fits (by omega) (by omega));rw [hr]at hr2;cases hr2;simp only [Value.ownBlock,Option.some.injEq]at hk;exact .inr (by omega)
theorem d8f(hT:TyOk T)(hE:EnvR n W H F e a)(hR:Rel T F0 w0 X W0 W H F w){args:List Operand}{ts:List TypeId}{r:OpR}(h:e2f T H ts (opL T e args)=some r):a5z T F0 w0 X W0 W H F a w ⟨dst,.call ⟨.builtin .append,args.toArray,ts.toArray⟩,type,pos,after,guard⟩ r/\memR r=true:=by
 unfold e2f at h;split at h
 ·rename_i t u;split at h
  ·rename_i hu;cases h;unfold e9k;split
   ·rename_i el q by' hap
    obtain⟨hul,hS,hA⟩:=hT.app hap;unfold e0f;split
    ·rename_i i ver s hc hl;obtain⟨hc,hz⟩:=beqT hc;obtain⟨hq,hb⟩:=beqT hc;obtain rfl:=Nat.eq_of_beq_eq_true hq;obtain rfl:=Nat.eq_of_beq_eq_true hb;have hz:T.zero el=some (.int .u8 0):=by
      unfold isByte at hz;split at hz
      ·rename_i z hz2;obtain rfl:=of_decide_eq_true hz;exact hz2
      cases hz
     have hA:=hA (by decide) (by decide);obtain⟨inf,z,hinf,hz0,hq1,hby,_⟩:=hA.info;have hz1:=hT.zinfo hap hz;rw [hinf]at hz1;simp only [Option.map_some,Option.some.injEq]at hz1;split
     ·rename_i b hb0;unfold e0o;split
      ·rename_i el' q' xs hob;split
       ·rename_i heq;obtain⟨he,hq'⟩:=beqT heq;obtain rfl:=Nat.eq_of_beq_eq_true he;obtain rfl:=Nat.eq_of_beq_eq_true hq';refine⟨?_,rfl⟩;intro zs hzs;obtain⟨_,g2,rfl⟩:=a8f hzs;have hc:=b3m hE hR.gl hl;obtain⟨x0,y0,rfl,h1,h2⟩:=d4m hc;obtain⟨hb,hv,hfz⟩:=a5j hb0;obtain⟨ad,m,c,hax,b',e',w1,w2,w3,w4⟩:=h1;rw [hb]at w1;cases w1;obtain⟨el2,q2,us,rfl⟩:=w4 hv.symm;have hrel:=(hR.blk i b _ hb w2).1;rw [hob]at hrel;obtain⟨_,_,_,_,e1,e2⟩:=hrel;cases e1;have hown:=ownW_get hb w2;rw [hfz]at hown;have hok:w.ownsRow 0 el 1 (.slice ad m c) m us:=hR.hd.get hown;have hy:a.eval y0=vs s:=h2;have hml:m=xs.length:=e2.1.symm;have hvl:(a1q s).length=s.length:=by simp [a1q]
        have hsz:(⟨s.toArray⟩:ByteArray).size=s.length:=a2k s;rw [hvl]at g2;obtain⟨ad',c',w',r1,r3,r2,r4⟩:=strW (tr:=type) hul (hT.und hu) hinf hz1 hq1 hby (xs:=us) hok ⟨s.toArray⟩ (by rw [hsz];omega);rw [hsz]at r1 r2 r4;obtain⟨s1,s2⟩:=hR.set (w':=w') (b':=grown b (.row el 1 (xs++a1q s))) (e':= .row el 1 ad' (m+s.length) c' (us++Lib.strCells ⟨s.toArray⟩)) hb w2 hfz hfz (Nat.le_succ _)
         (fun h=>by simp [grown]at h) (fun h=>absurd rfl (h _ _ _ _ _ _)) (fun h=>by simp [grown]at h) r3 r2 r4 (fun hx=>⟨_,_,_,_,rfl,by rw [List.length_append,hvl,hml],(RowR.append (a6d.1 (b2j s)) e2.2).mono hx.le⟩)
        have hi:=(List.getElem?_eq_some_iff.1 hb).1;have hi2:=(List.getElem?_eq_some_iff.1 w2).1;refine⟨W.set i (.row el 1 ad' (m+s.length) c' (us++Lib.strCells ⟨s.toArray⟩)),F,w',.value (.slice ad' (m+s.length) c'),?_,?_,?_,_,rfl,?_⟩
        ·unfold vs at hy;simp [execOp,resolve,invoke,builtin,hax,hy,r1]
        ·show Rel T F0 w0 X W0 _ (setN H i _) F _;rw [a1a];exact s1
        ·show Ext W H F _ (setN H i _) F;rw [a1a];exact s2
        show Conc _ (setN H i _) F _ _;rw [a1a];exact⟨ad',m+s.length,c',rfl,grown b _,_,List.getElem?_set_self hi,List.getElem?_set_self hi2,Nat.le_refl _,fun _=>⟨el,1,_,rfl⟩⟩
       exact⟨trivial,rfl⟩
      exact⟨trivial,rfl⟩
     exact⟨trivial,rfl⟩
    exact⟨trivial,rfl⟩
   exact⟨trivial,rfl⟩
  cases h
 cases h
theorem f0t(hT:TyOk T)(hE:EnvR n W H F e a)(hR:Rel T F0 w0 X W0 W H F w){op:Op}{r:OpR}(h:opX T e H op=some r):a2c T F0 w0 X W0 W H F a w ⟨dst,op,type,pos,after,guard⟩ r:=by
 have hg:=hR.gl;unfold opX at h;split at h
 ·cases h;refine a9o (d0m hR) ?_;unfold c2w;rw [a5q];rfl
 ·cases h;refine e0e hE hg fun d d' d'' h1 h2 h3=>a9o (d0i hT hR (.inl rfl) h1 h2 h3) (c5y _ _ _ _)
 ·cases h;refine e0e hE hg fun d d' d'' h1 h2 h3=>a9o (d0i hT hR (.inr rfl) h1 h2 h3) (c5y _ _ _ _)
 ·cases h;exact b4w hE hg fun d d' h1 h2=>d7v hT hR h1 h2
 ·rename_i args ts;cases h;obtain⟨args⟩:=args;obtain⟨ts⟩:=ts;obtain⟨h1,h2⟩:=c8v (dst:=dst) (type:=type) (pos:=pos) (after:=after) (guard:=guard) (args:=args) (ts:=ts) hT hE hR;exact a9o h1 h2
 ·rename_i args ts;obtain⟨args⟩:=args;obtain⟨ts⟩:=ts;obtain⟨h1,h2⟩:=d8f (dst:=dst) (type:=type) (pos:=pos) (after:=after) (guard:=guard) (args:=args) (ts:=ts) hT hE hR h;exact a9o h1 h2
 ·rename_i op t x y t';unfold e6j at h;split at h
  ·rename_i ks hk;cases h;exact b4w hE hg fun d d' h1 h2=>e5v hT hk h1 h2
  cases h
 ·cases h;exact a5w hE hg fun d h1=>d4h hT hR h1
 ·cases h;exact a5w hE hg fun d h1=>c7g hT h1
 ·unfold d2d at h;split at h
  ·rename_i el hs ht;split at h
   ·rename_i he;cases h;exact a5w hE hg fun d h1=>a9o (e4n hT hR h1 hs ht he) (by unfold oToB;split<;>rfl)
   cases h
  ·rename_i el hs ht;split at h
   ·rename_i he;cases h;exact a5w hE hg fun d h1=>a1e (e3l hT hR h1 hs he ht) (by unfold oToS;repeat' split<;>first|rfl|skip)
   cases h
  cases h
 cases h
end
set_option linter.unusedVariables false
set_option linter.unusedSimpArgs false
section
variable{P:Program}(T:Ty P)
def FnOk(f:FuncId)(az:List DV)(Hc:DH)(r:DV)(Hr:DH):Prop:= Ent P f/\(∀b∈Hr,b.ver=0/\b.st=0)/\∀(w:World)(F:Frz)(X:List Nat)(Wc:List OE)(us:List Value),Rel T F w X Wc Wc Hc F w->ConcL Wc Hc F az us-> Calls P f us.toArray w fun x w'=>∃v F' Wr,x= .returned v/\Rel T F w X Wc Wr Hr F' w'/\Conc Wr Hr F' r v
def c7s(F0:Frz)(w0:World)(X:List Nat)(W0 W:List OE)(H:DH)(F:Frz)(w:World)(f:FuncId)(us:List Value)(q:Res):Prop:= Ent P f/\Calls P f us.toArray w fun x w'=>∃v,x= .returned v/\∃W' F',Rel T F0 w0 X W0 W' q.H F' w'/\Ext W H F W' q.H F'/\∃d,q.v=some d/\Conc W' q.H F' d v
def a3p(F0:Frz)(w0:World)(X:List Nat)(W0 W:List OE)(H:DH)(F:Frz)(w:World)(f:FuncId)(us:List Value):OpR->Prop | .call g az Hc k=>∀r Hr q,FnOk T g az Hc r Hr->k r Hr=some q->c7s T F0 w0 X W0 W H F w f us q | .pcall fl g az=>∀r Hr q,FnOk T g (az.map .v) [] r Hr->resP fl H r Hr=some q->c7s T F0 w0 X W0 W H F w f us q | .gro v rd=>c7s T F0 w0 X W0 W H F w f us ⟨some v,H,rd,[]⟩ | .mem q=>c7s T F0 w0 X W0 W H F w f us q | .askM _ x k=>∀y,x=some y->c7s T F0 w0 X W0 W H F w f us (k y) | .none=>True |_=>False
structure LibOk:Prop where
 ext:∀{f g vs r},T.ext f=some g->g vs=some r->FnOk T f (vs.map .v) [] r []
 cl:∀{f el q b},T.cl f=some (el,q,b)->∀{F0 w0 X W0 W H F w az us},Rel T F0 w0 X W0 W H F w->ConcL W H F az us->a3p T F0 w0 X W0 W H F w f us (d3c el q b H az)
 sp:∀{f k tb te},T.sp f=some (k,tb,te)->∀{F0 w0 X W0 W H F w az us},Rel T F0 w0 X W0 W H F w->ConcL W H F az us->a3p T F0 w0 X W0 W H F w f us (spO k tb te H az)
end
section
variable{P:Program}{T:Ty P}{n:Nat}{F0:Frz}{w0:World}{X:List Nat}{W0 W:List OE}{H:DH}{F F1:Frz}{e:DE}{a:Act}{w:World}
variable{dst:Option Tmp}{type:TypeId}{pos:String}{after:Array Edge}{guard:Option (Nat×Bool)}
theorem Rel.start(hs:Sat F w)(hg:GlR T F):Rel T F w [] [] [] [] F w:=by
 refine⟨rfl,fun i b e h=>by simp at h,⟨hs,Frz.refl F,fun b h=> .inl h,by simp [ownW],by simp [ownW],List.Pairwise.nil,rfl,rfl,rfl,Nat.le_refl _,fun _ _ _=>rfl⟩,hg,fun i e h=>by simp at h⟩
theorem HD.grown(h:HD F0 w0 [] F (ownW H W) w):w0.grownBy w none:=⟨h.os,h.tape,h.output,h.size,fun b hb _=>h.old b hb (by simp)⟩
mutual
theorem c2z{F1 F2:Frz}:∀{x:VT}{v:Value},flatV x=true->VR F1 x v->VR F2 x v
 | .int _ _,v,_,h=>h
 | .bool _,v,_,h=>h
 | .str _,v,_,h=>h
 | .agg l,v,hf,⟨cs,h1,h2,h3⟩=>⟨cs,h1,b7x (by simpa [flatV]using hf) h2,h3⟩
 | .val _,v,_,h=>h
 | .ifc,v,_,h=>h
 | .sl _,v,hf,_=>by simp [flatV]at hf
 | .el _ _,v,hf,_=>by simp [flatV]at hf
 | .clo _ _ _,v,hf,_=>by simp [flatV]at hf
theorem b7x{F1 F2:Frz}:∀{l:List VT}{cs:List Value},flatVL l=true->VRL F1 l cs->VRL F2 l cs
 | [],cs,_,h=>h
 |x::l,cs,hf,⟨v,r,h1,h2,h3⟩=>by
  simp only [flatVL]at hf;split at hf
  ·rename_i hx;exact⟨v,r,h1,c2z hx h2,b7x hf h3⟩
  cases hf
 end
mutual
theorem c6k{W1 W2:List OE}{H1 H2:DH}{F1 F2:Frz}:∀{x:DV}{v:Value},flatD x=true->Conc W1 H1 F1 x v->Conc W2 H2 F2 x v
 | .v x,v,hf,h=>c2z hf h
 | .lit _,v,_,h=>h
 | .agg l,v,hf,⟨cs,h1,h2,h3⟩=>⟨cs,h1,b7f (by simpa [flatD]using hf) h2,h3⟩
 | .tup l,v,hf,⟨cs,h1,h2⟩=>⟨cs,h1,b7f (by simpa [flatD]using hf) h2⟩
 | .nil,v,hf,_=>by simp [flatD]at hf
 | .any,v,hf,_=>by simp [flatD]at hf
 | .clo _ _ _,v,hf,_=>by simp [flatD]at hf
 | .row _ _,v,hf,_=>by simp [flatD]at hf
 | .win _ _ _ _,v,hf,_=>by simp [flatD]at hf
 | .bp _ _,v,hf,_=>by simp [flatD]at hf
 | .rp _ _ _ _ _ _,v,hf,_=>by simp [flatD]at hf
 | .mr _,v,hf,_=>by simp [flatD]at hf
theorem b7f{W1 W2:List OE}{H1 H2:DH}{F1 F2:Frz}:∀{l:List DV}{cs:List Value},flatL l=true->ConcL W1 H1 F1 l cs->ConcL W2 H2 F2 l cs
 | [],cs,_,h=>h
 |x::l,cs,hf,⟨v,r,h1,h2,h3⟩=>by
  simp only [flatL]at hf;split at hf
  ·rename_i hx;exact⟨v,r,h1,c6k hx h2,b7f hf h3⟩
  cases hf
 end
theorem Rel.grow(h:Rel T F0 w0 X W0 W H F w){w':World}(hg:w.grownBy w' none):Rel T F0 w0 X W0 W H F w':=⟨h.len,h.blk,h.hd.grow hg,h.gl,h.lent⟩
mutual
theorem c0r{A:List OE}{B:DH}{k:Nat}(hk:W.length=k)(hk2:H.length=k):∀{x:DV}{v:Value},Conc A B F x v->Conc (W++A) (H++B.map (shB k)) F (shD k x) v
 | .v x,v,h=>h
 | .lit b,v,h=>h
 | .nil,v,h=>h
 | .any,v,h=>h
 | .agg l,v,⟨cs,h1,h2,h3⟩=>⟨cs,h1,a6z hk hk2 h2,h3⟩
 | .tup l,v,⟨cs,h1,h2⟩=>⟨cs,h1,a6z hk hk2 h2⟩
 | .clo f p l,v,⟨ps,cs,h1,h2,h3⟩=>⟨ps,cs,h1,a6z hk hk2 h2,a6z hk hk2 h3⟩
 | .row i ver,v,⟨a,m,n,h0,b,e,h1,h2,h3,h4⟩=>⟨a,m,n,h0,shB k b,e,by rw [<-hk2,List.getElem?_append_right (by omega)];simp [h1],by rw [<-hk,List.getElem?_append_right (by omega)];simpa using h2,h3,h4⟩
 | .win i ver lo len,v,⟨a,n,h0,b,e,h1,h2,h3,h4⟩=>⟨a,n,h0,shB k b,e,by rw [<-hk2,List.getElem?_append_right (by omega)];simp [h1],by rw [<-hk,List.getElem?_append_right (by omega)];simpa using h2,h3,h4⟩
 | .bp i o,v,⟨g,t,us,h1,h2⟩=>⟨g,t,us,by rw [<-hk,List.getElem?_append_right (by omega)];simpa using h1,h2⟩
 | .rp i ver st j o x,v,⟨g,p,h0,b,e,h1,h2,h3,h4⟩=>⟨g,p,h0,shB k b,e,by rw [<-hk2,List.getElem?_append_right (by omega)];simp [h1],by rw [<-hk,List.getElem?_append_right (by omega)];simpa using h2,h3,fun hv=>by
    obtain⟨el,q,m,n,us,e1,e2,e3,e4,e5⟩:=h4 hv;refine⟨el,q,m,n,us,e1,e2,e3,e4,fun hs y hy=> ?_⟩;cases x with
    |none=>simp [shO]at hy
    |some z=>
     simp only [shO,Option.some.injEq]at hy;subst hy;have h6:=e5 hs z rfl;obtain⟨bv,bs,bz,bd,ba,bo⟩:=b;show elemO (shOb k bo) j=_;cases bo with
     |box t cs=>simp [elemO]at h6
     |row el' q' xs=>
      simp only [elemO,Option.map_eq_some_iff]at h6;obtain⟨y,h7,rfl⟩:=h6;simp [shOb,elemO,h7,shD]
     |nest el' q' xs=>
      simp only [elemO]at h6;simp only [shOb,elemO];exact d4d h6
     |mp es=>simp [elemO]at h6⟩
 | .mr i,v,⟨g,es,c,h1,h2⟩=>⟨g,es,c,by rw [<-hk,List.getElem?_append_right (by omega)];simpa using h1,h2⟩
theorem a6z{A:List OE}{B:DH}{k:Nat}(hk:W.length=k)(hk2:H.length=k):∀{l:List DV}{cs:List Value},ConcL A B F l cs->ConcL (W++A) (H++B.map (shB k)) F (shL k l) cs
 | [],cs,h=>h
 |x::l,cs,⟨v,r,h1,h2,h3⟩=>⟨v,r,h1,c0r hk hk2 h2,a6z hk hk2 h3⟩
theorem d4d{k:Nat}:∀{xs:List DV}{j:Nat}{z:DV},xs[j]?=some z->(shL k xs)[j]?=some (shD k z)
 | [],j,z,h=>by simp at h
 |x::xs,0,z,h=>by simp at h;subst h;simp [shL]
 |x::xs,j+1,z,h=>by simpa [shL]using d4d (xs:=xs) (j:=j) (by simpa using h)
 end
end
set_option linter.unusedVariables false
set_option linter.unusedSimpArgs false
section
variable{P:Program}{T:Ty P}{n:Nat}{F0:Frz}{w0:World}{X:List Nat}{W0 W:List OE}{H:DH}{F F1:Frz}{e:DE}{a:Act}{w:World}
variable{dst:Option Tmp}{type:TypeId}{pos:String}{after:Array Edge}{guard:Option (Nat×Bool)}
theorem c4e{A:List OE}{B:DH}{k q:Nat}(hk:W.length=k)(hk2:H.length=k):∀{l:List DV}{cs:List Value},ConcX A B F q l cs->ConcX (W++A) (H++B.map (shB k)) F q (shL k l) cs
 | [],cs,h=>h
 |x::l,cs,⟨v,r,h1,h0,h2,h3⟩=>⟨v,r,h1,h0,c0r hk hk2 h2,c4e hk hk2 h3⟩
theorem d0f{k:Nat}:∀{xs:List DV},(shL k xs).length=xs.length
 | []=>rfl
 |x::xs=>by simp [shL,d0f (xs:=xs)]
theorem e5g{A:List OE}{B:DH}{k:Nat}(hk:W.length=k)(hk2:H.length=k){o:Ob}{e:OE}(h:RelO A B F o e):RelO (W++A) (H++B.map (shB k)) F (shOb k o) e:=by
 cases o with
 |box t cs=>obtain⟨g,us,h1,h2,h3⟩:=h;exact⟨g,us,h1,a6z hk hk2 h2,h3⟩
 |row el q xs=>exact h
 |nest el q xs=>obtain⟨a,m,n,us,h1,h2,h3⟩:=h;exact⟨a,m,n,us,h1,by rw [d0f];exact h2,c4e hk hk2 h3⟩
 |mp es=>exact h
theorem b8w{k:Nat}:∀{H:DH}{W A:List OE}{B:DH},H.length=W.length->ownW (H++B.map (shB k)) (W++A)=ownW H W++ownW B A
 | [],[],A,B,_=>by
   simp only [List.nil_append,ownW];induction B generalizing A with
   |nil=>cases A<;>rfl
   |cons b B ih=>
    cases A with
    |nil=>rfl
    |cons e A=>simp only [List.map_cons,ownW,shB,ih]
 | [],_::_,_,_,h=>by simp at h
 |_::_,[],_,_,h=>by simp at h
 |b::H,e::W,A,B,h=>by simp only [List.cons_append,ownW];rw [b8w (by simpa using h)]
theorem d6d(hl:H.length=W.length)(hp:∀(i:Nat)e,W[i]?=some e->plainE e=true){F':Frz}(hF:F.le F')(A:List OE)(B:DH):Ext W H F (W++A) (H++B) F':=by
 refine⟨hF,fun i b e h1 h2=>⟨b,e,?_,?_,Nat.le_refl _,fun _=>⟨a0k (hp i e h2),Nat.le_refl _,fun _ _=>rfl⟩,fun g t us he=>a0k (hp i e h2),fun g es c he=>a0k (hp i e h2)⟩,fun i e h1=> ?_⟩
 ·rw [List.getElem?_append_left (List.getElem?_eq_some_iff.1 h1).1];exact h1
 ·rw [List.getElem?_append_left (List.getElem?_eq_some_iff.1 h2).1];exact h2
 have:=(List.getElem?_eq_some_iff.1 h1).1;exact⟨_,List.getElem?_eq_getElem (by omega)⟩
theorem HD.join{O A:List OE}(h:HD F0 w0 X F O w){F':Frz}{w':World}(k:HD F w [] F' A w'):HD F0 w0 X F' (O++A) w':=by
 have hg:w.grownBy w' none:=⟨k.os,k.tape,k.output,k.size,fun b hb _=>k.old b hb (by simp)⟩
 have hlt:∀e∈O,∀b,e.blk=some b->b<w.heap.size:=fun e he b hb=>OE.lt (h.own e he) hb;have hge:∀e∈A,∀b,e.blk=some b->w.heap.size<=b:=fun e he b hb=>by simpa using(k.sep e he b hb).2
 refine⟨k.sat,h.le.trans k.le,fun b hb=> ?_,fun e he=> ?_,fun e he b hb=> ?_,?_,k.os.trans h.os,k.tape.trans h.tape,k.output.trans h.output,Nat.le_trans h.size k.size,fun b hb hx=> ?_⟩
 ·rcases k.new b hb with h1|h1|h1
  ·exact h.new b h1
  ·exact .inr (.inl (Nat.le_trans h.size h1))
  simp at h1
 ·rcases List.mem_append.1 he with he|he
  ·exact OE.kept (h.own e he) hg (by simp)
  exact k.own e he
 ·rcases List.mem_append.1 he with he|he
  ·obtain⟨h1,h2⟩:=h.sep e he b hb;refine⟨?_,h2⟩;cases hf:F' b with
   |none=>rfl
   |some o=>
    rcases k.new b (by simp [hf])with h3|h3|h3
    ·exact absurd h1 h3
    ·have:=hlt e he b hb;omega
    simp at h3
  exact⟨(k.sep e he b hb).1,.inl (Nat.le_trans h.size (hge e he b hb))⟩
 ·refine List.pairwise_append.2 ⟨h.dis,k.dis,fun e1 h1 e2 h2 b hb1 hb2=> ?_⟩;have:=hlt e1 h1 b hb1;have:=hge e2 h2 b hb2;omega
 rw [k.old b (Nat.lt_of_lt_of_le hb h.size) (by simp)];exact h.old b hb hx
theorem Rel.join(h:Rel T F0 w0 X W0 W H F w){Wr:List OE}{Hr:DH}{F':Frz}{w':World}(k:Rel T F w [] [] Wr Hr F' w'):Rel T F0 w0 X W0 (W++Wr) (H++Hr.map (shB H.length)) F' w'/\Ext W H F (W++Wr) (H++Hr.map (shB H.length)) F':=by
 have hx:=d6d h.len (fun i e h1=>h.plain h1) k.hd.le Wr (Hr.map (shB H.length));refine⟨⟨?_,fun i b e h1 h2=> ?_,?_,k.gl,fun i e0 h0=> ?_⟩,hx⟩
 ·have:=h.len;have:=k.len;simp;omega
 ·by_cases hi:i<H.length
  ·have hi2:i<W.length:=h.len▸hi;rw [List.getElem?_append_left hi]at h1;rw [List.getElem?_append_left hi2]at h2;obtain⟨h3,h4⟩:=h.blk i b e h1 h2;exact⟨h3.ext hx,fun hz=>(h4 hz).mono k.hd.le⟩
  have hi2:¬i<W.length:=h.len▸hi;rw [List.getElem?_append_right (by omega),List.getElem?_map]at h1;rw [List.getElem?_append_right (by omega),<-h.len]at h2;cases hb:Hr[i-H.length]? with
  |none=>simp [hb]at h1
  |some b1=>
   rw [hb]at h1;simp only [Option.map_some,Option.some.injEq]at h1;subst h1;obtain⟨h3,h4⟩:=k.blk _ b1 e hb h2;exact⟨e5g h.len.symm rfl h3,h4⟩
 ·rw [b8w h.len];exact h.hd.join k.hd
 obtain⟨b,e,h1,h2,h3⟩:=h.lent i e0 h0;refine⟨b,e,?_,?_,h3⟩
 ·rw [List.getElem?_append_left (List.getElem?_eq_some_iff.1 h1).1];exact h1
 rw [List.getElem?_append_left (List.getElem?_eq_some_iff.1 h2).1];exact h2
theorem b5a(hR:Rel T F0 w0 X W0 W H F w){H1:DH}(hR1:Rel T F0 w0 X W0 W H1 F1 w)(hx:Ext W H F W H1 F1){f:FuncId}{vs:List VT}{us:List Value}(hv:VRL F1 vs us){rd wr:List Nat}:
 a3p T F0 w0 X W0 W H F w f us (d0y H f vs H1 rd wr):=by
 intro r Hr q hf hk;obtain⟨he,hz,hf⟩:=hf;dsimp only at hk;rw [a1d]at hk;cases hk;refine⟨he,(hf w F1 [] [] us (Rel.start hR1.hd.sat hR1.gl) (concL_v.1 hv)).mono ?_⟩;rintro x w' ⟨v,F',Wr,rfl,hr,hc⟩;obtain⟨h1,h2⟩:=hR1.join hr;exact⟨v,rfl,W++Wr,F',h1,hx.trans h2,_,rfl,c0r hR1.len.symm rfl hc⟩
theorem c7a(hR:Rel T F0 w0 X W0 W H F w){H1:DH}(hR1:Rel T F0 w0 X W0 W H1 F1 w){f:FuncId}{vs:List VT}{us:List Value}(hv:VRL F1 vs us):
 a3p T F0 w0 X W0 W H F w f us (.pcall true f vs):=by
 intro r Hr q hf hk;obtain⟨he,hz,hf⟩:=hf;simp only [resP]at hk;split at hk
 ·rename_i hfl;cases hk;refine⟨he,(hf w F1 [] [] us (Rel.start hR1.hd.sat hR1.gl) (concL_v.1 hv)).mono ?_⟩;rintro x w' ⟨v,F',Wr,rfl,hr,hc⟩;exact⟨v,rfl,W,F,hR.grow hr.hd.grown,hR.refl,r,rfl,c6k hfl hc⟩
 cases hk
theorem d7g(hR:Rel T F0 w0 X W0 W H F w){f:FuncId}{az:List DV}{us:List Value}(hc:ConcL W H F az us):a3p T F0 w0 X W0 W H F w f us (e7c T f az H):=by
 unfold e7c;split
 ·split
  ·rename_i vs is hr;obtain⟨F1,h1,h2,h3,h4⟩:=hR.mark (is:=is) fun i hi o ho=>a1l hR hr i hi o ho;have hv:=a4f hR h1 hr hc h3;exact c7a hR h2 hv
  trivial
 split
 ·rename_i vs is hr;obtain⟨F1,h1,h2,h3,h4⟩:=hR.mark (is:=is) fun i hi o ho=>a1l hR hr i hi o ho;have hv:=a4f hR h1 hr hc h3;split
  ·exact b5a (rd:= []) (wr:= []) hR h2 h4 hv
  exact b5a hR h2 h4 hv
 trivial
theorem b8p{c:Operand}{l:List Operand}{ts:Array TypeId}{f:FuncId}{ps cs:List Value}(he:Ent P f)(hc:a.eval c= .func (.func f) ps.toArray cs.toArray):
 (execOp a.eval ⟨dst,.call ⟨.value c,l.toArray,ts⟩,type,pos,after,guard⟩).run P w= .ok (.enter f (ps++l.map a.eval++cs).toArray) w:=by
 have e:=he ((ps++l.map a.eval++cs).toArray) w;simp [execOp,resolve,invoke,Deferred.ofValue,hc];simpa using e
end
set_option linter.unusedVariables false
set_option linter.unusedSimpArgs false
theorem a8k{H:DH}:∀{f:Nat}{l seen sel:List Nat},a4t H f l seen=some sel->seen.Nodup->(∀i∈seen,i<H.length)->sel.Nodup/\∀i∈sel,i<H.length
 |f,[],seen,sel,h,h1,h2=>by cases f<;>simp only [a4t,Option.some.injEq]at h<;>subst h<;>exact⟨h1,h2⟩
 |0,_::_,_,_,h,_,_=>by simp [a4t]at h
 |f+1,i::l,seen,sel,h,h1,h2=>by
  simp only [a4t]at h;split at h
  ·exact a8k h h1 h2
  rename_i hm;have hm:=c1f hm;split at h
  ·rename_i b hb;rw [a0j]at hb;have h3:(snoc i seen).Nodup:=by
    rw [a1j];exact(List.nodup_append.2 ⟨h1,by simp,fun a ha b hb=>by simp only [List.mem_singleton]at hb;subst hb;exact fun e=>hm (e▸ha)⟩)
   have h4:∀k∈snoc i seen,k<H.length:=by
    intro k hk;rw [a1j]at hk;rcases List.mem_append.1 hk with hk|hk
    ·exact h2 k hk
    simp only [List.mem_singleton]at hk;subst hk;exact(List.getElem?_eq_some_iff.1 hb).1
   split at h
   ·exact a8k h h3 h4
   exact a8k h h3 h4
  cases h
theorem b5g{i:Nat}:∀{l:List Nat}{n j:Nat},posN i l n=some j->∃k,j=n+k/\l[k]?=some i
 | [],n,j,h=>by simp [posN]at h
 |x::l,n,j,h=>by
  simp only [posN]at h;split at h
  ·rename_i hb;cases h;exact⟨0,rfl,by simp [Nat.eq_of_beq_eq_true hb]⟩
  obtain⟨k,h1,h2⟩:=b5g h;exact⟨k+1,by omega,by simpa using h2⟩
theorem c0q{H:DH}{sel:List Nat}:∀{l:List Nat},(∀i∈l,i<H.length)->(selH H sel l).length=l.length/\∀(j i:Nat)b,l[j]?=some i->H[i]?=some b->(selH H sel l)[j]?=some {b with ver:=0,st:=0,ob:=renB H sel 0 b.ob}
 | [],_=>⟨rfl,fun j i b h=>by simp at h⟩
 |k::l,h=>by
  have hk:k<H.length:=h k (by simp);obtain⟨h1,h2⟩:=c0q (sel:=sel) (l:=l) fun i hi=>h i (by simp [hi]);have hb:getN H k=some H[k]:=by rw [a0j];exact List.getElem?_eq_getElem hk
  simp only [selH,hb];refine⟨by simp [h1],fun j i b hj hi=> ?_⟩;cases j with
  |zero=>
   simp at hj;subst hj;rw [List.getElem?_eq_getElem hk]at hi;cases hi;rfl
  |succ j=>simpa using h2 j i b (by simpa using hj) hi
theorem b5u{H:DH}{sel:List Nat}:∀{l:List Nat}{b:Blk},b∈selH H sel l->b.ver=0/\b.st=0
 | [],b,h=>by simp [selH]at h
 |k::l,b,h=>by
  simp only [selH]at h;split at h
  ·rcases List.mem_cons.1 h with rfl|h
   ·exact⟨rfl,rfl⟩
   exact b5u h
  exact b5u h
theorem clean_eq:∀(H:DH),clean H=H.map fun b=>{b with dr:=false,ap:=false}
 | []=>rfl
 |b::l=>by simp [clean,clean_eq l]
theorem a0x{α:Type}{g:Nat->α->α}:∀{l:List Nat}{j:Nat}{R:List α},(a2h g j l R).length=R.length
 | [],j,R=>rfl
 |i::l,j,R=>by
  simp only [a2h];split
  ·rw [a0x,a1a,List.length_set]
  exact a0x
theorem a2s{α:Type}{g:Nat->α->α}{i:Nat}:∀{l:List Nat}{j:Nat}{R:List α},i∉l->(a2h g j l R)[i]?=R[i]?
 | [],j,R,_=>rfl
 |k::l,j,R,h=>by
  simp only [List.mem_cons,not_or]at h;simp only [a2h];split
  ·rw [a2s h.2,a1a,List.getElem?_set_ne (fun e=>h.1 e.symm)]
  exact a2s h.2
theorem a6h{α:Type}{g:Nat->α->α}{i:Nat}:∀{l:List Nat}{j k:Nat}{R:List α},l.Nodup->l[k]?=some i->(a2h g j l R)[i]?=(R[i]?).map (g (j+k))
 | [],j,k,R,_,h=>by simp at h
 |x::l,j,k,R,hn,h=>by
  obtain⟨hx,hn⟩:=List.nodup_cons.1 hn;simp only [a2h,a0j,a1a];cases k with
  |zero=>
   simp at h;subst h;split
   ·rename_i b0 hb;rw [a2s hx,hb,List.getElem?_set_self (List.getElem?_eq_some_iff.1 hb).1];rfl
   rename_i hb;rw [a2s hx,hb];rfl
  |succ k=>
   have h2:l[k]?=some i:=by simpa using h
   have hne:x≠i:=fun e=>hx (e▸List.mem_of_getElem? h2);have e1:j+(k+1)=j+1+k:=by omega
   split
   ·rw [a6h hn h2,List.getElem?_set_ne hne,e1]
   rw [a6h hn h2,e1]
section
variable{W W1:List OE}{H H1:DH}{F:Frz}{sel:List Nat}
def Ren(W:List OE)(H:DH)(sel:List Nat)(W1:List OE)(H1:DH):Prop:= (∀(i:Nat)e,W[i]?=some e->∃b,H[i]?=some b)/\∀(k i:Nat)b e,sel[k]?=some i->H[i]?=some b->W[i]?=some e->W1[k]?=some e/\∃b1,H1[k]?=some b1/\b1.ver=0/\b1.st=0/\b1.ob=renB H sel 0 b.ob
theorem c3b{base:Nat}:∀{xs:List DV}{j:Nat}{z:DV},xs[j]?=some z->(renL H sel base xs)[j]?=some (renD H sel base z)
 | [],j,z,h=>by simp at h
 |x::xs,0,z,h=>by simp at h;subst h;simp [renL]
 |x::xs,j+1,z,h=>by simpa [renL]using c3b (xs:=xs) (j:=j) (by simpa using h)
theorem c5h{base:Nat}:∀{xs:List DV},(renL H sel base xs).length=xs.length
 | []=>rfl
 |x::xs=>by simp [renL,c5h (xs:=xs)]
theorem HdI.ren(hK:Ren W H sel W1 H1){i j ver:Nat}{p p':Blk->OE->Prop}(hi:HdI W H i ver p){b:Blk}(hb:getN H i=some b)(hj:posN i sel 0=some j)(hv:Nat.beq ver b.ver=true)
 (hp:∀e b1,W[i]?=some e->p b e->b1.ver=0->b1.st=0->b1.ob=renB H sel 0 b.ob->p' b1 e):HdI W1 H1 j 0 p':=by
 obtain⟨b',e,h1,h2,h3,h4⟩:=hi;rw [a0j]at hb;rw [hb]at h1;cases h1;obtain⟨k,h5,h6⟩:=b5g hj;obtain rfl:j=k:=by omega
 obtain⟨g1,b1,g2,g3,g4,g5⟩:=hK.2 _ i b e h6 hb h2;exact⟨b1,e,g2,g1,Nat.zero_le _,fun _=>hp e b1 h2 (h4 (Nat.eq_of_beq_eq_true hv)) g3 g4 g5⟩
mutual
theorem b1d(hK:Ren W H sel W1 H1):∀{x:DV}{v:Value},Conc W H F x v->Conc W1 H1 F (renD H sel 0 x) v
 | .v x,v,h=>h
 | .lit b,v,h=>h
 | .nil,v,h=>h
 | .any,v,h=>h
 | .agg l,v,⟨cs,h1,h2,h3⟩=>⟨cs,h1,a3t hK h2,h3⟩
 | .tup l,v,⟨cs,h1,h2⟩=>⟨cs,h1,a3t hK h2⟩
 | .clo f p l,v,⟨ps,cs,h1,h2,h3⟩=>⟨ps,cs,h1,a3t hK h2,a3t hK h3⟩
 | .row i ver,v,⟨a,m,n,h0,h1⟩=>by
   simp only [renD];split
   ·rename_i b j hb hj;split
    ·rename_i hv;refine⟨a,m,n,h0,h1.ren hK hb hj hv ?_⟩;rintro e b1 he ⟨el,q,us,rfl⟩ _ _ _;exact⟨el,q,us,rfl⟩
    subst h0;rfl
   subst h0;rfl
 | .win i ver lo len,v,⟨a,n,h0,h1⟩=>by
   simp only [renD];split
   ·rename_i b j hb hj;split
    ·rename_i hv;refine⟨a,n,h0,h1.ren hK hb hj hv ?_⟩;intro e b1 he hp _ _ _;exact hp
    subst h0;rfl
   subst h0;rfl
 | .bp i o,v,⟨g,t,us,h1,h2⟩=>by
   simp only [renD];split
   ·rename_i j hj;obtain⟨k,h5,h6⟩:=b5g hj;obtain rfl:j=k:=by omega
    obtain⟨b,hb⟩:=hK.1 i _ h1;obtain⟨g1,_⟩:=hK.2 _ i b _ h6 hb h1;exact⟨g,t,us,g1,h2⟩
   subst h2;rfl
 | .rp i ver st k o x,v,⟨g,p,h0,h1⟩=>by
   simp only [renD];split
   ·rename_i b j hb hj;split
    ·rename_i hv;refine⟨g,p,h0,h1.ren hK hb hj hv ?_⟩;rintro e b1 he ⟨el,q,m,n,us,rfl,h2,h3,h4,h5⟩ e1 e2 e3;refine⟨el,q,m,n,us,rfl,h2,h3,Nat.zero_le _,fun _ y hy=> ?_⟩;split at hy
     ·rename_i hs;cases x with
      |none=>simp [renO]at hy
      |some z=>
       simp only [renO,Option.some.injEq]at hy;subst hy;have h6:=h5 (Nat.eq_of_beq_eq_true hs) z rfl;rw [e3];cases hob:b.ob with
       |box t cs=>rw [hob]at h6;simp [elemO]at h6
       |row el' q' xs=>
        rw [hob]at h6;simp only [elemO,Option.map_eq_some_iff]at h6;obtain⟨y,h7,rfl⟩:=h6;simp [renB,elemO,h7,renD]
       |nest el' q' xs=>
        rw [hob]at h6;simp only [elemO]at h6;simp only [renB,elemO];exact c3b h6
       |mp es=>rw [hob]at h6;simp [elemO]at h6
     cases hy
    subst h0;rfl
   subst h0;rfl
 | .mr i,v,⟨g,es,c,h1,h2⟩=>by
   simp only [renD];split
   ·rename_i j hj;obtain⟨k,h5,h6⟩:=b5g hj;obtain rfl:j=k:=by omega
    obtain⟨b,hb⟩:=hK.1 i _ h1;obtain⟨g1,_⟩:=hK.2 _ i b _ h6 hb h1;exact⟨g,es,c,g1,h2⟩
   subst h2;rfl
theorem a3t(hK:Ren W H sel W1 H1):∀{l:List DV}{cs:List Value},ConcL W H F l cs->ConcL W1 H1 F (renL H sel 0 l) cs
 | [],cs,h=>h
 |x::l,cs,⟨v,r,h1,h2,h3⟩=>⟨v,r,h1,b1d hK h2,a3t hK h3⟩
 end
theorem b9y(hK:Ren W H sel W1 H1){q:Nat}:∀{l:List DV}{cs:List Value},ConcX W H F q l cs->ConcX W1 H1 F q (renL H sel 0 l) cs
 | [],cs,h=>h
 |x::l,cs,⟨v,r,h1,h0,h2,h3⟩=>⟨v,r,h1,h0,b1d hK h2,b9y hK h3⟩
theorem c5a(hK:Ren W H sel W1 H1){o:Ob}{e:OE}(h:RelO W H F o e):RelO W1 H1 F (renB H sel 0 o) e:=by
 cases o with
 |box t cs=>obtain⟨g,us,h1,h2,h3⟩:=h;exact⟨g,us,h1,a3t hK h2,h3⟩
 |row el q xs=>exact h
 |nest el q xs=>obtain⟨a,m,n,us,h1,h2,h3⟩:=h;exact⟨a,m,n,us,h1,by rw [c5h];exact h2,b9y hK h3⟩
 |mp es=>exact h
def Bk(Wr:List OE)(Hr R:DH)(sel:List Nat)(m h:Nat)(W1:List OE)(H1:DH):Prop:= (∀(i:Nat)e,Wr[i]?=some e->∃b,Hr[i]?=some b)/\∀(j:Nat)b e,Hr[j]?=some b->Wr[j]?=some e->b.ver=0/\b.st=0/\∃i b1,bkI sel m h j=some i/\H1[i]?=some b1/\W1[i]?=some e/\b1.ob=bkOb R sel m h b.ob/\b1.ver=verN R i/\b1.st=stN R i
variable{Wr:List OE}{Hr R:DH}{m h:Nat}
theorem bkL_get:∀{xs:List DV}{j:Nat}{z:DV},xs[j]?=some z->(bkL R sel m h xs)[j]?=some (bkD R sel m h z)
 | [],j,z,hx=>by simp at hx
 |x::xs,0,z,hx=>by simp at hx;subst hx;simp [bkL]
 |x::xs,j+1,z,hx=>by simpa [bkL]using bkL_get (xs:=xs) (j:=j) (by simpa using hx)
theorem bkL_len:∀{xs:List DV},(bkL R sel m h xs).length=xs.length
 | []=>rfl
 |x::xs=>by simp [bkL,bkL_len (xs:=xs)]
theorem HdI.bk(hK:Bk Wr Hr R sel m h W1 H1){j ver:Nat}{p p':Blk->OE->Prop}(hi:HdI Wr Hr j ver p)
 (hp:∀b e b1 i,p b e->b.st=0->b1.ob=bkOb R sel m h b.ob->b1.st=stN R i->bkI sel m h j=some i->p' b1 e):∃i,bkI sel m h j=some i/\HdI W1 H1 i (verN R i) p':=by
 obtain⟨b,e,h1,h2,h3,h4⟩:=hi;obtain⟨k1,k2,i,b1,k3,k4,k5,k6,k7,k8⟩:=hK.2 j b e h1 h2;exact⟨i,k3,b1,e,k4,k5,by omega,fun _=>hp b e b1 i (h4 (by omega)) k2 k6 k8 k3⟩
mutual
theorem c1y(hK:Bk Wr Hr R sel m h W1 H1):∀{x:DV}{v:Value},Conc Wr Hr F x v->Conc W1 H1 F (bkD R sel m h x) v
 | .v x,v,hc=>hc
 | .lit b,v,hc=>hc
 | .nil,v,hc=>hc
 | .any,v,hc=>hc
 | .agg l,v,⟨cs,h1,h2,h3⟩=>⟨cs,h1,a7b hK h2,h3⟩
 | .tup l,v,⟨cs,h1,h2⟩=>⟨cs,h1,a7b hK h2⟩
 | .clo f p l,v,⟨ps,cs,h1,h2,h3⟩=>⟨ps,cs,h1,a7b hK h2,a7b hK h3⟩
 | .row i ver,v,⟨a,m',n,h0,h1⟩=>by
   obtain⟨j,hj,h2⟩:=h1.bk hK (p':=fun b e=>∃el q us,e= .row el q a m' n us) (fun b e b1 j hp _ _ _ _=>hp);simp only [bkD,hj];exact⟨a,m',n,h0,h2⟩
 | .win i ver lo len,v,⟨a,n,h0,h1⟩=>by
   obtain⟨j,hj,h2⟩:=h1.bk hK (p':=fun b e=>∃el q a0 m' n0 us,e= .row el q a0 m' n0 us/\SubR q a0 m' n0 lo (lo+len) a len n) (fun b e b1 j hp _ _ _ _=>hp);simp only [bkD,hj];exact⟨a,n,h0,h2⟩
 | .bp i o,v,⟨g,t,us,h1,h2⟩=>by
   obtain⟨b,hb⟩:=hK.1 i _ h1;obtain⟨_,_,j,b1,k3,k4,k5,_⟩:=hK.2 i b _ hb h1;simp only [bkD,k3];exact⟨g,t,us,k5,h2⟩
 | .rp i ver st k o x,v,⟨g,p,h0,h1⟩=>by
   obtain⟨j,hj,b1,e1,k1,k2,k3,k4⟩:=h1.bk hK (p':=fun b e=>∃el q m' n us,e= .row el q (some ⟨g,0,none⟩) m' n us/\k<m'/\p=k*q/\(bkI sel m h i=some (bkI sel m h i|>.getD 0))/\stN R ((bkI sel m h i).getD 0)<=b.st/\(stN R ((bkI sel m h i).getD 0)=b.st->∀y,bkO R sel m h x=some y->elemO b.ob k=some y)) (by
    rintro b e b1 j ⟨el,q,m',n,us,rfl,h2,h3,h4,h5⟩ e1 e2 e3 e4;refine⟨el,q,m',n,us,rfl,h2,h3,by rw [e4];rfl,by rw [e4,e3];exact Nat.le_refl _,fun _ y hy=> ?_⟩;cases x with
    |none=>simp [bkO]at hy
    |some z=>
     simp only [bkO,Option.some.injEq]at hy;subst hy;have h6:=h5 (by omega) z rfl;rw [e2];cases hob:b.ob with
     |box t cs=>rw [hob]at h6;simp [elemO]at h6
     |row el' q' xs=>
      rw [hob]at h6;simp only [elemO,Option.map_eq_some_iff]at h6;obtain⟨y,h7,rfl⟩:=h6;simp [bkOb,elemO,h7,bkD]
     |nest el' q' xs=>
      rw [hob]at h6;simp only [elemO]at h6;simp only [bkOb,elemO];exact bkL_get h6
     |mp es=>rw [hob]at h6;simp [elemO]at h6)
   simp only [bkD,hj];refine⟨g,p,h0,b1,e1,k1,k2,k3,fun hv=> ?_⟩;obtain⟨el,q,m',n,us,g1,g2,g3,_,g4,g5⟩:=k4 hv;rw [hj]at g4 g5;exact⟨el,q,m',n,us,g1,g2,g3,g4,g5⟩
 | .mr i,v,⟨g,es,c,h1,h2⟩=>by
   obtain⟨b,hb⟩:=hK.1 i _ h1;obtain⟨_,_,j,b1,k3,k4,k5,_⟩:=hK.2 i b _ hb h1;simp only [bkD,k3];exact⟨g,es,c,k5,h2⟩
theorem a7b(hK:Bk Wr Hr R sel m h W1 H1):∀{l:List DV}{cs:List Value},ConcL Wr Hr F l cs->ConcL W1 H1 F (bkL R sel m h l) cs
 | [],cs,hc=>hc
 |x::l,cs,⟨v,r,h1,h2,h3⟩=>⟨v,r,h1,c1y hK h2,a7b hK h3⟩
 end
theorem c5f(hK:Bk Wr Hr R sel m h W1 H1){q:Nat}:∀{l:List DV}{cs:List Value},ConcX Wr Hr F q l cs->ConcX W1 H1 F q (bkL R sel m h l) cs
 | [],cs,hc=>hc
 |x::l,cs,⟨v,r,h1,h0,h2,h3⟩=>⟨v,r,h1,h0,c1y hK h2,c5f hK h3⟩
theorem e3n(hK:Bk Wr Hr R sel m h W1 H1){o:Ob}{e:OE}(hc:RelO Wr Hr F o e):RelO W1 H1 F (bkOb R sel m h o) e:=by
 cases o with
 |box t cs=>obtain⟨g,us,h1,h2,h3⟩:=hc;exact⟨g,us,h1,a7b hK h2,h3⟩
 |row el q xs=>exact hc
 |nest el q xs=>obtain⟨a,m',n,us,h1,h2,h3⟩:=hc;exact⟨a,m',n,us,h1,by rw [bkL_len];exact h2,c5f hK h3⟩
 |mp es=>exact hc
end
set_option linter.unusedVariables false
set_option linter.unusedSimpArgs false
theorem e4c{e:OE}{w w':World}(h:e.ok w)(hs:∀b,e.blk=some b->w'.heap[b]?=w.heap[b]?):e.ok w':=by
 cases e with
 |box g t cs=>show w'.heap[g]?=_;rw [hs g rfl];exact h
 |row el k a n c xs=>
  refine⟨h.1,?_⟩;rcases h.2 with hn|⟨g,cap,cur,he,hb,hgg,rest⟩
  ·exact .inl hn
  refine .inr ⟨g,cap,cur,he,hb,?_,rest⟩;rw [hs g (by show(Value.slice a n c).ownBlock=_;rw [he];rfl)];exact hgg
 |mp g es clock=>refine⟨?_,h.2⟩;show w'.heap[g]?=_;rw [hs g rfl];exact h.1
 |it g o=>show w'.heap[g]?=_;rw [hs g rfl];exact h
 |win el k a m c pre xs post=>
  obtain⟨h1,h2,h3,h4⟩:=h;refine⟨h1,h2,h3,?_⟩;rcases h4 with h4|⟨g,rfl,h5⟩
  ·exact .inl h4
  by_cases hm:m=0
  ·exact .inl hm
  exact .inr ⟨g,rfl,by rw [hs g (by simp [OE.blk,hm])];exact h5⟩
theorem b5q{W:List OE}:∀{l:List Nat},(∀i∈l,i<W.length)->(Rt.pick W l).length=l.length/\∀(j i:Nat),l[j]?=some i->(Rt.pick W l)[j]?=W[i]?
 | [],_=>⟨rfl,fun j i h=>by simp at h⟩
 |k::l,h=>by
  have hk:k<W.length:=h k (by simp);obtain⟨h1,h2⟩:=b5q (l:=l) fun i hi=>h i (by simp [hi]);simp only [Rt.pick,List.getElem?_eq_getElem hk];refine⟨by simp [h1],fun j i hj=> ?_⟩;cases j with
  |zero=>simp at hj;subst hj;simp [List.getElem?_eq_getElem hk]
  |succ j=>simpa using h2 j i (by simpa using hj)
section
variable{F0 F F':Frz}{w0 w w':World}{X X':List Nat}{O O' A:List OE}{sel:List Nat}
theorem HD.back(h:HD F0 w0 X F O w)(k:HD F w X' F' A w')(hX:∀b∈X',∃i∈sel,∃oe,O[i]?=some oe/\oe.blk=some b)
 {ix:Nat->Option Nat} (hO:∀(i:Nat)oe,O'[i]?=some oe->(i∉sel/\O[i]?=some oe)∨∃j,ix j=some i/\A[j]?=some oe):HD F0 w0 X F' O' w':=by
 have hXb:∀b∈X',b<w.heap.size/\F b=none/\(w0.heap.size<=b∨b∈X):=fun b hb=>by
  obtain⟨i,_,oe,h1,h2⟩:=hX b hb;have hm:=List.mem_of_getElem? h1;exact⟨OE.lt (h.own oe hm) h2,h.sep oe hm b h2⟩
 have hnot:∀i oe,i∉sel->O[i]?=some oe->∀b,oe.blk=some b->b<w.heap.size/\b∉X':=fun i oe hi ho b hb=>by
  refine⟨OE.lt (h.own oe (List.mem_of_getElem? ho)) hb,fun hx=> ?_⟩;obtain⟨i',h0,oe',h1,h2⟩:=hX b hx;exact b0j h.dis ho h1 (fun e=>hi (e▸h0)) hb h2
 refine⟨k.sat,h.le.trans k.le,fun b hb=> ?_,fun e he=> ?_,fun e he b hb=> ?_,?_,k.os.trans h.os,k.tape.trans h.tape,k.output.trans h.output,Nat.le_trans h.size k.size,fun b hb hx=> ?_⟩
 ·rcases k.new b hb with h1|h1|h1
  ·exact h.new b h1
  ·exact .inr (.inl (Nat.le_trans h.size h1))
  exact .inr (hXb b h1).2.2
 ·obtain⟨i,hi⟩:=List.mem_iff_getElem?.1 he;rcases hO i e hi with⟨h1,h2⟩|⟨j,h1,h2⟩
  ·exact e4c (h.own e (List.mem_of_getElem? h2)) fun b hb=>by
    obtain⟨h3,h4⟩:=hnot i e h1 h2 b hb;exact k.old b h3 h4
  exact k.own e (List.mem_of_getElem? h2)
 ·obtain⟨i,hi⟩:=List.mem_iff_getElem?.1 he;rcases hO i e hi with⟨h1,h2⟩|⟨j,h1,h2⟩
  ·obtain⟨h3,h4⟩:=hnot i e h1 h2 b hb;obtain⟨h5,h6⟩:=h.sep e (List.mem_of_getElem? h2) b hb;refine⟨?_,h6⟩;cases hf:F' b with
   |none=>rfl
   |some o=>
    rcases k.new b (by simp [hf])with h7|h7|h7
    ·exact absurd h5 h7
    ·omega
    exact absurd h7 h4
  obtain⟨h3,h4⟩:=k.sep e (List.mem_of_getElem? h2) b hb;refine⟨h3,?_⟩;rcases h4 with h4|h4
  ·exact .inl (Nat.le_trans h.size h4)
  exact(hXb b h4).2.2
 ·rw [List.pairwise_iff_getElem];intro p q hp hq hpq b hb1 hb2;rcases hO p _ (List.getElem?_eq_getElem hp)with⟨h1,h2⟩|⟨j,h1,h2⟩
  ·obtain⟨h3,h4⟩:=hnot p _ h1 h2 b hb1;rcases hO q _ (List.getElem?_eq_getElem hq)with⟨g1,g2⟩|⟨j',g1,g2⟩
   ·exact b0j h.dis h2 g2 (by omega) hb1 hb2
   rcases(k.sep _ (List.mem_of_getElem? g2) b hb2).2 with g3|g3
   ·omega
   exact h4 g3
  rcases hO q _ (List.getElem?_eq_getElem hq)with⟨g1,g2⟩|⟨j',g1,g2⟩
  ·obtain⟨h3,h4⟩:=hnot q _ g1 g2 b hb2;rcases(k.sep _ (List.mem_of_getElem? h2) b hb1).2 with g3|g3
   ·omega
   exact h4 g3
  refine b0j k.dis h2 g2 (fun e=> ?_) hb1 hb2;subst e;rw [h1]at g1;cases g1;omega
 rw [k.old b (Nat.lt_of_lt_of_le hb h.size) (fun hx'=> ?_)]
 ·exact h.old b hb hx
 rcases(hXb b hx').2.2 with h1|h1
 ·omega
 exact hx h1
end
section
variable{P:Program}{T:Ty P}{n:Nat}{F0:Frz}{w0:World}{X:List Nat}{W0 W:List OE}{H:DH}{F F1:Frz}{e:DE}{a:Act}{w:World}{sel:List Nat}
theorem ownW_some:∀{H:DH}{W:List OE}{i:Nat}{oe:OE},(ownW H W)[i]?=some oe->∃b e,H[i]?=some b/\W[i]?=some e/\oe=(match b.fz with|true=>OE.dum|false=>e)
 | [],W,i,oe,h=>by cases W<;>simp [ownW]at h
 |_::_,[],i,oe,h=>by simp [ownW]at h
 |b::H,e::W,0,oe,h=>by simp [ownW]at h;exact⟨b,e,by simp,by simp,by rw [<-h];cases b.fz<;>rfl⟩
 |b::H,e::W,i+1,oe,h=>by
  obtain⟨b',e',h1,h2,h3⟩:=ownW_some (H:=H) (W:=W) (i:=i) (by simpa [ownW]using h);exact⟨b',e',by simpa using h1,by simpa using h2,h3⟩
def e6v(Wc:List OE)(Hc:DH):List Nat:=(ownW Hc Wc).filterMap OE.blk
theorem b0u(h:Rel T F0 w0 X W0 W H F w)(hlt:∀i∈sel,i<H.length):(Rt.pick W sel).length=sel.length/\(clean (selH H sel sel)).length=sel.length/\
 ∀(j i:Nat),sel[j]?=some i->∃b e,H[i]?=some b/\W[i]?=some e/\(Rt.pick W sel)[j]?=some e/\(clean (selH H sel sel))[j]?=some {b with ver:=0,st:=0,dr:=false,ap:=false,ob:=renB H sel 0 b.ob}:=by
 obtain⟨h1,h2⟩:=b5q (W:=W) (l:=sel) fun i hi=>h.len▸hlt i hi;obtain⟨h3,h4⟩:=c0q (H:=H) (sel:=sel) hlt;refine⟨h1,by rw [clean_eq];simpa using h3,fun j i hj=> ?_⟩;have hi:=hlt i (List.mem_of_getElem? hj);obtain⟨e,he⟩:=h.at (List.getElem?_eq_getElem hi)
 refine⟨H[i],e,List.getElem?_eq_getElem hi,he,by rw [h2 j i hj,he],?_⟩;rw [clean_eq,List.getElem?_map,h4 j i _ hj (List.getElem?_eq_getElem hi)];rfl
theorem c2x(h:Rel T F0 w0 X W0 W H F w)(hlt:∀i∈sel,i<H.length):Ren W H sel (Rt.pick W sel) (clean (selH H sel sel)):=by
 obtain⟨_,_,h3⟩:=b0u h hlt;refine⟨fun i e he=>h.atW he,fun k i b e hk hb he=> ?_⟩;obtain⟨b',e',g1,g2,g3,g4⟩:=h3 k i hk;rw [hb]at g1;cases g1;rw [he]at g2;cases g2;exact⟨g3,_,g4,rfl,rfl,rfl⟩
theorem Rel.lend(h:Rel T F0 w0 X W0 W H F w)(hn:sel.Nodup)(hlt:∀i∈sel,i<H.length):
 Rel T F w (e6v (Rt.pick W sel) (clean (selH H sel sel))) (Rt.pick W sel) (Rt.pick W sel) (clean (selH H sel sel)) F w:=by
 obtain⟨h1,h2,h3⟩:=b0u h hlt;have hK:=c2x h hlt;have hat:∀(j:Nat)b e,(clean (selH H sel sel))[j]?=some b->(Rt.pick W sel)[j]?=some e->∃i b0,sel[j]?=some i/\H[i]?=some b0/\W[i]?=some e/\b={b0 with ver:=0,st:=0,dr:=false,ap:=false,ob:=renB H sel 0 b0.ob}:=by
  intro j b e hb he;have hj:j<sel.length:=h2▸(List.getElem?_eq_some_iff.1 hb).1;obtain⟨b0,e0,g1,g2,g3,g4⟩:=h3 j _ (List.getElem?_eq_getElem hj);rw [he]at g3;cases g3;rw [hb]at g4;cases g4;exact⟨_,b0,List.getElem?_eq_getElem hj,g1,g2,rfl⟩
 have hown:∀(j:Nat)oe,(ownW (clean (selH H sel sel)) (Rt.pick W sel))[j]?=some oe->∃i,sel[j]?=some i/\(ownW H W)[i]?=some oe:=by
  intro j oe hj;obtain⟨b,e,g1,g2,g3⟩:=ownW_some hj;obtain⟨i,b0,k1,k2,k3,k4⟩:=hat j b e g1 g2;subst k4;exact⟨i,k1,(ownW_get k2 k3).trans (congrArg some g3.symm)⟩
 refine⟨by rw [h2,h1],fun j b e hb he=> ?_,⟨h.hd.sat,Frz.refl F,fun b hb=> .inl hb,fun oe ho=> ?_,fun oe ho b hb=> ?_,?_,rfl,rfl,rfl,Nat.le_refl _,fun _ _ _=>rfl⟩,h.gl,fun j e0 h0=> ?_⟩
 ·obtain⟨i,b0,k1,k2,k3,k4⟩:=hat j b e hb he;subst k4;obtain⟨g1,g2⟩:=h.blk i b0 e k2 k3;exact⟨c5a hK g1,g2⟩
 ·obtain⟨j,hj⟩:=List.mem_iff_getElem?.1 ho;obtain⟨i,k1,k2⟩:=hown j oe hj;exact h.hd.get k2
 ·obtain⟨j,hj⟩:=List.mem_iff_getElem?.1 ho;obtain⟨i,k1,k2⟩:=hown j oe hj;exact⟨(h.hd.sep oe (List.mem_of_getElem? k2) b hb).1,.inr (List.mem_filterMap.2 ⟨oe,ho,hb⟩)⟩
 ·rw [List.pairwise_iff_getElem];intro p q hp hq hpq b hb1 hb2;obtain⟨i,k1,k2⟩:=hown p _ (List.getElem?_eq_getElem hp);obtain⟨i',k3,k4⟩:=hown q _ (List.getElem?_eq_getElem hq);refine b0j h.hd.dis k2 k4 (fun e=> ?_) hb1 hb2;subst e;have hp':=(List.getElem?_eq_some_iff.1 k1)
  have hq':=(List.getElem?_eq_some_iff.1 k3)
  obtain⟨hp1,hp2⟩:=hp';obtain⟨hq1,hq2⟩:=hq';exact List.pairwise_iff_getElem.1 hn p q hp1 hq1 hpq (hp2.trans hq2.symm)
 have hj:j<sel.length:=h1▸(List.getElem?_eq_some_iff.1 h0).1;obtain⟨b0,e1,g1,g2,g3,g4⟩:=h3 j _ (List.getElem?_eq_getElem hj);rw [h0]at g3;cases g3;exact⟨_,e0,g4,h0,fun _=>a0k (h.plain g2),fun _=>a0k (h.plain g2)⟩
theorem d6e(h:Rel T F0 w0 X W0 W H F w)(hlt:∀i∈sel,i<H.length):∀b∈e6v (Rt.pick W sel) (clean (selH H sel sel)),∃i∈sel,∃oe,(ownW H W)[i]?=some oe/\oe.blk=some b:=by
 intro b hb;obtain⟨oe,h1,h2⟩:=List.mem_filterMap.1 hb;obtain⟨j,hj⟩:=List.mem_iff_getElem?.1 h1;obtain⟨b',e,g1,g2,g3⟩:=ownW_some hj;obtain⟨k1,k2,k3⟩:=b0u h hlt;have hj':j<sel.length:=k2▸(List.getElem?_eq_some_iff.1 g1).1;obtain⟨b0,e1,m1,m2,m3,m4⟩:=k3 j _ (List.getElem?_eq_getElem hj');rw [g2]at m3;cases m3;rw [g1]at m4;cases m4;exact⟨_,List.getElem_mem hj',oe,(ownW_get m1 m2).trans (congrArg some g3.symm),h2⟩
end
set_option linter.unusedVariables false
set_option linter.unusedSimpArgs false
theorem d9w{sel:List Nat}{m h j:Nat}(hj:j<m):bkI sel m h j=sel[j]?:=by
 have:Nat.blt j m=true:=by rw [Nat.blt_eq];exact hj
 simp only [bkI,this,a0j]
theorem e0x{sel:List Nat}{m h j:Nat}(hj:m<=j):bkI sel m h j=some (h+(j-m)):=by
 have:Nat.blt j m=false:=by
  cases hb:Nat.blt j m with
  |false=>rfl
  |true=>rw [Nat.blt_eq]at hb;omega
 simp only [bkI,this]
def c7o(H:DH)(sel:List Nat)(Hr:DH):DH:=
 a2h (putB Hr (a2h (b2s Hr) 0 sel H) sel sel.length H.length) 0 sel (a2h (b2s Hr) 0 sel H)++(a5c Hr sel.length).map (fun b=>{b with ver:=0,st:=0,ob:=bkOb (a2h (b2s Hr) 0 sel H) sel sel.length H.length b.ob})
def d4o(W:List OE)(sel:List Nat)(Wr:List OE):List OE:=a2h (fun j e=>(Wr[j]?).getD e) 0 sel W++Wr.drop sel.length
section
variable{P:Program}{T:Ty P}{n:Nat}{F0:Frz}{w0:World}{X X':List Nat}{W0 W Wr:List OE}{H Hr:DH}{F F':Frz}{e:DE}{a:Act}{w w':World}{sel:List Nat}
theorem Rel.back(h:Rel T F0 w0 X W0 W H F w)(hn:sel.Nodup)(hlt:∀i∈sel,i<H.length)(k:Rel T F w (e6v (Rt.pick W sel) (clean (selH H sel sel))) (Rt.pick W sel) Wr Hr F' w')(hz:∀b∈Hr,b.ver=0/\b.st=0):
 Rel T F0 w0 X W0 (d4o W sel Wr) (c7o H sel Hr) F' w'/\Ext W H F (d4o W sel Wr) (c7o H sel Hr) F'/\Bk Wr Hr (a2h (b2s Hr) 0 sel H) sel sel.length H.length (d4o W sel Wr) (c7o H sel Hr):=by
 generalize hR:a2h (b2s Hr) 0 sel H=R;have hRl:R.length=H.length:=by rw [<-hR,a0x]
 have hH':c7o H sel Hr=a2h (putB Hr R sel sel.length H.length) 0 sel R++(Hr.drop sel.length).map (fun b=>{b with ver:=0,st:=0,ob:=bkOb R sel sel.length H.length b.ob}):=by
  unfold c7o;rw [hR,a4d]
 generalize hm:sel.length=m at hH';generalize hBH:c7o H sel Hr=H' at hH'⊢;generalize hBW:d4o W sel Wr=W' at⊢;have hW':W'=a2h (fun j e=>(Wr[j]?).getD e) 0 sel W++Wr.drop m:=by rw [<-hBW];unfold d4o;rw [hm]
 obtain⟨g1,g2,g3⟩:=b0u h hlt;have hfin:∀(j i:Nat),sel[j]?=some i->∃b0 e0 b e,H[i]?=some b0/\W[i]?=some e0/\Hr[j]?=some b/\Wr[j]?=some e/\
  H'[i]?=some {ver:=(match b.ap with|true=>b0.ver+1|false=>b0.ver),st:=b0.st+1,fz:=b.fz,dr:=true,ap:=b0.ap||b.ap,ob:=bkOb R sel m H.length b.ob}/\W'[i]?=some e/\
  (b.ap=false->hdEq e0 e)/\((∀el q a m n us,e0≠ .row el q a m n us)->hdEq e0 e)/\verN R i=(match b.ap with|true=>b0.ver+1|false=>b0.ver)/\stN R i=b0.st+1:=by
  intro j i hj;have hi:=hlt i (List.mem_of_getElem? hj);obtain⟨b0,e0,k1,k2,k3,k4⟩:=g3 j i hj;obtain⟨b,e,k5,k6,k7,k8⟩:=k.lent j e0 k3;have hRi:R[i]?=some {b0 with ver:=(match b.ap with|true=>b0.ver+1|false=>b0.ver),st:=b0.st+1,dr:=true,ap:=b0.ap||b.ap}:=by
   rw [<-hR,a6h hn hj,k1];simp [b2s,a0j,k5];cases b.ap<;>rfl
  refine⟨b0,e0,b,e,k1,k2,k5,k6,?_,?_,k7,k8,by simp [verN,a0j,hRi],by simp [stN,a0j,hRi]⟩
  ·rw [hH',List.getElem?_append_left (by rw [a0x];omega),a6h hn hj,hRi];simp [putB,a0j,k5]
  rw [hW',List.getElem?_append_left (by rw [a0x];have:=h.len;omega),a6h hn hj,k2];simp [k6]
 have hout:∀i,i<H.length->i∉sel->H'[i]?=H[i]?/\W'[i]?=W[i]?:=by
  intro i hi hs;constructor
  ·rw [hH',List.getElem?_append_left (by rw [a0x];omega),a2s hs,<-hR,a2s hs]
  rw [hW',List.getElem?_append_left (by rw [a0x];have:=h.len;omega),a2s hs]
 have hnew:∀(j:Nat)b,m<=j->Hr[j]?=some b->H'[H.length+(j-m)]?=some {b with ver:=0,st:=0,ob:=bkOb R sel m H.length b.ob}/\W'[H.length+(j-m)]?=Wr[j]?:=by
  intro j b hj hb;constructor
  ·rw [hH',List.getElem?_append_right (by rw [a0x];omega),a0x,hRl,List.getElem?_map,List.getElem?_drop];rw [show m+(H.length+(j-m)-H.length)=j by omega,hb];rfl
  rw [hW',List.getElem?_append_right (by rw [a0x];have:=h.len;omega),a0x,List.getElem?_drop];rw [show m+(H.length+(j-m)-W.length)=j by have:=h.len;omega]
 have hlen:H'.length=W'.length:=by
  have:=h.len;have:=k.len;rw [hH',hW'];simp [a0x,hRl];omega
 have hbig:∀i b',H'[i]?=some b'->¬i<H.length->∃j b,m<=j/\i=H.length+(j-m)/\Hr[j]?=some b:=by
  intro i b' hb hi;rw [hH',List.getElem?_append_right (by rw [a0x];omega),a0x,hRl,List.getElem?_map,List.getElem?_drop]at hb;cases hj:Hr[m+(i-H.length)]? with
  |none=>rw [hj]at hb;simp at hb
  |some b=>exact⟨_,b,by omega,by omega,hj⟩
 have hcase:∀(i:Nat)b' e',H'[i]?=some b'->W'[i]?=some e'->(i∉sel/\i<H.length/\H[i]?=some b'/\W[i]?=some e')∨∃j b,Hr[j]?=some b/\Wr[j]?=some e'/\bkI sel m H.length j=some i/\b'.fz=b.fz/\b'.ob=bkOb R sel m H.length b.ob:=by
  intro i b' e' hb he
  by_cases hi:i<H.length
  ·by_cases hs:i∈sel
   ·obtain⟨j,hj⟩:=List.mem_iff_getElem?.1 hs;obtain⟨b0,e0,b,e,k1,k2,k3,k4,k5,k6,_⟩:=hfin j i hj;rw [hb]at k5;cases k5;rw [he]at k6;cases k6;refine .inr ⟨j,b,k3,k4,?_,rfl,rfl⟩;have:j<m:=hm▸(List.getElem?_eq_some_iff.1 hj).1;rw [d9w this,hj]
   obtain⟨k1,k2⟩:=hout i hi hs;exact .inl ⟨hs,hi,by rw [<-k1,hb],by rw [<-k2,he]⟩
  obtain⟨j,b,k1,rfl,k2⟩:=hbig i b' hb hi;obtain⟨k3,k4⟩:=hnew j b k1 k2;rw [hb]at k3;cases k3;rw [he]at k4;refine .inr ⟨j,b,k2,k4.symm,?_,rfl,rfl⟩;exact e0x k1
 have hBk:Bk Wr Hr R sel m H.length W' H':=by
  refine⟨fun i e he=>k.atW he,fun j b e hb he=> ?_⟩;obtain⟨z1,z2⟩:=hz b (List.mem_of_getElem? hb);refine⟨z1,z2,?_⟩
  by_cases hj:j<m
  ·obtain⟨i,hi⟩:∃i,sel[j]?=some i:=⟨_,List.getElem?_eq_getElem (by omega)⟩
   obtain⟨b0,e0,b1,e1,k1,k2,k3,k4,k5,k6,_,_,k7,k8⟩:=hfin j i hi;rw [hb]at k3;cases k3;rw [he]at k4;cases k4;exact⟨i,_,by rw [d9w hj,hi],k5,k6,rfl,k7.symm,k8.symm⟩
  obtain⟨k3,k4⟩:=hnew j b (by omega) hb;have hnone:getN R (H.length+(j-m))=none:=by rw [a0j];exact List.getElem?_eq_none (by omega)
  exact⟨H.length+(j-m),_,e0x (by omega),k3,by rw [k4,he],rfl,by simp [verN,hnone],by simp [stN,hnone]⟩
 have hX:Ext W H F W' H' F':=by
  refine⟨k.hd.le,fun i b0 e0 h1 h2=> ?_,fun i e h1=>h.atW h1⟩;have hi:=(List.getElem?_eq_some_iff.1 h1).1
  by_cases hs:i∈sel
  ·obtain⟨j,hj⟩:=List.mem_iff_getElem?.1 hs;obtain⟨b0',e0',b,e,k1,k2,k3,k4,k5,k6,k7,k8,_⟩:=hfin j i hj;rw [h1]at k1;cases k1;rw [h2]at k2;cases k2;refine⟨_,e,k5,k6,?_,fun hv=> ?_,fun g t us he=>k8 (by rw [he];simp),fun g es c he=>k8 (by rw [he];simp)⟩
   ·dsimp only;cases b.ap<;>simp
   dsimp only at hv;cases hap:b.ap with
   |true=>rw [hap]at hv;simp at hv
   |false=>exact⟨k7 hap,Nat.le_succ _,fun hst=>by simp at hst⟩
  obtain⟨k1,k2⟩:=hout i hi hs;have hp:=a0k (h.plain h2);exact⟨b0,e0,by rw [k1,h1],by rw [k2,h2],Nat.le_refl _,fun _=>⟨hp,Nat.le_refl _,fun _ _=>rfl⟩,fun _ _ _ _=>hp,fun _ _ _ _=>hp⟩
 refine⟨⟨hlen,fun i b' e' h1 h2=> ?_,?_,k.gl,fun i e0 h0=> ?_⟩,hX,hBk⟩
 ·rcases hcase i b' e' h1 h2 with⟨_,_,k1,k2⟩|⟨j,b,k1,k2,k3,k4,k5⟩
  ·obtain⟨m1,m2⟩:=h.blk i b' e' k1 k2;exact⟨m1.ext hX,fun hf=>(m2 hf).mono k.hd.le⟩
  obtain⟨m1,m2⟩:=k.blk j b e' k1 k2;rw [k5,k4];exact⟨e3n hBk m1,m2⟩
 ·refine h.hd.back k.hd (sel:=sel) (d6e h hlt) (ix:=bkI sel m H.length) fun i oe ho=> ?_;obtain⟨b',e',k1,k2,k3⟩:=ownW_some ho;rcases hcase i b' e' k1 k2 with⟨m0,_,m1,m2⟩|⟨j,b,m1,m2,m3,m4,m5⟩
  ·exact .inl ⟨m0,(ownW_get m1 m2).trans (congrArg some k3.symm)⟩
  exact .inr ⟨j,m3,(ownW_get m1 m2).trans (congrArg some (by rw [k3,m4];cases b.fz<;>rfl))⟩
 obtain⟨b,e,h1,h2,h3,h4⟩:=h.lent i e0 h0;have hi:=(List.getElem?_eq_some_iff.1 h1).1
 by_cases hs:i∈sel
 ·obtain⟨j,hj⟩:=List.mem_iff_getElem?.1 hs;obtain⟨b1,e1,b2,e2,k1,k2,k3,k4,k5,k6,k7,k8,_⟩:=hfin j i hj;rw [h1]at k1;cases k1;rw [h2]at k2;cases k2;refine⟨_,e2,k5,k6,fun hap=> ?_,fun hne=> ?_⟩
  ·simp only [Bool.or_eq_false_iff]at hap;exact(h3 hap.1).trans (k7 hap.2)
  have h5:=h4 hne;refine h5.trans (k8 fun el q a m n us he=> ?_);subst he;cases e0 with
  |row el' q' a' m' n' us'=>exact hne _ _ _ _ _ _ rfl
  |box g t us'=>simp [hdEq]at h5
  |mp g es c=>simp [hdEq]at h5
  |it g o=>exact h5
  |win=>exact h5
 obtain⟨k1,k2⟩:=hout i hi hs;exact⟨b,e,by rw [k1,h1],by rw [k2,h2],h3,h4⟩
end
set_option linter.unusedVariables false
set_option linter.unusedSimpArgs false
section
variable{P:Program}{T:Ty P}{n:Nat}{F0:Frz}{w0:World}{X:List Nat}{W0 W W2:List OE}{H H2:DH}{F F1 F2:Frz}{e:DE}{a:Act}{w:World}{sel:List Nat}
variable{dst:Option Tmp}{type:TypeId}{pos:String}{after:Array Edge}{guard:Option (Nat×Bool)}
theorem d4w(hR:Rel T F0 w0 X W0 W2 H2 F2 w)(hx:Ext W H F W2 H2 F2){az:List DV}{us:List Value}(hc:ConcL W2 H2 F2 az us){f:FuncId}{is:List Nat}(hs:∀sel,a4t H2 1000 (refL az) []=some sel->sel.Nodup/\∀i∈sel,i<H2.length):
 a3p T F0 w0 X W0 W H F w f us (d1n f az is H2 (a4t H2 1000 (refL az) [])):=by
 cases hr:a4t H2 1000 (refL az) []with
 |none=>trivial
 |some sel=>
  obtain⟨hn,hlt⟩:=hs sel hr;simp only [d1n,sN_eq,sH_eq];intro r Hr q hf hk;obtain⟨he,hz,hf⟩:=hf;dsimp only at hk;rw [a1d,a1d]at hk;simp only [f1b,Option.some.injEq]at hk;subst hk;refine⟨he,(hf w F2 _ _ us (hR.lend hn hlt) (a3t (c2x hR hlt) hc)).mono ?_⟩;rintro x w' ⟨v,F',Wr,rfl,hr',hc'⟩;obtain⟨h1,h2,h3⟩:=hR.back hn hlt hr' hz;exact⟨v,rfl,_,F',h1,hx.trans h2,_,rfl,c1y h3 hc'⟩
mutual
theorem conc_unlit:∀{x:DV}{v:Value},Conc W H F x v->Conc W H F (unlit x) v
 | .v x,v,h=>h
 | .lit b,v,h=>h
 | .nil,v,h=>h
 | .any,v,h=>h
 | .agg l,v,⟨cs,h1,h2,h3⟩=>⟨cs,h1,concL_unlit h2,h3⟩
 | .tup l,v,⟨cs,h1,h2⟩=>⟨cs,h1,concL_unlit h2⟩
 | .clo f p l,v,h=>h
 | .row _ _,v,h=>h
 | .win _ _ _ _,v,h=>h
 | .bp _ _,v,h=>h
 | .rp _ _ _ _ _ _,v,h=>h
 | .mr _,v,h=>h
theorem concL_unlit:∀{l:List DV}{cs:List Value},ConcL W H F l cs->ConcL W H F (unlitL l) cs
 | [],cs,h=>h
 |x::l,cs,⟨v,r,h1,h2,h3⟩=>⟨v,r,h1,conc_unlit h2,concL_unlit h3⟩
 end
theorem Rel.nilRow(h:Rel T F0 w0 X W0 W H F w)(el q:Nat):Rel T F0 w0 X W0 (W++ [.row el q none 0 0 []]) (H++ [nblk (.row el q [])]) F w/\Ext W H F (W++ [.row el q none 0 0 []]) (H++ [nblk (.row el q [])]) F/\
 Conc (W++ [.row el q none 0 0 []]) (H++ [nblk (.row el q [])]) F (.row H.length 0) (.slice none 0 0):=by
 obtain⟨h1,h2⟩:=h.add (o:= .row el q []) (e':= .row el q none 0 0 []) (w':=w) ⟨rfl,rfl,rfl,Nat.le_refl _,fun _ _ _=>rfl⟩ (World.ownsRow_nil _ _ _ _) (by simp [OE.blk,Value.ownBlock]) ⟨none,0,0,[],rfl,rfl,rfl⟩;refine⟨h1,h2,none,0,0,rfl,nblk (.row el q []),.row el q none 0 0 [],by simp,by rw [h.len];simp,Nat.le_refl _,fun _=>⟨el,q,[],rfl⟩⟩
theorem c0g{t:TypeId}:∀{cs:List DV}{o:Nat}{W:List OE}{H:DH}{us:List Value},Rel T F0 w0 X W0 W H F w->ConcL W H F cs us->
 ∃A B,(ownC T t o cs H).2=H++B/\Rel T F0 w0 X W0 (W++A) (H++B) F w/\Ext W H F (W++A) (H++B) F/\ConcL (W++A) (H++B) F (ownC T t o cs H).1 us
 | [],o,W,H,us,h,hc=>⟨[],[],by simp [ownC],by simpa using h,by simpa using h.refl,by simpa [ownC]using hc⟩
 |x::l,o,W,H,us,h,⟨v,r,h1,h2,h3⟩=>by
  have hstd:∀y,Conc W H F y v->∃A B,(ownC T t (o+1) l H).2=H++B/\Rel T F0 w0 X W0 (W++A) (H++B) F w/\Ext W H F (W++A) (H++B) F/\ConcL (W++A) (H++B) F (y::(ownC T t (o+1) l H).1) us:=by
   intro y hy;obtain⟨A,B,g1,g2,g3,g4⟩:=c0g (t:=t) (cs:=l) (o:=o+1) h h3;exact⟨A,B,g1,g2,g3,v,r,h1,hy.ext g3,g4⟩
  cases x with
  |nil=>
   simp only [ownC];split
   ·rename_i el q b hq;rw [a1d];obtain rfl:v= .slice none 0 0:=h2;obtain⟨k1,k2,k3⟩:=h.nilRow el q;obtain⟨A,B,g1,g2,g3,g4⟩:=c0g (t:=t) (cs:=l) (o:=o+1) k1 (h3.ext k2);rw [a1j];refine⟨.row el q none 0 0 []::A,nblk (.row el q [])::B,?_,?_,?_,?_⟩
    ·rw [g1];simp
    ·simpa using g2
    ·have:=k2.trans g3;simpa using this
    have k4:=k3.ext g3;simp only [List.append_assoc,List.cons_append,List.nil_append]at g4 k4;exact⟨_,r,h1,k4,g4⟩
   exact hstd _ h2
  |v x=>exact hstd _ (conc_unlit h2)
  |lit b=>exact hstd _ (conc_unlit h2)
  |any=>exact hstd _ (conc_unlit h2)
  |agg l=>exact hstd _ (conc_unlit h2)
  |tup l=>exact hstd _ (conc_unlit h2)
  |clo f p l=>exact hstd _ (conc_unlit h2)
  |row _ _=>exact hstd _ (conc_unlit h2)
  |win _ _ _ _=>exact hstd _ (conc_unlit h2)
  |bp _ _=>exact hstd _ (conc_unlit h2)
  |rp _ _ _ _ _ _=>exact hstd _ (conc_unlit h2)
  |mr _=>exact hstd _ (conc_unlit h2)
theorem ownH0_ok:∀{l:List Nat}{W:List OE}{H:DH},Rel T F0 w0 X W0 W H F w->∃W',Rel T F0 w0 X W0 W' (ownH0 T l H) F w/\Ext W H F W' (ownH0 T l H) F
 | [],W,H,h=>⟨W,h,h.refl⟩
 |i::l,W,H,h=>by
  simp only [ownH0];split
  ·rename_i b hb;rw [a0j]at hb;split
   ·rename_i t cs hf ho;obtain⟨eo,he⟩:=h.at hb;obtain⟨h1,h2⟩:=h.blk i b eo hb he;rw [ho]at h1;obtain⟨g,us,rfl,h3,h4⟩:=h1;obtain⟨A,B,g1,g2,g3,g4⟩:=c0g (t:=t) (o:=0) h h3;have hb':(H++B)[i]?=some b:=by rw [List.getElem?_append_left (List.getElem?_eq_some_iff.1 hb).1];exact hb
    have he':(W++A)[i]?=some (.box g t us):=by rw [List.getElem?_append_left (List.getElem?_eq_some_iff.1 he).1];exact he
    have hok:(OE.box g t us).ok w:=by
     have:=g2.hd.get (ownW_get hb' he');rw [hf]at this;exact this
    obtain⟨k1,k2⟩:=g2.set (w':=w) (b':={b with ob:= .box t (ownC T t 0 cs H).1}) (e':= .box g t us) hb' he' hf hf (Nat.le_refl _)
     (fun _=>⟨⟨us,rfl⟩,Nat.le_refl _,fun _ k=>by rw [ho];rfl⟩) (fun _=>⟨us,rfl⟩) (fun hap=>⟨hap,us,rfl⟩)
     ⟨rfl,rfl,rfl,Nat.le_refl _,fun _ _ _=>rfl⟩ hok (fun k hk=> .inl hk) (fun hx=>⟨g,us,rfl,g4.ext hx,h4⟩)
    obtain⟨W',m1,m2⟩:=ownH0_ok (l:=l) k1;rw [g1,a1a];exact⟨W',m1,(g3.trans k2).trans m2⟩
   exact ownH0_ok h
  exact ownH0_ok h
theorem c8u{l:List Nat}{W:List OE}{H:DH}(h:Rel T F0 w0 X W0 W H F w):∃W',Rel T F0 w0 X W0 W' (ownH T l H) F w/\Ext W H F W' (ownH T l H) F:=by
 unfold ownH;split
 ·exact ownH0_ok h
 exact⟨W,h,h.refl⟩
theorem b8u{H1:DH}(hR:Rel T F0 w0 X W0 W H1 F1 w)(hx:Ext W H F W H1 F1){az:List DV}{us:List Value}(hc:ConcL W H1 F1 az us){f:FuncId}{is:List Nat}:
 a3p T F0 w0 X W0 W H F w f us (c4p T f az is H1):=by
 unfold c4p;split
 ·rename_i sel0 _;obtain⟨W',k1,k2⟩:=c8u (l:=sel0) hR;exact d4w k1 (hx.trans k2) (hc.ext k2) fun sel hs=>a8k hs (by simp) (by simp)
 trivial
mutual
theorem e1v(hR:Rel T F0 w0 X W0 W H F w)(hl:F.le F1)(hx:Ext W H F W H2 F1):∀{x y:DV}{v:Value}{is:List Nat},frzA H x=some (y,is)->c1d W F1 is->Conc W H F x v->Conc W H2 F1 y v
 | .row i vr,y,v,is,h,hz,hc=>by
   simp only [frzA]at h;split at h
   ·rename_i x js hr;cases h;exact a4h hR hl hr hc hz
   cases h
 | .win i vr p q,y,v,is,h,hz,hc=>by
   simp only [frzA]at h;split at h
   ·rename_i x js hr;cases h;exact a4h hR hl hr hc hz
   cases h
 | .agg l,y,v,is,h,hz,⟨cs,h1,h2,h3⟩=>by
   simp only [frzA]at h;split at h
   ·rename_i r js hr;cases h;exact⟨cs,h1,a9b hR hl hx hr hz h2,h3⟩
   cases h
 | .tup l,y,v,is,h,hz,⟨cs,h1,h2⟩=>by
   simp only [frzA]at h;split at h
   ·rename_i r js hr;cases h;exact⟨cs,h1,a9b hR hl hx hr hz h2⟩
   cases h
 | .v x,y,v,is,h,hz,hc=>by simp only [frzA,Option.some.injEq,Prod.mk.injEq]at h;obtain⟨rfl,_⟩:=h;exact hc.ext hx
 | .lit x,y,v,is,h,hz,hc=>by simp only [frzA,Option.some.injEq,Prod.mk.injEq]at h;obtain⟨rfl,_⟩:=h;exact hc.ext hx
 | .nil,y,v,is,h,hz,hc=>by simp only [frzA,Option.some.injEq,Prod.mk.injEq]at h;obtain⟨rfl,_⟩:=h;exact hc.ext hx
 | .any,y,v,is,h,hz,hc=>by simp only [frzA,Option.some.injEq,Prod.mk.injEq]at h;obtain⟨rfl,_⟩:=h;exact hc.ext hx
 | .clo _ _ _,y,v,is,h,hz,hc=>by simp only [frzA,Option.some.injEq,Prod.mk.injEq]at h;obtain⟨rfl,_⟩:=h;exact hc.ext hx
 | .bp _ _,y,v,is,h,hz,hc=>by simp only [frzA,Option.some.injEq,Prod.mk.injEq]at h;obtain⟨rfl,_⟩:=h;exact hc.ext hx
 | .rp _ _ _ _ _ _,y,v,is,h,hz,hc=>by simp only [frzA,Option.some.injEq,Prod.mk.injEq]at h;obtain⟨rfl,_⟩:=h;exact hc.ext hx
 | .mr _,y,v,is,h,hz,hc=>by simp only [frzA,Option.some.injEq,Prod.mk.injEq]at h;obtain⟨rfl,_⟩:=h;exact hc.ext hx
theorem a9b(hR:Rel T F0 w0 X W0 W H F w)(hl:F.le F1)(hx:Ext W H F W H2 F1):∀{l r:List DV}{cs:List Value}{is:List Nat},b3s H l=some (r,is)->c1d W F1 is->ConcL W H F l cs->ConcL W H2 F1 r cs
 | [],r,cs,is,h,hz,hc=>by simp only [b3s,Option.some.injEq,Prod.mk.injEq]at h;obtain⟨rfl,_⟩:=h;exact hc
 |x::l,r,cs,is,h,hz,⟨v,k,h1,h2,h3⟩=>by
  simp only [b3s]at h;split at h
  ·rename_i y is1 hy;split at h
   ·rename_i r1 js hr;cases h;exact⟨v,k,h1,e1v hR hl hx hy (fun i hi=>hz i (List.mem_append_left _ hi)) h2,a9b hR hl hx hr (fun i hi=>hz i (List.mem_append_right _ hi)) h3⟩
   cases h
  cases h
 end
mutual
theorem d3w(hR:Rel T F0 w0 X W0 W H F w):∀{x y:DV}{is:List Nat},frzA H x=some (y,is)->∀i,i∈is->∀o,W[i]?=some o->noMp o=true
 | .row i vr,y,is,h,k,hk,o,ho=>by
   simp only [frzA]at h;split at h
   ·rename_i x js hr;cases h;exact a5b hR hr k hk o ho
   cases h
 | .win i vr p q,y,is,h,k,hk,o,ho=>by
   simp only [frzA]at h;split at h
   ·rename_i x js hr;cases h;exact a5b hR hr k hk o ho
   cases h
 | .agg l,y,is,h,k,hk,o,ho=>by
   simp only [frzA]at h;split at h
   ·rename_i r js hr;cases h;exact a5d hR hr k hk o ho
   cases h
 | .tup l,y,is,h,k,hk,o,ho=>by
   simp only [frzA]at h;split at h
   ·rename_i r js hr;cases h;exact a5d hR hr k hk o ho
   cases h
 | .v x,y,is,h,k,hk,o,ho=>by simp only [frzA,Option.some.injEq,Prod.mk.injEq]at h;obtain⟨_,rfl⟩:=h;simp at hk
 | .lit x,y,is,h,k,hk,o,ho=>by simp only [frzA,Option.some.injEq,Prod.mk.injEq]at h;obtain⟨_,rfl⟩:=h;simp at hk
 | .nil,y,is,h,k,hk,o,ho=>by simp only [frzA,Option.some.injEq,Prod.mk.injEq]at h;obtain⟨_,rfl⟩:=h;simp at hk
 | .any,y,is,h,k,hk,o,ho=>by simp only [frzA,Option.some.injEq,Prod.mk.injEq]at h;obtain⟨_,rfl⟩:=h;simp at hk
 | .clo _ _ _,y,is,h,k,hk,o,ho=>by simp only [frzA,Option.some.injEq,Prod.mk.injEq]at h;obtain⟨_,rfl⟩:=h;simp at hk
 | .bp _ _,y,is,h,k,hk,o,ho=>by simp only [frzA,Option.some.injEq,Prod.mk.injEq]at h;obtain⟨_,rfl⟩:=h;simp at hk
 | .rp _ _ _ _ _ _,y,is,h,k,hk,o,ho=>by simp only [frzA,Option.some.injEq,Prod.mk.injEq]at h;obtain⟨_,rfl⟩:=h;simp at hk
 | .mr _,y,is,h,k,hk,o,ho=>by simp only [frzA,Option.some.injEq,Prod.mk.injEq]at h;obtain⟨_,rfl⟩:=h;simp at hk
theorem a5d(hR:Rel T F0 w0 X W0 W H F w):∀{l r:List DV}{is:List Nat},b3s H l=some (r,is)->∀i,i∈is->∀o,W[i]?=some o->noMp o=true
 | [],r,is,h,k,hk,o,ho=>by simp only [b3s,Option.some.injEq,Prod.mk.injEq]at h;obtain⟨_,rfl⟩:=h;simp at hk
 |x::l,r,is,h,k,hk,o,ho=>by
  simp only [b3s]at h;split at h
  ·rename_i y is1 hy;split at h
   ·rename_i r1 js hr;cases h;rcases List.mem_append.1 hk with hk|hk
    ·exact d3w hR hy k hk o ho
    exact a5d hR hr k hk o ho
   cases h
  cases h
 end
theorem d6v(hR:Rel T F0 w0 X W0 W H F w){az:List DV}{us:List Value}(hc:ConcL W H F az us){f:FuncId}:a3p T F0 w0 X W0 W H F w f us (e5f T f az H):=by
 unfold e5f;split
 ·exact b8u hR hR.refl hc
 split
 ·rename_i az1 is hr;obtain⟨F1,h1,h2,h3,h4⟩:=hR.mark (is:=is) fun i hi o ho=>a5d hR hr i hi o ho;exact b8u h2 h4 (a9b hR h1 h4 hr h3 hc)
 trivial
end
set_option linter.unusedVariables false
set_option linter.unusedSimpArgs false
section
variable{P:Program}{T:Ty P}{n:Nat}{F0:Frz}{w0:World}{X:List Nat}{W0 W W2:List OE}{H H2:DH}{F F1 F2:Frz}{e:DE}{a:Act}{w:World}{sel:List Nat}
variable{dst:Option Tmp}{type:TypeId}{pos:String}{after:Array Edge}{guard:Option (Nat×Bool)}
def OpOk(T:Ty P)(F0:Frz)(w0:World)(X:List Nat)(W0 W:List OE)(H:DH)(F:Frz)(a:Act)(w:World)(o:Oper)(r:OpR):Prop:= r= .none∨a2c T F0 w0 X W0 W H F a w o r∨∃f us,(Ent P f->(execOp a.eval o).run P w= .ok (.enter f us.toArray) w)/\a3p T F0 w0 X W0 W H F w f us r
theorem d8e{x:DV}{v:Value}(h:Conc W H F x v):Conc W H F (normA x) v:=by
 unfold normA;split
 ·rename_i l;cases hr:pureL l with
  |some r=>
   have:pureD (.agg l)=some (.agg r):=by simp only [pureD,hr]
   exact pureD_ok this h
  |none=>exact h
 exact h
theorem normAL_ok:∀{l:List DV}{cs:List Value},ConcL W H F l cs->ConcL W H F (normAL l) cs
 | [],cs,h=>h
 |x::l,cs,⟨v,r,h1,h2,h3⟩=>⟨v,r,h1,d8e h2,normAL_ok h3⟩
theorem c5u(hL:LibOk T)(hR:Rel T F0 w0 X W0 W H F w){az:List DV}{us:List Value}(hc:ConcL W H F az us){f:FuncId}:a3p T F0 w0 X W0 W H F w f us (d6u T H az f):=by
 unfold d6u;split
 ·rename_i k tb te hk;exact hL.sp hk hR hc
 split
 ·rename_i el q b hq;exact hL.cl hq hR hc
 split
 ·exact d7g hR hc
 exact d6v hR (normAL_ok hc)
theorem d6a(hL:LibOk T)(hE:EnvR n W H F e a)(hR:Rel T F0 w0 X W0 W H F w){c:Operand}{args:List Operand}{ts:Array TypeId}:OpOk T F0 w0 X W0 W H F a w ⟨dst,.call ⟨.value c,args.toArray,ts⟩,type,pos,after,guard⟩ (d7y T e H c args):=by
 unfold d7y;split
 ·rename_i x az hx haz;have hx:=a1w hE hR.gl hx;have haz:=b3m hE hR.gl haz;unfold e7o;split
  ·obtain⟨ps,cs,h1,h2,h3⟩:=hx;exact .inr (.inr ⟨_,ps++args.map a.eval++cs,fun he=>b8p he h1,c5u hL hR ((h2.app haz).app h3)⟩)
  ·obtain⟨ps,cs,h1,h2,h3⟩:=hx;exact .inr (.inr ⟨_,ps++args.map a.eval++cs,fun he=>b8p he h1,c5u hL hR (((concL_v.1 h2).app haz).app (concL_v.1 h3))⟩)
  exact .inl rfl
 exact .inl rfl
theorem d9n(hT:TyOk T)(hL:LibOk T)(hE:EnvR n W H F e a)(hR:Rel T F0 w0 X W0 W H F w)(nst dw:Bool)(op:Op):OpOk T F0 w0 X W0 W H F a w ⟨dst,op,type,pos,after,guard⟩ (opF T nst dw e H type op):=by
 unfold opF;split
 ·rename_i c args ts;have:=d6a (dst:=dst) (type:=type) (pos:=pos) (after:=after) (guard:=guard) (c:=c) (args:=args.toList) (ts:=ts) hL hE hR;simpa using this
 split
 ·rename_i r hr;exact .inr (.inl (f0t hT hE hR hr))
 exact .inr (.inl (f0v hT hE hR nst dw op))
end
set_option linter.unusedVariables false
set_option linter.unusedSimpArgs false
theorem a8l{H:DH}:∀{f:Nat}{l seen sel:List Nat},a4t H f l seen=some sel->seen<+:sel
 |f,[],seen,sel,h=>by cases f<;>simp only [a4t,Option.some.injEq]at h<;>subst h<;>exact List.prefix_refl _
 |0,_::_,_,_,h=>by simp [a4t]at h
 |f+1,i::l,seen,sel,h=>by
  simp only [a4t]at h;have hs:seen<+:snoc i seen:=by rw [a1j];exact List.prefix_append _ _
  split at h
  ·exact a8l h
  split at h
  ·split at h
   ·exact hs.trans (a8l h)
   exact hs.trans (a8l h)
  cases h
theorem rng_get:∀(k a i:Nat),i<k->(rng a k)[i]?=some (a+i)
 |0,a,i,h=>by omega
 |k+1,a,0,h=>by simp [rng]
 |k+1,a,i+1,h=>by
  simp only [rng,List.getElem?_cons_succ];rw [rng_get k (a+1) i (by omega)]
  congr 1;omega
theorem rng_mem:∀(k a x:Nat),x∈rng a k->a<=x/\x<a+k
 |0,a,x,h=>by simp [rng]at h
 |k+1,a,x,h=>by
  simp only [rng,List.mem_cons]at h;rcases h with rfl|h
  ·omega
  have:=rng_mem k (a+1) x h;omega
theorem rng_nodup:∀(k a:Nat),(rng a k).Nodup
 |0,a=>by simp [rng]
 |k+1,a=>List.nodup_cons.2 ⟨fun h=>by have:=rng_mem k (a+1) a h;omega,rng_nodup k (a+1)⟩
theorem b3e{e:DE}:∀{l:List Nat}{t:Nat}{d:DV},a0l t (cutE e l)=some d->a0l t e=some d
 | [],t,d,h=>by simp [cutE,a0l]at h
 |k::l,t,d,h=>by
  simp only [cutE]at h;split at h
  ·rename_i x hx;simp only [a0l]at h;split at h
   ·rename_i hb;obtain rfl:=Nat.eq_of_beq_eq_true hb;rw [hx];exact h
   exact b3e h
  exact b3e h
theorem b4s{H:DH}:∀{e:DE}{t:Nat},a0l t (d6m H e)=(a0l t e).map (b7c H)
 | [],t=>rfl
 |(k,x)::l,t=>by
  simp only [d6m,a0l];split
  ·rfl
  exact b4s
theorem b9t{H:DH}{sel:List Nat}{base:Nat}:∀{e:DE}{t:Nat},a0l t (renE H sel base e)=(a0l t e).map (renD H sel base)
 | [],t=>rfl
 |(k,x)::l,t=>by
  simp only [renE,a0l];split
  ·rfl
  exact b9t
theorem a6v{H0:DH}:∀{H:DH},b8v H0 H=H.map fun b=>{b with ob:=c0f H0 b.ob}
 | []=>rfl
 |b::l=>by simp [b8v,a6v (H:=l)]
section
variable{P:Program}{T:Ty P}{n:Nat}{F0:Frz}{w0:World}{X:List Nat}{W0 W W2:List OE}{H H2:DH}{F F1 F2:Frz}{e:DE}{a:Act}{w:World}{sel:List Nat}
theorem d1z(hR:Rel T F0 w0 X W0 W H F w):∀{is:List Nat},allZ H is=true->c1d W F is
 | [],_,i,hi,o,ho=>by simp at hi
 |j::is,h,i,hi,o,ho=>by
  simp only [allZ]at h;split at h
  ·rename_i b hb;rw [a0j]at hb;split at h
   ·rename_i hf;rcases List.mem_cons.1 hi with rfl|hi
    ·exact(hR.blk i b o hb ho).2 hf
    exact d1z hR h i hi o ho
   cases h
  cases h
theorem b6x(hR:Rel T F0 w0 X W0 W H F w){i:Nat}{x:DV}{v:Value}(hc:Conc W H F x v):Conc W H F (thaw H i x) v:=by
 unfold thaw;split
 ·split
  ·unfold e7w;split
   ·rename_i y is hr;split
    ·rename_i hz;exact a4h hR (Frz.refl F) hr hc (d1z hR hz)
    exact hc
   exact hc
  exact hc
 exact hc
mutual
theorem b6d(hR:Rel T F0 w0 X W0 W H F w):∀{x:DV}{v:Value},Conc W H F x v->Conc W H F (b7c H x) v
 | .v x,v,h=>h
 | .lit b,v,h=>h
 | .nil,v,h=>h
 | .any,v,h=>h
 | .agg l,v,⟨cs,h1,h2,h3⟩=>⟨cs,h1,a7c hR h2,h3⟩
 | .tup l,v,⟨cs,h1,h2⟩=>⟨cs,h1,a7c hR h2⟩
 | .clo f p l,v,⟨ps,cs,h1,h2,h3⟩=>⟨ps,cs,h1,a7c hR h2,a7c hR h3⟩
 | .row i ver,v,h=>by simp only [b7c];exact b6x hR h
 | .win i ver p q,v,h=>by simp only [b7c];exact b6x hR h
 | .bp i o,v,h=>by simp only [b7c];exact b6x hR h
 | .rp i ver s k o x,v,h=>by simp only [b7c];exact b6x hR h
 | .mr _,v,h=>h
theorem a7c(hR:Rel T F0 w0 X W0 W H F w):∀{l:List DV}{cs:List Value},ConcL W H F l cs->ConcL W H F (c0k H l) cs
 | [],cs,h=>h
 |x::l,cs,⟨v,r,h1,h2,h3⟩=>⟨v,r,h1,b6d hR h2,a7c hR h3⟩
 end
theorem c5w{g:Blk->Blk}(hg:∀b,(g b).fz=b.fz):∀{H:DH}{W:List OE},ownW (H.map g) W=ownW H W
 | [],W=>by cases W<;>rfl
 |b::H,[]=>rfl
 |b::H,e::W=>by simp only [List.map_cons,ownW,hg,c5w hg (H:=H)]
theorem Rel.thaw(h:Rel T F0 w0 X W0 W H F w):Rel T F0 w0 X W0 W (b8v H H) F w/\Ext W H F W (b8v H H) F:=by
 have hx:Ext W H F W (b8v H H) F:=by
  refine⟨Frz.refl F,fun i b e h1 h2=>⟨{b with ob:=c0f H b.ob},e,by rw [a6v,List.getElem?_map,h1];rfl,h2,Nat.le_refl _,fun _=>⟨a0k (h.plain h2),Nat.le_refl _,fun _ k=> ?_⟩,fun _ _ _ _=>a0k (h.plain h2),fun _ _ _ _=>a0k (h.plain h2)⟩,fun i e h1=>h.atW h1⟩;cases hb:b.ob<;>simp only [c0f,elemO]
 refine⟨⟨by rw [a6v];simp [h.len],fun i b e h1 h2=> ?_,?_,h.gl,fun i e0 h0=> ?_⟩,hx⟩
 ·rw [a6v,List.getElem?_map]at h1;cases hb:H[i]? with
  |none=>simp [hb]at h1
  |some b0=>
   rw [hb]at h1;simp only [Option.map_some,Option.some.injEq]at h1;subst h1;obtain⟨h3,h4⟩:=h.blk i b0 e hb h2;refine⟨?_,h4⟩;refine RelO.ext hx ?_;show RelO W H F (c0f H b0.ob) e;cases hob:b0.ob with
   |box t cs=>rw [hob]at h3;obtain⟨g,us,k1,k2,k3⟩:=h3;exact⟨g,us,k1,a7c h k2,k3⟩
   |row _ _ _=>rw [hob]at h3;exact h3
   |nest _ _ _=>rw [hob]at h3;exact h3
   |mp _=>rw [hob]at h3;exact h3
 ·rw [a6v,c5w (g:=fun b=>{b with ob:=c0f H b.ob}) (fun _=>rfl)];exact h.hd
 obtain⟨b,e,h1,h2,h3⟩:=h.lent i e0 h0;exact⟨{b with ob:=c0f H b.ob},e,by rw [a6v,List.getElem?_map,h1];rfl,h2,h3⟩
theorem HD.chosen{O O':List OE}(h:HD F0 w0 X F O w)(hn:sel.Nodup)(hO:∀(j:Nat)oe,O'[j]?=some oe->∃i,sel[j]?=some i/\O[i]?=some oe):HD F0 w0 X F O' w:=by
 refine⟨h.sat,h.le,h.new,fun oe ho=> ?_,fun oe ho b hb=> ?_,?_,h.os,h.tape,h.output,h.size,h.old⟩
 ·obtain⟨j,hj⟩:=List.mem_iff_getElem?.1 ho;obtain⟨i,k1,k2⟩:=hO j oe hj;exact h.get k2
 ·obtain⟨j,hj⟩:=List.mem_iff_getElem?.1 ho;obtain⟨i,k1,k2⟩:=hO j oe hj;exact h.sep oe (List.mem_of_getElem? k2) b hb
 rw [List.pairwise_iff_getElem];intro p q hp hq hpq b hb1 hb2;obtain⟨i,k1,k2⟩:=hO p _ (List.getElem?_eq_getElem hp);obtain⟨i',k3,k4⟩:=hO q _ (List.getElem?_eq_getElem hq);refine b0j h.dis k2 k4 (fun e=> ?_) hb1 hb2;subst e;obtain⟨hp1,hp2⟩:=List.getElem?_eq_some_iff.1 k1;obtain⟨hq1,hq2⟩:=List.getElem?_eq_some_iff.1 k3;exact List.pairwise_iff_getElem.1 hn p q hp1 hq1 hpq (hp2.trans hq2.symm)
theorem Rel.chosen(h:Rel T F0 w0 X W0 W H F w)(hn:sel.Nodup)(hlt:∀i∈sel,i<H.length)(hp:∀i,i<W0.length->sel[i]?=some i):
 Rel T F0 w0 X W0 (Rt.pick W sel) (selH H sel sel) F w/\Ren W H sel (Rt.pick W sel) (selH H sel sel):=by
 obtain⟨h1,h2⟩:=b5q (W:=W) (l:=sel) fun i hi=>h.len▸hlt i hi;obtain⟨h3,h4⟩:=c0q (H:=H) (sel:=sel) hlt;have hK:Ren W H sel (Rt.pick W sel) (selH H sel sel):=by
  refine⟨fun i e he=>h.atW he,fun k i b e hk hb he=>⟨by rw [h2 k i hk,he],_,h4 k i b hk hb,rfl,rfl,rfl⟩⟩
 have hat:∀(j:Nat)b e,(selH H sel sel)[j]?=some b->(Rt.pick W sel)[j]?=some e->∃i b0,sel[j]?=some i/\H[i]?=some b0/\W[i]?=some e/\b={b0 with ver:=0,st:=0,ob:=renB H sel 0 b0.ob}:=by
  intro j b e hb he;have hj:j<sel.length:=h3▸(List.getElem?_eq_some_iff.1 hb).1;have hk:=List.getElem?_eq_getElem hj;have hi:=hlt _ (List.getElem_mem hj);have hb0:=h4 j _ _ hk (List.getElem?_eq_getElem hi);rw [hb]at hb0;cases hb0;rw [h2 j _ hk]at he;exact⟨_,_,hk,List.getElem?_eq_getElem hi,he,rfl⟩
 refine⟨⟨by rw [h3,h1],fun j b e hb he=> ?_,h.hd.chosen hn fun j oe hj=> ?_,h.gl,fun i e0 h0=> ?_⟩,hK⟩
 ·obtain⟨i,b0,k1,k2,k3,k4⟩:=hat j b e hb he;subst k4;obtain⟨g1,g2⟩:=h.blk i b0 e k2 k3;exact⟨c5a hK g1,g2⟩
 ·obtain⟨b,e,g1,g2,g3⟩:=ownW_some hj;obtain⟨i,b0,k1,k2,k3,k4⟩:=hat j b e g1 g2;subst k4;exact⟨i,k1,(ownW_get k2 k3).trans (congrArg some g3.symm)⟩
 obtain⟨b,e,k1,k2,k3⟩:=h.lent i e0 h0;have hi:=hp i (List.getElem?_eq_some_iff.1 h0).1;exact⟨_,e,h4 i i b hi k1,by rw [h2 i i hi,k2],k3⟩
theorem b8d(h:Rel T F0 w0 X W0 W H F w){l sel:List Nat}{f:Nat}(hr:a4t H f l (rng 0 W0.length)=some sel):sel.Nodup/\(∀i∈sel,i<H.length)/\∀i,i<W0.length->sel[i]?=some i:=by
 have hl:∀i,i<W0.length->i<H.length:=fun i hi=>by
  obtain⟨b,e,k1,_⟩:=h.lent i _ (List.getElem?_eq_getElem hi);exact(List.getElem?_eq_some_iff.1 k1).1
 obtain⟨h1,h2⟩:=a8k hr (rng_nodup _ _) fun i hi=>hl i (by have:=rng_mem _ _ _ hi;omega);refine⟨h1,h2,fun i hi=> ?_⟩;obtain⟨t,ht⟩:=a8l hr;have h3:=rng_get W0.length 0 i hi;rw [<-ht,List.getElem?_append_left (List.getElem?_eq_some_iff.1 h3).1,h3,Nat.zero_add]
theorem flagH_get:∀{k:Nat}{H:DH}{i:Nat}{b:Blk},(flagH k H)[i]?=some b->∃b0,H[i]?=some b0/\b.ver=b0.ver/\b.st=b0.st/\b.fz=b0.fz/\b.ob=b0.ob/\(i<k->b.ap=b0.ap)
 |_,[],i,b,h=>by simp [flagH]at h
 |0,⟨v,s,z,d,a,o⟩::l,0,b,h=>by simp only [flagH,List.getElem?_cons_zero,Option.some.injEq]at h;subst h;exact⟨_,rfl,rfl,rfl,rfl,rfl,fun h=>by omega⟩
 |0,⟨v,s,z,d,a,o⟩::l,i+1,b,h=>by
  simp only [flagH,List.getElem?_cons_succ]at h;obtain⟨b0,h1,h2⟩:=flagH_get h;exact⟨b0,by simpa using h1,h2.1,h2.2.1,h2.2.2.1,h2.2.2.2.1,fun h=>by omega⟩
 |k+1,⟨v,s,z,d,a,o⟩::l,0,b,h=>by simp only [flagH,List.getElem?_cons_zero,Option.some.injEq]at h;subst h;exact⟨_,rfl,rfl,rfl,rfl,rfl,fun _=>rfl⟩
 |k+1,⟨v,s,z,d,a,o⟩::l,i+1,b,h=>by
  simp only [flagH,List.getElem?_cons_succ]at h;obtain⟨b0,h1,h2⟩:=flagH_get h;exact⟨b0,by simpa using h1,h2.1,h2.2.1,h2.2.2.1,h2.2.2.2.1,fun h=>h2.2.2.2.2 (by omega)⟩
theorem flagH_len:∀{k:Nat}{H:DH},(flagH k H).length=H.length
 |_,[]=>rfl
 |0,⟨_,_,_,_,_,_⟩::l=>by simp [flagH,flagH_len (k:=0) (H:=l)]
 |k+1,⟨_,_,_,_,_,_⟩::l=>by simp [flagH,flagH_len (k:=k) (H:=l)]
theorem flagH_own:∀{k:Nat}{H:DH}{W:List OE},ownW (flagH k H) W=ownW H W
 |_,[],_=>rfl
 |0,⟨_,_,_,_,_,_⟩::l,[]=>rfl
 |0,⟨_,_,_,_,_,_⟩::l,e::W=>by simp only [flagH,ownW,flagH_own (k:=0) (H:=l)]
 |k+1,⟨_,_,_,_,_,_⟩::l,[]=>rfl
 |k+1,⟨_,_,_,_,_,_⟩::l,e::W=>by simp only [flagH,ownW,flagH_own (k:=k) (H:=l)]
theorem c3k{k:Nat}{H:DH}{i:Nat}{b:Blk}(h:H[i]?=some b):∃b',(flagH k H)[i]?=some b'/\b'.ver=b.ver/\b'.st=b.st/\b'.fz=b.fz/\b'.ob=b.ob/\(i<k->b'.ap=b.ap):=by
 have hi:i<(flagH k H).length:=by rw [flagH_len];exact(List.getElem?_eq_some_iff.1 h).1
 obtain⟨b0,h1,h2⟩:=flagH_get (List.getElem?_eq_getElem hi);rw [h]at h1;cases h1;exact⟨_,List.getElem?_eq_getElem hi,h2⟩
theorem Rel.flag(h:Rel T F0 w0 X W0 W H F w):Rel T F0 w0 X W0 W (flagH W0.length H) F w/\Ext W H F W (flagH W0.length H) F:=by
 have hx:Ext W H F W (flagH W0.length H) F:=by
  refine⟨Frz.refl F,fun i b e h1 h2=> ?_,fun i e h1=>h.atW h1⟩;obtain⟨b',g1,g2,g3,g4,g5,g6⟩:=c3k (k:=W0.length) h1;exact⟨b',e,g1,h2,by omega,fun _=>⟨a0k (h.plain h2),by omega,fun _ k=>by rw [g5]⟩,fun _ _ _ _=>a0k (h.plain h2),fun _ _ _ _=>a0k (h.plain h2)⟩
 refine⟨⟨by rw [flagH_len];exact h.len,fun i b e h1 h2=> ?_,by rw [flagH_own];exact h.hd,h.gl,fun i e0 h0=> ?_⟩,hx⟩
 ·obtain⟨b0,g1,g2,g3,g4,g5,g6⟩:=flagH_get h1;obtain⟨h3,h4⟩:=h.blk i b0 e g1 h2;rw [g4,g5];exact⟨RelO.ext hx h3,h4⟩
 obtain⟨b,e,h1,h2,h3⟩:=h.lent i e0 h0;obtain⟨b',g1,g2,g3,g4,g5,g6⟩:=c3k (k:=W0.length) h1;have:=g6 (List.getElem?_eq_some_iff.1 h0).1;exact⟨b',e,g1,h2,by rw [this];exact h3⟩
theorem c3n(h:Rel T F0 w0 X W0 W H F w)(hE:EnvR n W H F e a){live:List Nat}{e':DE}{H':DH}(hs:c9g W0.length live e H=some (e',H')):∃W',Rel T F0 w0 X W0 W' H' F w/\EnvR n W' H' F e' a:=by
 unfold c9g at hs;simp only [sH_eq,sE_eq,sN_eq]at hs;split at hs
 ·rename_i sel hr;cases hs;obtain⟨k1,k2⟩:=h.thaw;obtain⟨g1,g2,g3⟩:=b8d k1 hr;obtain⟨m1,m2⟩:=k1.chosen g1 g2 g3;obtain⟨m3,m4⟩:=m1.flag;refine⟨_,m3,hE.size,hE.defers,fun t d ht=> ?_⟩;rw [b9t,b4s]at ht;cases hl:a0l t (cutE e live)with
  |none=>rw [hl]at ht;simp at ht
  |some d0=>
   rw [hl]at ht;simp only [Option.map_some,Option.some.injEq]at ht;subst ht;obtain⟨u,h1,h2⟩:=hE.get t d0 (b3e hl);exact⟨u,h1,(b1d m2 ((b6d h h2).ext k2)).ext m4⟩
 cases hs
end
set_option linter.unusedVariables false
set_option linter.unusedSimpArgs false
section
variable{P:Program}{T:Ty P}{n:Nat}{F0:Frz}{w0:World}{X:List Nat}{W0 W W2:List OE}{H H2:DH}{F F1 F2:Frz}{e:DE}{a:Act}{w:World}{sel:List Nat}
def EnvL(W:List OE)(H:DH)(F:Frz)(a:Act):DE->Prop | []=>True |(k,x)::l=>(∃u,a.tmps[k]?=some u/\Conc W H F x u)/\EnvL W H F a l
theorem EnvL.ext{W':List OE}{H':DH}{F':Frz}(hx:Ext W H F W' H' F'):∀{e:DE},EnvL W H F a e->EnvL W' H' F' a e
 | [],_=>trivial
 |(k,x)::l,⟨⟨u,h1,h2⟩,h3⟩=>⟨⟨u,h1,h2.ext hx⟩,h3.ext hx⟩
theorem EnvL.look:∀{e:DE},EnvL W H F a e->∀t d,a0l t e=some d->∃u,a.tmps[t]?=some u/\Conc W H F d u
 | [],_,t,d,h=>by simp [a0l]at h
 |(k,x)::l,⟨⟨u,h1,h2⟩,h3⟩,t,d,h=>by
  simp only [a0l]at h;split at h
  ·rename_i hb;obtain rfl:=Nat.eq_of_beq_eq_true hb;cases h;exact⟨u,h1,h2⟩
  exact h3.look t d h
theorem b5l(hE:EnvR n W H F e a):∀{l:List Nat},EnvL W H F a (cutE e l)
 | []=>trivial
 |k::l=>by
  simp only [cutE];split
  ·rename_i x hx;exact⟨hE.get k x hx,b5l hE⟩
  exact b5l hE
theorem b5w{ds:List (Nat×TypeId)}:∀{e:DE}{W:List OE}{H:DH},Rel T F0 w0 X W0 W H F w->EnvL W H F a e->
 ∃A B,(b2p T ds e H).2=H++B/\Rel T F0 w0 X W0 (W++A) (H++B) F w/\Ext W H F (W++A) (H++B) F/\EnvL (W++A) (H++B) F a (b2p T ds e H).1
 | [],W,H,h,_=>⟨[],[],by simp [b2p],by simpa using h,by simpa using h.refl,trivial⟩
 |(k,x)::l,W,H,h,⟨⟨u,h1,h2⟩,h3⟩=>by
  have hstd:∀y,Conc W H F y u->∃A B,(b2p T ds l H).2=H++B/\Rel T F0 w0 X W0 (W++A) (H++B) F w/\Ext W H F (W++A) (H++B) F/\EnvL (W++A) (H++B) F a ((k,y)::(b2p T ds l H).1):=by
   intro y hy;obtain⟨A,B,g1,g2,g3,g4⟩:=b5w (ds:=ds) (e:=l) h h3;exact⟨A,B,g1,g2,g3,⟨u,h1,hy.ext g3⟩,g4⟩
  simp only [b2p];split
  ·rename_i t;split
   ·rename_i el q b hq;rw [a1d];obtain rfl:u= .slice none 0 0:=h2;obtain⟨k1,k2,k3⟩:=h.nilRow el q;obtain⟨A,B,g1,g2,g3,g4⟩:=b5w (ds:=ds) (e:=l) k1 (h3.ext k2);rw [a1j];refine⟨.row el q none 0 0 []::A,nblk (.row el q [])::B,?_,?_,?_,?_⟩
    ·rw [g1];simp
    ·simpa using g2
    ·have:=k2.trans g3;simpa using this
    have k4:=k3.ext g3;simp only [List.append_assoc,List.cons_append,List.nil_append]at g4 k4;exact⟨⟨_,h1,k4⟩,g4⟩
   exact hstd _ h2
  ·exact hstd _ (conc_unlit h2)
  exact hstd _ h2
theorem e3r{ds:List (Nat×TypeId)}{e:DE}{W:List OE}{H:DH}(h:Rel T F0 w0 X W0 W H F w)(hE:EnvL W H F a e):
 ∃A B,(ownE T ds e H).2=H++B/\Rel T F0 w0 X W0 (W++A) (H++B) F w/\Ext W H F (W++A) (H++B) F/\EnvL (W++A) (H++B) F a (ownE T ds e H).1:=by
 unfold ownE;split
 ·exact b5w h hE
 exact⟨[],[],by simp,by simpa using h,by simpa using h.refl,by simpa using hE⟩
theorem d8x(h:Rel T F0 w0 X W0 W H F w)(hE:EnvR n W H F e a){body:Code}{k:List It}{rs:List ResultVar}{s:St}(hs:e3w T W0.length body k rs e H=some s):
 ∃live e' H' W',s=⟨.code body,.loop body live::k,e',H'⟩/\Rel T F0 w0 X W0 W' H' F w/\EnvR n W' H' F e' a:=by
 unfold e3w at hs;dsimp only at hs;obtain⟨A,B,g1,g2,g3,g4⟩:=e3r (T:=T) (ds:=dsts body []) h (b5l (l:=c9t (occR rs (occI k (occ body 0))) e 0) hE);generalize ownE T (dsts body []) (cutE e (c9t (occR rs (occI k (occ body 0))) e 0)) H=r at hs g1 g4;obtain⟨e1,H1⟩:=r;dsimp only at hs g1 g4;subst g1;split at hs
 ·rename_i sel hr;obtain⟨W2,k1,k2⟩:=c8u (l:=sel) g2;split at hs
  ·rename_i e2 H2 hh;cases hs;obtain⟨W3,m1,m2⟩:=c3n (n:=n) (a:=a) k1 ⟨hE.size,hE.defers,(g4.ext k2).look⟩ hh;exact⟨_,e2,H2,W3,rfl,m1,m2⟩
  cases hs
 cases hs
end
set_option linter.unusedVariables false
set_option linter.unusedSimpArgs false
section
variable{P:Program}{T:Ty P}{n:Nat}{F0:Frz}{w0:World}{X:List Nat}{W0 W W2:List OE}{H H2:DH}{F F1 F2:Frz}{e:DE}{a:Act}{w:World}{sel:List Nat}
def b4y(a:Act):ResultVar->Go.Sem Value
 | .tmp t=>Pure.pure (a.tmps.getD t undef)
 | .cell c t=>do loadVar t (<-asAddr (a.tmps.getD c undef))
theorem c7m(fn:Func)(a:Act):results fn a.tmps=(do
 let vs<-fn.results.mapM (b4y a)
 Pure.pure (if h:vs.size=1 then vs[0]else .tuple vs)):=by
 unfold results
 congr 1
theorem d8q(hT:TyOk T){t:TypeId}{cs:List DV}{r:DV}(h:a5l T t cs=some r){us:List Value}(hc:ConcL W H F cs us)(h1:us.all Value.oneCell'=true){b o:Nat}
 (hw:∀j v,us[j]?=some v->w.cell? ⟨b,o+j,none⟩=some v):∃u,Conc W H F r u/\(loadVar t ⟨b,o,none⟩).run P w= .ok u w:=by
 unfold a5l at h;split at h
 ·rename_i hA;have hA:=hT.agg hA;split at h
  ·rename_i y l;cases h;obtain⟨v,k,rfl,h2,_⟩:=hc;refine⟨v,h2,?_⟩;have h3:=hw 0 v (by simp);simp [loadVar,hA w,show w.cell? ⟨b,o,none⟩=some v from h3]
  cases h
 ·rename_i hA;have hA:=hT.agg hA;split at h
  ·rename_i m hS;have hS:=hT.size hS;split at h
   ·rename_i l hl;cases h;obtain⟨e1,e2⟩:=a8s hl;have h4:=ConcL.take m hc;rw [e1]at h4;have h5:(us.take m).length=m:=by rw [h4.len,e2]
    refine⟨_,⟨us.take m,rfl,h4,List.all_eq_true.2 fun y hy=>List.all_eq_true.1 h1 y (List.mem_of_mem_take hy)⟩,?_⟩;have e:=run_loadCells_list (P:=P) w ⟨b,o,none⟩ (us.take m) (fun j v hj=>by
     rw [addr_add];refine hw j v ?_;rw [List.getElem?_take]at hj;split at hj
     ·exact hj
     cases hj)
    rw [h5]at e;simp [loadVar,hA w,hS w,e]
   cases h
  cases h
 cases h
theorem c1j(hT:TyOk T)(hR:Rel T F0 w0 X W0 W H F w)(hE:EnvR n W H F e a):∀{l:List ResultVar}{r:List DV},resA T e H l=some r->
 ∃us,ConcL W H F r us/\(List.mapM (b4y a) l).run P w= .ok us w
 | [],r,h=>by simp only [resA,Option.some.injEq]at h;subst h;exact⟨[],rfl,by simp⟩
 | .tmp t::l,r,h=>by
   simp only [resA]at h;split at h
   ·rename_i x hx;split at h
    ·rename_i r' hl;cases h;obtain⟨u,h1,h2⟩:=hE.get t x hx;obtain⟨us,h3,h4⟩:=c1j hT hR hE hl;refine⟨u::us,⟨u,us,rfl,h2,h3⟩,?_⟩;have h5:(b4y a (.tmp t)).run P w= .ok u w:=by simp [b4y,Array.getD_eq_getD_getElem?,h1]
     simp [List.mapM_cons,h5,h4]
    cases h
   cases h
 | .cell c t::l,r,h=>by
   simp only [resA]at h;split at h
   ·rename_i i o hx;split at h
    ·rename_i vr st fz dr ap t' cs hi;rw [a0j]at hi;split at h
     ·rename_i x hlo;split at h
      ·rename_i r' hl;cases h;obtain⟨u,h1,g,tb,us0,k1,rfl⟩:=hE.get c _ hx;obtain⟨k2,_⟩:=hR.blk i _ _ hi k1;obtain⟨g',us1,k3,k4,k5⟩:=k2;cases k3;have hcell:=hR.cell hi k1;rw [a4d]at hlo;obtain⟨v,m1,m2⟩:=d8q (w:=w) (b:=g) (o:=o) hT hlo (ConcL.drop o k4) (List.all_eq_true.2 fun y hy=>List.all_eq_true.1 k5 y (List.mem_of_mem_drop hy)) fun j v hj=>by
        rw [List.getElem?_drop]at hj;exact hcell _ _ hj
       obtain⟨us,h3,h4⟩:=c1j hT hR hE hl;refine⟨v::us,⟨v,us,rfl,m1,h3⟩,?_⟩;have h5:(b4y a (.cell c t)).run P w= .ok v w:=by simp [b4y,Array.getD_eq_getD_getElem?,h1,asAddr,m2]
       simp [List.mapM_cons,h5,h4]
      cases h
     cases h
    cases h
   cases h
theorem conc_oneR:∀{l:List DV}{us:List Value},ConcL W H F l us->Conc W H F (oneR l) (if h:us.toArray.size=1 then us.toArray[0]else .tuple us.toArray)
 | [],us,h=>by simp only [ConcL]at h;subst h;exact⟨[],rfl,rfl⟩
 | [x],us,⟨v,k,h1,h2,h3⟩=>by simp only [ConcL]at h3;subst h3;subst h1;exact h2
 |x::y::l,us,h=>by
  have:=h.len;rw [dif_neg (by simp [this])];exact⟨us,rfl,h⟩
theorem c5p{x:DV}{v:Value}(h:Conc W H F x v):Conc W H F (c8o x) v:=by
 unfold c8o;split
 ·rename_i y hy;exact pureD_ok hy h
 exact h
theorem normL_ok:∀{l:List DV}{cs:List Value},ConcL W H F l cs->ConcL W H F (l.map c8o) cs
 | [],cs,h=>h
 |x::l,cs,⟨v,r,h1,h2,h3⟩=>⟨v,r,h1,c5p h2,normL_ok h3⟩
theorem d8a{x:DV}{v:Value}(h:Conc W H F x v):Conc W H F (normR x) v:=by
 unfold normR;split
 ·obtain⟨cs,h1,h2⟩:=h;exact⟨cs,h1,normL_ok h2⟩
 exact c5p h
theorem e3z(hT:TyOk T)(hR:Rel T F0 w0 X W0 W H F w)(hE:EnvR n W H F e a){fn:Func}{fr:Fr}(hp:fr.pin=W0.length)(hrs:fr.rs=fn.results.toList){r:DV}{Hr:DH}(h:retA T fr e H=some (r,Hr)):
 ∃v,(results fn a.tmps).run P w= .ok v w/\(∀b∈Hr,b.ver=0/\b.st=0)/\∃Wr F',Rel T F0 w0 X W0 Wr Hr F' w/\Conc Wr Hr F' r v:=by
 unfold retA at h;split at h
 ·rename_i l hl;obtain⟨us,g1,g2⟩:=c1j hT hR hE hl;have hrun:(results fn a.tmps).run P w= .ok (if h:us.toArray.size=1 then us.toArray[0]else .tuple us.toArray) w:=by
   rw [c7m];rw [hrs]at g2;have e1:fn.results=fn.results.toList.toArray:=by simp
   rw [e1,List.mapM_toArray];rw [Sem.run_bind,Sem.run_map,g2];simp
  have hz:∀q,retL fr.own H l=some q->∃F1,Rel T F0 w0 X W0 W (markZ q.2 H) F1 w/\ConcL W (markZ q.2 H) F1 q.1 us:=by
   rintro⟨l1,is⟩ hf;unfold retL at hf;split at hf
   ·cases hf;exact⟨F,hR,g1⟩
   obtain⟨F1,h1,h2,h3,h4⟩:=hR.mark (is:=is) fun i hi o ho=>a5d hR hf i hi o ho;exact⟨F1,h2,a9b hR h1 h4 hf h3 g1⟩
  cases hq:retL fr.own H l with
  |none=>rw [hq]at h;simp [retB]at h
  |some q=>
  obtain⟨F1,h2,h3⟩:=hz q hq;obtain⟨l1,is⟩:=q;rw [hq]at h;simp only [retB,sH_eq,sD_eq,sN_eq]at h;dsimp only at h2 h3;obtain⟨k1,k2⟩:=h2.thaw;split at h
  ·rename_i sel hr;rw [hp]at hr;cases h;obtain⟨m1,m2,m3⟩:=b8d k1 hr;obtain⟨q1,q2⟩:=k1.chosen m1 m2 m3;exact⟨_,hrun,fun b hb=>b5u hb,_,F1,q1,d8a (b1d q2 ((b6d h2 (conc_oneR h3)).ext k2))⟩
  cases h
 cases h
end
end Dp
end Go.Proofs.YtjegnogjkddnbaaGreatDoor
