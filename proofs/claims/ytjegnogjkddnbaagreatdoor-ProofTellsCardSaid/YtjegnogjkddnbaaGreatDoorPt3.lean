/- Several texts in one, for ProofTells.card: what the theorem leans on. -/
import Derived.Lib.ItoaMem
import Derived.Lib.Join
import Derived.Lib.Bytealg
import Derived.Lib.Repeat
import Derived.Lib.Strings
import Derived.Lib.IndexMore
import Derived.Lib.AtoiAll
import Derived.Shelf.Strings.Builder1
import Derived.Shelf.Strings.Builder2
import Derived.Shelf.Strings.OnBuilder
import Derived.Shelf.Strings.Trim
import Derived.Shelf.Small.Utf8
import Derived.Shelf.Small.Strs
import Derived.Shelf.Small.Wraps
import Derived.Shelf.Strings.BuilderF
import Derived.Shelf.Strings.BuilderK
import Derived.Shelf.Strings.Builder2Cap
import Derived.Shelf.Strconv.Atoi
import Derived.Shelf.Strconv.Itoa0
import Derived.Shelf.Strconv.Itoa1
import Derived.Shelf.LaysM
import Derived.Shelf.Strconv.Itoa2
import Derived.Shelf.Strconv.Itoa3
import Derived.Shelf.Strconv.AtoiErrFast
import Derived.Shelf.Strconv.ParseIntEmpty
import Derived.Shelf.Strconv.AtoiFail
import Derived.Shelf.Strconv.Clone
import Derived.Shelf.Strconv.SyntaxError
import Derived.Shelf.LaysC
import Derived.Shelf.Strconv.ToError
import Derived.Shelf.Strconv.Lower
import Derived.Shelf.Strconv.ParseUint10
import Derived.Shelf.Strconv.ParseUint10Empty
import Derived.Shelf.Strconv.ParseUint10Any
import Derived.Shelf.Strconv.ParseInt10
import Derived.Shelf.Strconv.AtoiLong
import Derived.Shelf.Strconv.AtoiInnerAll
import Derived.Shelf.Strconv.RangeError
import Derived.Shelf.Strconv.ToErrorRange
import Derived.Shelf.Strconv.AtoiAll
import Derived.Shelf.Strings.Search1
import Derived.Shelf.Strings.Search2
import Derived.Shelf.Strings.Cut
import Derived.Shelf.Strings.Shaped
import Derived.Shelf.Strings.Prefix
import Derived.Shelf.Strings.Runes
import Derived.Shelf.Strings.AsciiSet
import Derived.Shelf.Bits.Mul64
import Derived.Shelf.Strings.Repeat
import Derived.Shelf.Unicode.DecodeSlow
import Derived.Shelf.Strings.BuilderCap
import Derived.Ground.SlgnProg
import Derived.Shelf.SlicesE.Clone
import Derived.Ground.SlgmProg
import Derived.Shelf.SortM.Plain
import Derived.Shelf.SortM.SortNone
import Derived.Test.YtjegnogjkddnbaaGreatDoorProg
import Derived.Lib.LaidTab
import Derived.Lib.AppendIntMem
import Derived.Lib.AsciiSet
import Derived.Test.YtjegnogjkddnbaaGreatDoorRows
import Derived.WalkKit
import Derived.WalkSpells
import Derived.WalkLawsBesides
import Derived.Lib.Hide
import Derived.Lib.Walk
import Derived.Lib.Builder
import Derived.Lib.AppendStr
import Derived.Lib.UnsafeStr
import Derived.Laws.Externs
import Derived.Shelf.SlIterI.Sorted
import Derived.Sort.OwnSortedInts
import Derived.Test.YtjegnogjkddnbaaGreatDoorPt2
namespace Go.Proofs.YtjegnogjkddnbaaGreatDoor
namespace Dp
open Go Go.RowKit Go.Proofs.YtjegnogjkddnbaaGreatDoor.Rt
set_option linter.unusedVariables false
set_option linter.unusedSimpArgs false
section
variable{P:Program}
def Post(P:Program)(fn:Func)(R:Ending->World->Prop)(N:Nat):List It->Exit->Act->World->Prop | []=>bodyPost P fn R | .code c::k=>Exit.then (c.wp P (Post P fn R N k)) (Post P fn R N k) | .blk j::k=>Exit.inBlock j (Post P fn R N k) | .scope::k=>Exit.noGoto (Post P fn R N k) | .loop c _::k=>Exit.then (Code.rounds P c (Post P fn R N k) N) (Post P fn R N k)
theorem a4q{A A':Act->World->Prop}{Q Q':Exit->Act->World->Prop}(h1:∀a w,A a w->A' a w)(h2:∀e a w,Q e a w->Q' e a w)(e:Exit)(a:Act)(w:World)(h:Exit.then A Q e a w):Exit.then A' Q' e a w:=by
 cases e<;>first|exact h1 _ _ h|exact h2 _ _ _ h
theorem a5m{c:Code}{Q Q':Exit->Act->World->Prop}(h2:∀e a w,Q e a w->Q' e a w):∀{N N':Nat}{a:Act}{w:World},N<=N'->Code.rounds P c Q N a w->Code.rounds P c Q' N' a w
 |0,N',a,w,_,h=>h.elim
 |N+1,0,a,w,hl,_=>by omega
 |N+1,N'+1,a,w,hl,h=>by
  rw [rounds_succ]at h⊢;exact Code.wp_mono (a4q (fun a w h=>a5m h2 (by omega) h) h2) h
theorem a0g{fn:Func}{R:Ending->World->Prop}{N N':Nat}(hl:N<=N'):∀{k:List It}(e:Exit)(a:Act)(w:World),Post P fn R N k e a w->Post P fn R N' k e a w
 | [],e,a,w,h=>h
 | .code c::k,e,a,w,h=>a4q (fun a w h=>Code.wp_mono (a0g hl) h) (a0g hl) e a w h
 | .blk j::k,e,a,w,h=>by
   simp only [Post]at h⊢;cases e<;>simp only [Exit.inBlock]at h⊢<;>first
    |exact a0g hl _ _ _ h
    |(split at h
      ·rename_i hj;rw [if_pos hj];exact a0g hl _ _ _ h
      rename_i hj;rw [if_neg hj];exact a0g hl _ _ _ h)
 | .scope::k,e,a,w,h=>by
   simp only [Post]at h⊢;cases e<;>simp only [Exit.noGoto]at h⊢<;>first
    |exact a0g hl _ _ _ h
    |exact h.elim
 | .loop c _::k,e,a,w,h=>a4q (fun a w h=>a5m (a0g hl) hl h) (a0g hl) e a w h
end
section
variable{P:Program}{T:Ty P}{n:Nat}{F0:Frz}{w0:World}{X:List Nat}{W0 W W2:List OE}{H H2:DH}{F F1 F2:Frz}{e:DE}{a:Act}{w:World}{sel:List Nat}
theorem b1s{ops:Array Oper}{Q Q':Exit->Act->World->Prop}(h:∀e a w,Q e a w->Q' e a w):∀{l:List Oper}{a:Act}{w:World},wpList P ops Q l a w->wpList P ops Q' l a w:=by
 have hout:LetsOut Q->LetsOut Q':=fun⟨a,w,hq⟩=>⟨a,w,h _ _ _ hq⟩
 have upon_mono:∀(o:Oper)(a:Act)(w:World)(N N':Act->World->Prop),(∀a w,N a w->N' a w)->o.wp P a w N Q->o.wp P a w N' Q':=by
  intro o a w N N' hN hq;unfold Oper.wp at hq⊢;cases hr:(execOp a.eval o).run P w with
  |ok x w'=>
   rw [hr]at hq;cases x<;>simp only [Oper.upon]at hq⊢<;>first
    |exact hN _ _ hq
    |exact hq.elim
    |exact Calls.mono hq (fun e w'' he=>by cases e<;>first|exact hN _ _ he|exact h _ _ _ he|exact hout he)
    |exact Rows.mono hq (fun v w'' he=>hN _ _ he)
    |exact hq
  |halt x w'=>
   rw [hr]at hq;cases x<;>simp only [Oper.upon]at hq⊢<;>first
    |exact h _ _ _ hq
    |exact hq.elim
    |exact hq
 intro l;induction l with
 |nil=>intro a w hq;exact h _ _ _ hq
 |cons o l ih=>
  intro a w hq;simp only [wpList]at hq⊢;split at hq
  ·rename_i hw;rw [if_pos hw];rcases hq with hq|⟨h1,h2⟩
   ·exact .inl (upon_mono _ _ _ _ _ (fun a w=>ih) hq)
   exact .inr ⟨h1,hout h2⟩
  rename_i hw;rw [if_neg hw];exact ih hq
theorem c7j(hE:EnvR n W H F e a){ops:Array Oper}{o:Oper}{b:Bool}(h:a5f ops e o.guard=some b):Region.wanted o (yielded ops a.tmps)=b:=by
 unfold Region.wanted;cases hg:o.guard with
 |none=>rw [hg]at h;simp only [a5f,Option.some.injEq]at h;exact h
 |some jb=>
  obtain⟨j,c⟩:=jb;rw [hg]at h;simp only [a5f]at h;simp only [yielded];split at h
  ·rename_i t ht;split at h
   ·rename_i x hx;obtain⟨u,h1,h2⟩:=hE.get t x hx;split at h
    ·rename_i d hd;cases h;cases x<;>simp [litOf]at hd;subst hd;obtain rfl:u= .bool _:=h2;simp [ht,h1]
    split at h
    ·cases h;obtain⟨cs,rfl,_⟩:=h2;simp [ht,h1]
    cases h
   cases h
  cases h
end
set_option linter.unusedVariables false
set_option linter.unusedSimpArgs false
section
variable{P:Program}(T:Ty P)
def Cl(P:Program)(fn:Func)(R:Ending->World->Prop)(N:Nat):Ctl->List It->Act->World->Prop | .code c,k,a,w=>c.wp P (Post P fn R N k) a w | .out x,k,a,w=>Post P fn R N k x a w | .ops false all _ l _,k,a,w=>wpList P all (Post P fn R N k) l a w | .ops true _ _ _ _,_,_,_=>True
def RR(F0:Frz)(w0:World)(X:List Nat)(W0:List OE)(Hr:DH)(r:DV):Ending->World->Prop:= fun x w'=>∃v F' Wr,x= .returned v/\Rel T F0 w0 X W0 Wr Hr F' w'/\Conc Wr Hr F' r v
def c2c(n:Nat):Prop:=∀{fr:Fr}{ctl:Ctl}{k:List It}{e:DE}{H:DH}{r:DV}{Hr:DH}{fn:Func}{F0:Frz}{w0:World}{X:List Nat}{W0 W:List OE}{F:Frz}{a:Act}{w:World}, D T n fr ⟨ctl,k,e,H⟩=some (r,Hr)->fr.pin=W0.length->fr.rs=fn.results.toList->Rel T F0 w0 X W0 W H F w->EnvR fr.n W H F e a->Cl P fn (RR T F0 w0 X W0 Hr r) n ctl k a w
def b0l(n:Nat):Prop:=∀{f:FuncId}{az:List DV}{Hc:DH}{r:DV}{Hr:DH},Df T n f az Hc=some (r,Hr)->FnOk T f az Hc r Hr
def DrawOk:Prop:=∀{n:Nat}{fr:Fr}{id:Nat}{all:Array Oper}{k:List It}{e:DE}{H:DH}{r:DV}{Hr:DH}{Q:Exit->Act->World->Prop}{F0:Frz}{w0:World}{X:List Nat}{W0 W:List OE}{F:Frz}{a:Act}{w:World}, D T n fr ⟨.ops true all 0 all.toList [],k,e,H⟩=some (r,Hr)->fr.pin=W0.length->Rel T F0 w0 X W0 W H F w->EnvR fr.n W H F e a->(∀m,m<=n->b0l T m)-> (∀m,m<=n->∀e' H' W' F' a' w',D T m fr ⟨.out .normal,k,e',H'⟩=some (r,Hr)->Rel T F0 w0 X W0 W' H' F' w'->EnvR fr.n W' H' F' e' a'->Q .normal a' w')->(Code.region id all true).wp P Q a w
end
section
variable{P:Program}{T:Ty P}{n:Nat}{F0:Frz}{w0:World}{X:List Nat}{W0 W W2:List OE}{H H2:DH}{F F1 F2:Frz}{e:DE}{a:Act}{w:World}{sel:List Nat}
theorem d4a(hE:EnvR n W H F e a){d:Option Nat}(hd:b0n n d=true){x:DV}{u:Value}(hx:Conc W H F x u):EnvR n W H F (putD d (some x) e) (a.put d u):=by
 cases d with
 |none=>exact hE
 |some d=>exact hE.put (by simpa [b0n]using hd) hx
theorem b6j(hE:EnvR n W H F e a){t:Nat}{b:Bool}(h:a0l t e=some (.v (.bool b))):EnvR n W H F ((t,.lit b)::e) a:=by
 refine⟨hE.size,hE.defers,fun j d hj=> ?_⟩;simp only [a0l]at hj;split at hj
 ·rename_i hb;obtain rfl:=Nat.eq_of_beq_eq_true hb;cases hj;obtain⟨u,h1,h2⟩:=hE.get _ _ h;exact⟨u,h1,h2⟩
 exact hE.get j d hj
theorem conc_undef:Conc W H F undefD undef:=⟨[],rfl,rfl⟩
theorem b3q{Q:Exit->Act->World->Prop}{K:Act->World->Prop}{o:Oper}{u:Value}{w':World}(hr:(execOp a.eval o).run P w= .ok (.value u) w')(k:K (a.put o.dst u) w'):o.wp P a w K Q:=by
 unfold Oper.wp;rw [hr,Oper.upon_value];exact k
theorem d8z{Q:Exit->Act->World->Prop}{K:Act->World->Prop}{o:Oper}{w':World}(hr:(execOp a.eval o).run P w= .ok .skip w')(k:K (a.put o.dst undef) w'):o.wp P a w K Q:=by
 unfold Oper.wp;rw [hr,Oper.upon_skip];exact k
theorem d0u{Q:Exit->Act->World->Prop}{K:Act->World->Prop}{o:Oper}{f:FuncId}{us:Array Value}{R:Value->World->Prop}(hr:(execOp a.eval o).run P w= .ok (.enter f us) w)
 (hc:Calls P f us w fun x w'=>∃v,x= .returned v/\R v w') (k:∀v w',R v w'->K (a.put o.dst v) w'):o.wp P a w K Q:=by
 unfold Oper.wp;rw [hr,Oper.upon_enter];refine hc.mono ?_;rintro x w' ⟨v,rfl,h⟩;exact k v w' h
theorem f1h{ops:Array Oper}{Q:Exit->Act->World->Prop}{o:Oper}{l:List Oper}(hw:Region.wanted o (yielded ops a.tmps)=true)(h:o.wp P a w (wpList P ops Q l) Q):wpList P ops Q (o::l) a w:=by
 unfold wpList;rw [if_pos hw];exact .inl h
def Got(T:Ty P)(H:DH):OpR->Res->Prop | .val v _,q=>q.v=some v/\q.H=H | .gro v _,q=>q.v=some v/\q.H=H | .askV _ x g _,q=>∃y,x=some y/\q.v=some (g y)/\q.H=H | .mem r,q=>q=r | .askM _ x g,q=>∃y,x=some y/\q=g y | .call f az Hc g,q=>∃r Hr,FnOk T f az Hc r Hr/\g r Hr=some q | .pcall fl f az,q=>∃r Hr,FnOk T f (az.map .v) [] r Hr/\resP fl H r Hr=some q | .none,_=>False
theorem e9l{Q:Exit->Act->World->Prop}{K:Act->World->Prop}{o:Oper}{q:OpR}{res:Res}(hR:Rel T F0 w0 X W0 W H F w)(hO:OpOk T F0 w0 X W0 W H F a w o q)(hg:Got T H q res)
 (k:∀u w' W' F',Rel T F0 w0 X W0 W' res.H F' w'->Ext W H F W' res.H F'->(∀d,valU res.v=some d->Conc W' res.H F' d u)->K (a.put o.dst u) w'):o.wp P a w K Q:=by
 have hcalm:∀{v:DV}{u:Value},Conc W H F v u->a0p P a w o u->res.v=some v->res.H=H->o.wp P a w K Q:=by
  intro v u h2 h3 hv hH;refine b3q h3 (k u w W F (by rw [hH];exact hR) (by rw [hH];exact hR.refl) fun d hd=> ?_);rw [hv]at hd;cases hd;rw [hH];exact h2
 have hmem:∀g:Res,g.v=res.v->g.H=res.H->MemR T F0 w0 X W0 W H F a w o g->o.wp P a w K Q:=by
  rintro⟨gv,gH,rd,wr⟩ e1 e2 ⟨W',F',w',nx,h1,h2,h3,h4⟩;dsimp only at e1 e2 h2 h3 h4;subst e1 e2;cases hv:res.v with
  |none=>
   rw [hv]at h4;dsimp only at h4;subst h4;exact d8z h1 (k _ _ _ _ h2 h3 fun d hd=>by rw [hv]at hd;cases hd;exact conc_undef)
  |some v=>
   rw [hv]at h4;obtain⟨u,rfl,h5⟩:=h4;exact b3q h1 (k _ _ _ _ h2 h3 fun d hd=>by rw [hv]at hd;cases hd;exact h5)
 have hres:∀(f:FuncId)(us:List Value)(g:Res),g.v=res.v->g.H=res.H->(Ent P f->(execOp a.eval o).run P w= .ok (.enter f us.toArray) w)->c7s T F0 w0 X W0 W H F w f us g->o.wp P a w K Q:=by
  rintro f us ⟨gv,gH,rd,wr⟩ e1 e2 he ⟨h1,h2⟩;dsimp only at e1 e2 h2;subst e1 e2;refine d0u (he h1) h2 ?_;rintro v w' ⟨W',F',h3,h4,d,h5,h6⟩;exact k _ _ _ _ h3 h4 fun d' hd=>by rw [h5]at hd;cases hd;exact h6
 cases q with
 |val v rd=>
  obtain⟨hg1,hg2⟩:=hg;rcases hO with h1|⟨h1,_⟩|⟨f,us,_,h1⟩
  ·cases h1
  ·obtain⟨u,h2,h3⟩:=h1;exact hcalm h2 h3 hg1 hg2
  exact h1.elim
 |gro v rd=>
  obtain⟨hg1,hg2⟩:=hg;rcases hO with h1|⟨_,h1⟩|⟨f,us,h0,h1⟩
  ·cases h1
  ·exact hmem _ hg1.symm hg2.symm h1
  exact hres f us _ hg1.symm hg2.symm h0 h1
 |mem g=>
  obtain rfl:res=g:=hg;rcases hO with h1|⟨_,h1⟩|⟨f,us,h0,h1⟩
  ·cases h1
  ·exact hmem _ rfl rfl h1
  exact hres f us _ rfl rfl h0 h1
 |askV α x g rd=>
  obtain⟨y,hy,hg1,hg2⟩:=hg;rcases hO with h1|⟨h1,_⟩|⟨f,us,_,h1⟩
  ·cases h1
  ·obtain⟨u,h2,h3⟩:=h1 y hy;exact hcalm h2 h3 hg1 hg2
  exact h1.elim
 |askM α x g=>
  obtain⟨y,hy,rfl⟩:=hg;rcases hO with h1|⟨_,h1⟩|⟨f,us,h0,h1⟩
  ·cases h1
  ·exact hmem _ rfl rfl (h1 y hy)
  exact hres f us _ rfl rfl h0 (h1 y hy)
 |call f az Hc g=>
  obtain⟨r,Hr,hf,hg⟩:=hg;rcases hO with h1|⟨_,h1⟩|⟨f',us,h0,h1⟩
  ·cases h1
  ·exact h1.elim
  exact hres f' us _ rfl rfl h0 (h1 r Hr res hf hg)
 |pcall fl f az=>
  obtain⟨r,Hr,hf,hg⟩:=hg;rcases hO with h1|⟨_,h1⟩|⟨f',us,h0,h1⟩
  ·cases h1
  ·exact h1.elim
  exact hres f' us _ rfl rfl h0 (h1 r Hr res hf hg)
 |none=>exact hg.elim
def RcOk(T:Ty P)(rc:Option (FuncId×List VT×DV)):Prop:=∀f az r,rc=some (f,az,r)->FnOk T f (az.map .v) [] r []/\c8e r=true
theorem rc_none:RcOk T none:=fun _ _ _ h=>by cases h
mutual
theorem b7u{k:Nat}:∀{x:DV},refD x= []->shD k x=x
 | .v x,_=>rfl
 | .lit b,_=>rfl
 | .nil,_=>rfl
 | .any,_=>rfl
 | .agg l,h=>by simp only [refD]at h;simp only [shD,a6f h]
 | .tup l,h=>by simp only [refD]at h;simp only [shD,a6f h]
 | .clo f p l,h=>by
   simp only [refD,List.append_eq_nil_iff]at h;simp only [shD,a6f h.1,a6f h.2]
 | .row i v,h=>by simp [refD]at h
 | .win i v a b,h=>by simp [refD]at h
 | .bp i o,h=>by simp [refD]at h
 | .rp i v s k o x,h=>by simp [refD]at h
 | .mr i,h=>by simp [refD]at h
theorem a6f{k:Nat}:∀{l:List DV},refL l= []->shL k l=l
 | [],_=>rfl
 |x::l,h=>by
  simp only [refL,List.append_eq_nil_iff]at h;simp only [shL,b7u h.1,a6f h.2]
 end
theorem d6r{x:DV}(h:c8e x=true):refD x= []:=by
 unfold c8e at h;split at h
 ·assumption
 cases h
theorem a9j{fl:Bool}{r:DV}(h:c8e r=true)(hf:fl=true->flatD r=true):resP fl H r []=some ⟨some r,H,[],[]⟩:=by
 cases fl with
 |true=>simp [resP,hf rfl]
 |false=>simp only [resP];rw [a1d,b7u (d6r h)];simp
theorem c0z{fl:Bool}{r:DV}{q:Res}(h:c8e r=true)(hq:resP fl H r []=some q):q.H=H:=by
 cases fl with
 |true=>
  simp only [resP]at hq;split at hq
  ·cases hq;rfl
  cases hq
 |false=>simp only [resP]at hq;rw [a1d]at hq;cases hq;simp
theorem e6f{fr:Fr}{t:Nat}{c:Ctl}{k:List It}{r:DV}{Hr:DH}{fn:Func}(h:ans T (D T n) fr (litG t c k e H)=some (r,Hr))(IH:c2c T n)(hp:fr.pin=W0.length)(hrs:fr.rs=fn.results.toList)(hR:Rel T F0 w0 X W0 W H F w)(hE:EnvR fr.n W H F e a):Cl P fn (RR T F0 w0 X W0 Hr r) n c k a w:=by
 unfold litG at h;split at h
 ·rename_i b hb;cases b
  ·exact IH h hp hrs hR (b6j hE hb)
  exact IH h hp hrs hR (b6j hE hb)
 simp [ans]at h
theorem c5g{fr:Fr}{t:Nat}{c:Ctl}{k:List It}{r:DV}{Hr:DH}(h:ans T (D T n) fr (litG t c k e H)=some (r,Hr)):∃b,a0l t e=some (.v (.bool b))/\D T n fr ⟨c,k,(t,.lit b)::e,H⟩=some (r,Hr):=by
 unfold litG at h;split at h
 ·rename_i b hb;cases b
  ·exact⟨_,hb,h⟩
  exact⟨_,hb,h⟩
 simp [ans]at h
def Mov(T:Ty P)(q:OpR)(res:Res):Prop:=∀H',∃res',Got T H' q res'/\res'.H=H'/\res'.v=res.v
theorem d3g{fl:Bool}{r:DV}{Hr:DH}{q:Res}(h:resP fl H r Hr=some q):fl=true->flatD r=true:=by
 rintro rfl;unfold resP at h;dsimp only at h;split at h
 ·assumption
 cases h
theorem c5b{fr:Fr}{dw:Bool}{all:Array Oper}{i:Nat}{o:Oper}{l:List Oper}{fp:List FP}{k:List It}{r:DV}{Hr:DH}{q:OpR}(h:ans T (D T n) fr (stpR dw all i o l fp k e H q)=some (r,Hr))(IF:b0l T n):
 (∃res ld fre rc,Got T H q res/\(ld=false->res.H=H/\Mov T q res)/\(RcOk T rc/\(fre=true->ld=true/\allocO o.op=true))/\D T n fr ⟨.ops dw all (i+1) l (a9k dw i ld fre e H rc fp),k,putD o.dst (valU res.v) e,res.H⟩=some (r,Hr))∨
 (∃t b,a0l t e=some (.v (.bool b))/\D T n fr ⟨.ops dw all i (o::l) fp,k,(t,.lit b)::e,H⟩=some (r,Hr)):=by
 cases q with
 |val v rd=>exact .inl ⟨⟨some v,H,[],[]⟩,false,false,none,⟨rfl,rfl⟩,fun _=>⟨rfl,fun H'=>⟨⟨some v,H',[],[]⟩,⟨rfl,rfl⟩,rfl,rfl⟩⟩,⟨rc_none,fun h=>by cases h⟩,h⟩
 |gro v rd=>exact .inl ⟨⟨some v,H,[],[]⟩,false,false,none,⟨rfl,rfl⟩,fun _=>⟨rfl,fun H'=>⟨⟨some v,H',[],[]⟩,⟨rfl,rfl⟩,rfl,rfl⟩⟩,⟨rc_none,fun h=>by cases h⟩,h⟩
 |mem g=>exact .inl ⟨g,true,allocO o.op,none,rfl,(fun h=>by cases h),⟨rc_none,fun h=>⟨rfl,h⟩⟩,h⟩
 |askV α x g rd=>
  simp only [stpR,ans]at h;split at h
  ·rename_i y;exact .inl ⟨⟨some (g y),H,[],[]⟩,false,false,none,⟨y,rfl,rfl,rfl⟩,fun _=>⟨rfl,fun H'=>⟨⟨some (g y),H',[],[]⟩,⟨y,rfl,rfl,rfl⟩,rfl,rfl⟩⟩,⟨rc_none,fun h=>by cases h⟩,h⟩
  cases h
 |askM α x g=>
  simp only [stpR,ans]at h;split at h
  ·rename_i y;exact .inl ⟨g y,true,false,none,⟨y,rfl,rfl⟩,(fun h=>by cases h),⟨rc_none,fun h=>by cases h⟩,h⟩
  cases h
 |call f az Hc g=>
  simp only [stpR,ans]at h;split at h
  ·rename_i r1 H1 hd1;have hf:FnOk T f az Hc r1 H1:=IF hd1;cases hg:g r1 H1 with
   |none=>rw [hg]at h;simp at h
   |some q=>
    rw [hg]at h;exact .inl ⟨q,true,false,none,⟨r1,H1,hf,hg⟩,(fun h=>by cases h),⟨rc_none,fun h=>by cases h⟩,h⟩
  cases h
 |pcall fl f az=>
  simp only [stpR,ans]at h;split at h
  ·rename_i r1 H1 hd1;have hf:FnOk T f (az.map .v) [] r1 H1:=IF hd1;cases hg:resP fl H r1 H1 with
   |none=>rw [hg]at h;simp at h
   |some q=>
    rw [hg]at h;dsimp only at h;unfold d9z at h;split at h
    ·rename_i hq;unfold e0h at hq;split at hq
     ·have hfl:=d3g hg;have hq2:q=⟨some r1,H,[],[]⟩:=by rw [a9j hq hfl]at hg;exact(Option.some.inj hg).symm
      exact .inl ⟨q,false,false,_,⟨r1,[],hf,hg⟩,fun _=>⟨c0z hq hg,fun H'=>⟨⟨some r1,H',[],[]⟩,⟨r1,[],hf,a9j hq hfl⟩,rfl,by rw [hq2]⟩⟩,⟨fun _ _ _ he=>by cases he;exact⟨hf,hq⟩,fun h=>by cases h⟩,h⟩
     cases hq
    exact .inl ⟨q,true,false,none,⟨r1,H1,hf,hg⟩,(fun h=>by cases h),⟨rc_none,fun h=>by cases h⟩,h⟩
  cases h
 |none=>
  simp only [stpR]at h;unfold e1o at h;split at h
  ·obtain⟨b,h1,h2⟩:=c5g h;exact .inr ⟨_,b,h1,h2⟩
  simp [ans]at h
theorem d4y{fr:Fr}{dw:Bool}{all:Array Oper}{i:Nat}{o:Oper}{l:List Oper}{fp:List FP}{k:List It}{r:DV}{Hr:DH}(h:D T (n+1) fr ⟨.ops dw all i (o::l) fp,k,e,H⟩=some (r,Hr))(IF:b0l T n):b0n fr.n o.dst=true/\
 ((∃t b,a0l t e=some (.v (.bool b))/\D T n fr ⟨.ops dw all i (o::l) fp,k,(t,.lit b)::e,H⟩=some (r,Hr))∨
 (a5f all e o.guard=some false/\D T n fr ⟨.ops dw all (i+1) l (a9k dw i false false e H none fp),k,putD o.dst (some undefD) e,H⟩=some (r,Hr))∨
 (a5f all e o.guard=some true/\∃res ld fre rc,Got T H (opF T fr.nest dw e H o.type o.op) res/\(ld=false->res.H=H/\Mov T (opF T fr.nest dw e H o.type o.op) res)/\(RcOk T rc/\(fre=true->ld=true/\allocO o.op=true))/\D T n fr ⟨.ops dw all (i+1) l (a9k dw i ld fre e H rc fp),k,putD o.dst (valU res.v) e,res.H⟩=some (r,Hr))):=by
 simp only [D,stp]at h;cases hd:b0n fr.n o.dst with
 |false=>rw [hd]at h;cases h
 |true=>
  refine⟨rfl,?_⟩;rw [hd]at h;simp only [stpD]at h;cases hon:a5f all e o.guard with
  |none=>
   rw [hon]at h;simp only [stpO]at h;unfold c3h at h;split at h
   ·split at h
    ·obtain⟨b,h1,h2⟩:=c5g h;exact .inl ⟨_,b,h1,h2⟩
    cases h
   cases h
  |some b=>
   rw [hon]at h;cases b with
   |true=>
    rcases c5b h IF with⟨res,ld,fre,rc,h1,h2⟩|⟨t,b,h1,h2⟩
    ·exact .inr (.inr ⟨rfl,res,ld,fre,rc,h1,h2⟩)
    exact .inl ⟨t,b,h1,h2⟩
   |false=>exact .inr (.inl ⟨rfl,h⟩)
theorem e4a{fr:Fr}{all:Array Oper}{i:Nat}{o:Oper}{l:List Oper}{fp:List FP}{k:List It}{r:DV}{Hr:DH}{fn:Func}{q:OpR}(h:ans T (D T n) fr (stpR false all i o l fp k e H q)=some (r,Hr))(IH:c2c T n)(IF:b0l T n)(hp:fr.pin=W0.length)(hrs:fr.rs=fn.results.toList)(hR:Rel T F0 w0 X W0 W H F w)(hE:EnvR fr.n W H F e a)
 (hd:b0n fr.n o.dst=true) (hw:Region.wanted o (yielded all a.tmps)=true) (hO:OpOk T F0 w0 X W0 W H F a w o q):wpList P all (Post P fn (RR T F0 w0 X W0 Hr r) n k) (o::l) a w:=by
 rcases c5b h IF with⟨res,ld,fre,rc,h1,_,_,h2⟩|⟨t,b,h1,h2⟩
 ·refine f1h hw (e9l hR hO h1 fun u w' W' F' g1 g2 g3=>IH h2 hp hrs g1 ?_);cases hv:valU res.v with
  |none=>cases hr:res.v<;>rw [hr]at hv<;>cases hv
  |some d=>exact d4a (hE.ext g2) hd (g3 d hv)
 exact IH h2 hp hrs hR (b6j hE h1)
end
set_option linter.unusedVariables false
set_option linter.unusedSimpArgs false
section
variable{P:Program}{T:Ty P}{n:Nat}{F0:Frz}{w0:World}{X:List Nat}{W0 W W2:List OE}{H H2:DH}{F F1 F2:Frz}{e:DE}{a:Act}{w:World}{sel:List Nat}
theorem c4m{us:List Value}:∀{az:List DV}{o t:Nat}{d:DV},a0l t (argE o az)=some d->o<=t/\az[t-o]?=some d
 | [],o,t,d,h=>by simp [argE,a0l]at h
 |x::az,o,t,d,h=>by
  simp only [argE,a0l]at h;split at h
  ·rename_i hb;obtain rfl:=Nat.eq_of_beq_eq_true hb;cases h;simp
  rename_i hb;obtain⟨h1,h2⟩:=c4m (us:=us) h;refine⟨by omega,?_⟩;rw [show t-o=(t-(o+1))+1 by omega,List.getElem?_cons_succ];exact h2
theorem d1y{us:List Value}{az:List DV}{m:Nat}(hc:ConcL W H F az us)(hl:az.length<=m):EnvR m W H F (argE 0 az) {tmps:=us.toArray++Array.replicate (m-us.toArray.size) undef,defers:= []}:=by
 have hlen:=hc.len;refine⟨by simp;omega,rfl,fun t d ht=> ?_⟩;obtain⟨_,h2⟩:=c4m (us:=us) ht;obtain⟨u,h3,h4⟩:=hc.get h2;simp only [Nat.sub_zero]at h3;refine⟨u,?_,h4⟩;have:=(List.getElem?_eq_some_iff.1 h3).1;rw [Array.getElem?_append_left (by simpa using this)];simpa using h3
theorem D_zero:∀{n:Nat}{fr:Fr}{s:St}{r:DV}{Hr:DH},D T n fr s=some (r,Hr)->∀b∈Hr,b.ver=0/\b.st=0
 |0,fr,s,r,Hr,h=>by simp [D]at h
 |n+1,fr,s,r,Hr,h=>by
  have key:∀q,ans T (D T n) fr q=some (r,Hr)->(∀r' H',q= .ret r' H'->∀b∈H',b.ver=0/\b.st=0)->∀b∈Hr,b.ver=0/\b.st=0:=by
   intro q hq hr;cases q with
   |go _ s'=>exact D_zero (n:=n) hq
   |head s'=>exact D_zero (n:=n) hq
   |cond b s1 s2=>cases b<;>exact D_zero (n:=n) hq
   |ask _ α x k=>
    simp only [ans]at hq;split at hq
    ·exact D_zero (n:=n) hq
    cases hq
   |call f az H k=>
    simp only [ans]at hq;split at hq
    ·split at hq
     ·exact D_zero (n:=n) hq
     cases hq
    cases hq
   |ret r' H'=>simp only [ans,Option.some.injEq,Prod.mk.injEq]at hq;obtain⟨_,rfl⟩:=hq;exact hr _ _ rfl
   |stop=>cases hq
  refine key _ h ?_;have hret:∀(e:DE)(H:DH)r' H',retG (retA T fr e H)= .ret r' H'->∀b∈H',b.ver=0/\b.st=0:=by
   intro e H r' H' hq;unfold retG at hq;split at hq
   ·rename_i r1 H1 hra;cases hq;unfold retA at hra;split at hra
    ·rename_i l hl;generalize retL fr.own H l=q at hra;cases q with
     |none=>simp [retB]at hra
     |some q=>
      obtain⟨l1,is⟩:=q;simp only [retB,sH_eq,sD_eq,sN_eq]at hra;split at hra
      ·cases hra;intro b hb;exact b5u hb
      cases hra
    cases hra
   cases hq
  intro r' H' hs;obtain⟨ctl,k,e,H⟩:=s;cases ctl with
  |code c=>
   cases c<;>simp only [stp,stpC]at hs<;>first
    |(exact absurd hs (by simp))
    |skip
   case cond b x y=>
    unfold e4v at hs;split at hs<;>try(exact absurd hs (by simp))
    split at hs<;>exact absurd hs (by simp)
   case loop x=>
    unfold e2r at hs;split at hs<;>exact absurd hs (by simp)
  |out x=>
   cases k with
   |nil=>
    simp only [stp]at hs;unfold stpN at hs;split at hs
    ·exact hret e H r' H' hs
    ·split at hs
     ·exact hret e H r' H' hs
     exact absurd hs (by simp)
    exact absurd hs (by simp)
   |cons i k=>
    simp only [stp]at hs;cases i<;>simp only [stpX]at hs<;>first
     |exact absurd hs (by simp)
     |(split at hs<;>first
      |exact absurd hs (by simp)
      |(split at hs<;>exact absurd hs (by simp))
      |(unfold e5n at hs;split at hs<;>exact absurd hs (by simp)))
  |ops dw all i l fp=>
   cases l with
   |nil=>
    simp only [stp]at hs;unfold stpE at hs;split at hs<;>exact absurd hs (by simp)
   |cons o l=>
    simp only [stp]at hs;have hlit:∀t c,litG t c k e H= .ret r' H'->False:=by
     intro t c hq;unfold litG at hq;split at hq<;>exact absurd hq (by simp)
    unfold stpD at hs;split at hs
    ·unfold stpO at hs;split at hs
     ·generalize opF T fr.nest dw e H o.type o.op=q at hs;cases q<;>simp only [stpR]at hs<;>try(exact absurd hs (by simp))
      unfold e1o at hs;split at hs
      ·exact(hlit _ _ hs).elim
      exact absurd hs (by simp)
     ·exact absurd hs (by simp)
     unfold c3h at hs;split at hs
     ·split at hs
      ·exact(hlit _ _ hs).elim
      exact absurd hs (by simp)
     exact absurd hs (by simp)
    exact absurd hs (by simp)
def a9t(P:Program):Prop:=∀(f:FuncId)fn,P.funcs[f]?=some fn->fn.body.isSome=true->(fn.name== "runtime.NumGoroutine")=false
theorem e7n(hN:a9t P){f:FuncId}{fn:Func}{c:Code}(hf:P.funcs[f]?=some fn)(hb:fn.body=some c):Ent P f:=by
 intro args w;have:=hN f fn hf (by simp [hb]);have hne:¬fn.name= "runtime.NumGoroutine" :=by simpa using this
 simp [callFunc,hf,hb,hne]
theorem e8l(hL:LibOk T){f:FuncId}{g:List VT->Option DV}(hg:T.ext f=some g){az:List DV}{Hc:DH}{r:DV}{Hr:DH}(h:extD g Hc (pureL az)=some (r,Hr)):FnOk T f az Hc r Hr:=by
 unfold extD at h;split at h
 ·rename_i vs hp;unfold extR at h;split at h
  ·rename_i r1 hr;cases h;obtain⟨h1,h2,h3⟩:=hL.ext hg hr;exact⟨h1,h2,fun w F X Wc us hR hc=>h3 w F X Wc us hR (concL_v.1 (pureL_ok hp hc))⟩
  cases h
 cases h
theorem e3t(hL:LibOk T)(hN:a9t P){n:Nat}(IH:c2c T n):b0l T n:=by
 intro f az Hc r Hr h;unfold Df dfn at h;split at h
 ·rename_i g hg;exact e8l hL hg h
 split at h
 ·rename_i fr s hen;unfold d4r at hen;split at hen
  ·rename_i fn hf;split at hen
   ·rename_i c hb;rw [a1d]at hen;split at hen
    ·rename_i hle;cases hen;refine⟨e7n hN hf hb,D_zero h,fun w F X Wc us hR hc=> ?_⟩;have hle:az.length<=fn.ntmps:=by
      have:=Nat.le_of_ble_eq_true hle;rw [a1d]at this;simpa using this
     have hE:=d1y hc hle;have:=IH (fn:=fn) h (W0:=Wc) (by simpa using hR.len) rfl hR hE;exact calls_of_wp hf hb this
    cases hen
   cases hen
  cases hen
 cases h
theorem e2m(hT:TyOk T)(hL:LibOk T)(hD:DrawOk T)(hN:a9t P){n:Nat}(IHs:∀m,m<=n->c2c T m):c2c T (n+1):=by
 intro fr ctl k e H r Hr fn F0 w0 X W0 W F a w h hp hrs hR hE;have IH:c2c T n:=IHs n (Nat.le_refl n);have IF:b0l T n:=e3t hL hN IH;have hle:n<=n+1:=Nat.le_succ n;have hgo:∀(b:Bool)(c:Ctl)(k':List It)(e':DE)(H':DH),ans T (D T n) fr (.go b ⟨c,k',e',H'⟩)=some (r,Hr)->∀{W':List OE}{F':Frz}{a':Act}{w':World},Rel T F0 w0 X W0 W' H' F' w'->EnvR fr.n W' H' F' e' a'->Cl P fn (RR T F0 w0 X W0 Hr r) n c k' a' w':=
  fun b c k' e' H' hq W' F' a' w' h1 h2=>IH hq hp hrs h1 h2
 replace h:ans T (D T n) fr (stp T fr ⟨ctl,k,e,H⟩)=some (r,Hr):=h
 cases ctl with
 |code c=>
  simp only [stp]at h;show c.wp P (Post P fn (RR T F0 w0 X W0 Hr r) (n+1) k) a w;cases c with
  |skip=>exact wp_skip (a0g hle _ _ _ (hgo _ _ _ _ _ h hR hE))
  |label l=>exact wp_label (a0g hle _ _ _ (hgo _ _ _ _ _ h hR hE))
  |seq x y=>exact wp_seq (Code.wp_mono (a4q (fun a w h=>Code.wp_mono (a0g hle) h) (a0g hle)) (hgo _ _ _ _ _ h hR hE))
  |block id x=>exact wp_block (Code.wp_mono (fun e a w h=>a0g (k:= .blk id::k) hle e a w h) (hgo _ _ _ _ _ h hR hE))
  |scope x=>exact wp_scope_straight (Code.wp_mono (fun e a w h=>a0g (k:= .scope::k) hle e a w h) (hgo _ _ _ _ _ h hR hE))
  |exit id=>exact wp_exit (a0g hle _ _ _ (hgo _ _ _ _ _ h hR hE))
  |ret=>exact wp_ret (a0g hle _ _ _ (hgo _ _ _ _ _ h hR hE))
  |region id ops dw=>
   cases dw with
   |false=>
    have:=b1s (a0g hle) (hgo _ _ _ _ _ h hR hE);have h2:=wp_region_lit (id:=id) (l:=ops.toList) (P:=P) (a:=a) (w:=w) (by simpa using this);simpa using h2
   |true=>
    refine hD (n:=n) (id:=id) h hp hR hE (fun m hm=>e3t hL hN (IHs m hm)) fun m hm e' H' W' F' a' w' h1 h2 h3=> ?_;exact a0g (by omega) _ _ _ (IHs m hm h1 hp hrs h2 h3)
  |loop x=>
   simp only [stpC]at h;unfold e2r at h;split at h
   ·rename_i s hs;rw [hp]at hs;obtain⟨live,e',H',W',rfl,h1,h2⟩:=d8x hR hE hs;have h3:x.wp P (Post P fn (RR T F0 w0 X W0 Hr r) n (.loop x live::k)) a w:=IH h hp hrs h1 h2;refine wp_loop_rounds (n+1) ?_;rw [rounds_succ];exact Code.wp_mono (a4q (fun a w h=>a5m (a0g hle) (Nat.le_refl n) h) (a0g hle)) h3
   cases h
  |cond b x y=>
   simp only [stpC]at h;unfold e4v at h;split at h
   ·rename_i hb;have hb:a.eval b= .bool true:=a1w hE hR.gl hb;exact wp_cond_true hb (Code.wp_mono (a0g hle) (hgo _ _ _ _ _ h hR hE))
   ·rename_i hb;have hb:a.eval b= .bool false:=a1w hE hR.gl hb;exact wp_cond_false hb (Code.wp_mono (a0g hle) (hgo _ _ _ _ _ h hR hE))
   ·rename_i c hb;have hb2:a.eval b= .bool c:=a1w hE hR.gl hb;split at h
    ·rename_i t;have hl:=b6j (b:=c) hE hb;cases c with
     |true=>exact wp_cond_true hb2 (Code.wp_mono (a0g hle) (IH h hp hrs hR hl))
     |false=>exact wp_cond_false hb2 (Code.wp_mono (a0g hle) (IH h hp hrs hR hl))
    cases h
   cases h
  |rangeFunc f ps x y=>cases h
  |goto l=>cases h
  |_=>cases h
 |out x=>
  show Post P fn (RR T F0 w0 X W0 Hr r) (n+1) k x a w;cases k with
  |nil=>
   have hend:∀q,ans T (D T n) fr (retG (retA T fr e H))=q->q=some (r,Hr)->a.defers= []/\∃v,(results fn a.tmps).run P w= .ok v w/\RR T F0 w0 X W0 Hr r (.returned v) w:=by
    rintro q hq rfl;unfold retG at hq;split at hq
    ·rename_i r1 H1 hra;simp only [ans,Option.some.injEq,Prod.mk.injEq]at hq;obtain⟨rfl,rfl⟩:=hq;obtain⟨v,h1,_,Wr,F',h2,h3⟩:=e3z hT hR hE hp hrs hra;exact⟨hE.defers,v,h1,v,F',Wr,rfl,h2,h3⟩
    cases hq
   simp only [stp]at h;unfold stpN at h;split at h
   ·exact hend _ h rfl
   ·split at h
    ·exact hend _ h rfl
    cases h
   cases h
  |cons i k=>
   simp only [stp]at h;cases i with
   |code y=>
    simp only [stpX]at h;cases x<;>first
     |exact Code.wp_mono (a0g hle) (hgo _ _ _ _ _ h hR hE)
     |exact a0g hle _ _ _ (hgo _ _ _ _ _ h hR hE)
   |blk j=>
    simp only [stpX]at h;cases x with
    |exit id=>
     simp only [Post,Exit.inBlock];dsimp only at h;split at h
     ·rename_i hb;rw [if_pos (Nat.eq_of_beq_eq_true hb)];exact a0g hle _ _ _ (hgo _ _ _ _ _ h hR hE)
     rename_i hb;rw [if_neg (Nat.ne_of_beq_eq_false hb)];exact a0g hle _ _ _ (hgo _ _ _ _ _ h hR hE)
    |_=>exact a0g hle _ _ _ (hgo _ _ _ _ _ h hR hE)
   |scope=>
    simp only [stpX]at h;cases x with
    |goto l=>cases h
    |_=>exact a0g hle _ _ _ (hgo _ _ _ _ _ h hR hE)
   |loop c live=>
    simp only [stpX]at h;cases x with
    |normal=>
     dsimp only at h;unfold e5n at h;split at h
     ·rename_i e' H' hs;rw [hp]at hs;obtain⟨W',h1,h2⟩:=c3n hR hE hs;have h3:c.wp P (Post P fn (RR T F0 w0 X W0 Hr r) n (.loop c live::k)) a w:=IH h hp hrs h1 h2;show Code.rounds P c _ (n+1) a w;rw [rounds_succ];exact Code.wp_mono (a4q (fun a w h=>a5m (a0g hle) (Nat.le_refl n) h) (a0g hle)) h3
     cases h
    |_=>exact a0g hle _ _ _ (hgo _ _ _ _ _ h hR hE)
 |ops dw all i l fp=>
  cases dw with
  |true=>trivial
  |false=>
   show wpList P all (Post P fn (RR T F0 w0 X W0 Hr r) (n+1) k) l a w;simp only [stp]at h;cases l with
   |nil=>exact a0g hle _ _ _ (hgo _ _ _ _ _ h hR hE)
   |cons o l=>
    dsimp only at h;refine b1s (a0g hle) ?_;cases hd:b0n fr.n o.dst with
    |false=>rw [hd]at h;cases h
    |true=>
     rw [hd]at h;simp only [stpD]at h;cases hon:a5f all e o.guard with
     |none=>
      rw [hon]at h;simp only [stpO]at h;unfold c3h at h;split at h
      ·split at h
       ·exact e6f (c:= .ops false all i (o::l) fp) h IH hp hrs hR hE
       cases h
      cases h
     |some b=>
      have hw:=c7j hE hon;rw [hon]at h;cases b with
      |true=>exact e4a h IH IF hp hrs hR hE hd hw (d9n hT hL hE hR _ _ o.op)
      |false=>
       simp only [wpList];rw [if_neg (by simp [hw])];exact hgo _ _ _ _ _ h hR (d4a hE hd conc_undef)
theorem e8y(hT:TyOk T)(hL:LibOk T)(hD:DrawOk T)(hN:a9t P):∀n,c2c T n:=by
 intro n;induction n using Nat.strongRecOn with
 |_ n ih=>
  cases n with
  |zero=>intro fr ctl k e H r Hr fn F0 w0 X W0 W F a w h;simp [D]at h
  |succ n=>exact e2m hT hL hD hN fun m hm=>ih m (by omega)
theorem D_ok(hT:TyOk T)(hL:LibOk T)(hD:DrawOk T)(hN:a9t P)(n:Nat):b0l T n:=e3t hL hN (e8y hT hL hD hN n)
end
set_option linter.unusedVariables false
set_option linter.unusedSimpArgs false
section
variable{P:Program}{T:Ty P}{e e':DE}
def Agr(e e':DE)(x:Operand):Prop:=∀t∈opTmp x,a0l t e=a0l t e'
theorem a1u{x:Operand}(h:Agr e e' x):opA T e x=opA T e' x:=by
 cases x with
 |tmp t=>exact h t (by simp [opTmp])
 |_=>rfl
theorem opL_loc:∀{l:List Operand},(∀x∈l,Agr e e' x)->opL T e l=opL T e' l
 | [],_=>rfl
 |x::l,h=>by
  simp only [opL,a1u (T:=T) (h x (by simp)),opL_loc (l:=l) fun y hy=>h y (by simp [hy])]
theorem c2l{pl:List (Nat×Nat)}:∀{ps:List (Nat×Operand)}{cs:List DV},(∀p∈ps,Agr e e' p.2)->bldA T e pl ps cs=bldA T e' pl ps cs
 | [],cs,_=>rfl
 |(j,x)::ps,cs,h=>by
  simp only [bldA,a1u (T:=T) (h (j,x) (by simp))];split
  ·split
   ·exact c2l fun y hy=>h y (by simp [hy])
   rfl
  rfl
theorem c2p{q:Nat}:∀{ps:List (Nat×Operand)}{cs:List DV},(∀p∈ps,Agr e e' p.2)->bldS T e q ps cs=bldS T e' q ps cs
 | [],cs,_=>rfl
 |(j,x)::ps,cs,h=>by
  simp only [bldS,a1u (T:=T) (h (j,x) (by simp))];split
  ·split
   ·exact c2p fun y hy=>h y (by simp [hy])
   rfl
  rfl
theorem a9l{x:Operand}{f g:DV->OpR}(h:Agr e e' x)(hf:∀y,f y=g y):on1 T e x f=on1 T e' x g:=by
 unfold on1;rw [a1u (T:=T) h];split
 ·exact hf _
 rfl
theorem c1z{x y:Operand}{f g:DV->DV->OpR}(h:Agr e e' x)(h':Agr e e' y)(hf:∀y z,f y z=g y z):on2 T e x y f=on2 T e' x y g:=by
 unfold on2;rw [a1u (T:=T) h,a1u (T:=T) h'];split
 ·exact hf _ _
 rfl
theorem c8i{d:Int}:∀{o:Option Operand},(∀x,o=some x->Agr e e' x)->bndA T e d o=bndA T e' d o
 |none,_=>rfl
 |some x,h=>by simp only [bndA,a1u (T:=T) (h x rfl)]
theorem c8c{t:TypeId}{ps:List (Nat×Operand)}(h:∀p∈ps,Agr e e' p.2):b2y T e t ps=b2y T e' t ps:=by
 unfold b2y;split
 ·rw [c2l h]
 rfl
theorem c0i{nst dw:Bool}{H:DH}{t:TypeId}{k:Nat}{ps:List (Nat×Operand)}(h:∀p∈ps,Agr e e' p.2):a6l T nst dw e H t k ps=a6l T nst dw e' H t k ps:=by
 unfold a6l;split
 ·split
  ·rw [c2p h]
  rfl
 rfl
theorem c7n{H:DH}{t:TypeId}{x:DV}{lo hi:Option Operand}(h1:∀x,lo=some x->Agr e e' x)(h2:∀x,hi=some x->Agr e e' x):b0g T e H t x lo hi=b0g T e' H t x lo hi:=by
 unfold b0g;rw [c8i h1];split
 ·rw [c8i h2]
 rfl
theorem e2d{fn:Fn}{fi caps:List Operand}(h1:∀x∈fi,Agr e e' x)(h2:∀x∈caps,Agr e e' x):oFn T e fn fi caps=oFn T e' fn fi caps:=by
 unfold oFn;rw [opL_loc h1,opL_loc h2]
theorem d2s{c a b:Operand}(h1:Agr e e' c)(h2:Agr e e' a)(h3:Agr e e' b):c8a T e c a b=c8a T e' c a b:=by
 unfold c8a;rw [a1u (T:=T) h1,a1u (T:=T) h2,a1u (T:=T) h3]
theorem b3y{t:TypeId}{x:Operand}{j:Nat}(h1:Agr e e' x):a5e T e t x j=a5e T e' t x j:=by
 unfold a5e;rw [a1u (T:=T) h1]
theorem c7x{t:TypeId}{x:Operand}{j:Nat}(h1:Agr e e' x):b4b T e t x j=b4b T e' t x j:=by
 unfold b4b;rw [a1u (T:=T) h1]
theorem b8y{nst:Bool}{H:DH}{ty:TypeId}{b:Builtin}{ts:List TypeId}{q:Option (List DV)}:a9i T nst e H ty b ts q=a9i T nst e' H ty b ts q:=by
 cases q with
 |none=>rfl
 |some l=>simp only [a9i,oBI]
theorem e6u{nst dw:Bool}{H:DH}{ty:TypeId}{op:Op}(h:∀x∈op.operands,Agr e e' x):opR T nst dw e H ty op=opR T nst dw e' H ty op:=by
 unfold opR;split<;>simp only [Op.operands,Call.operands]at h<;>first
  |rfl
  |(rw [a1u (T:=T) (h _ (by simp))];done)
  |exact a9l (h _ (by simp)) fun _=>rfl
  |exact c1z (h _ (by simp)) (h _ (by simp)) fun _ _=>rfl
  |(rename_i c a b;exact congrArg oV (d2s (h c (by simp)) (h a (by simp)) (h b (by simp))))
  |(rename_i t ps;exact c8c fun p hp=>h p.2 (by simp;exact⟨p.1,by simpa using hp⟩))
  |(rename_i t k ps;exact c0i fun p hp=>h p.2 (by simp;exact⟨p.1,by simpa using hp⟩))
  |(rename_i fn tys caps;exact e2d (fun x hx=>h x (by simp at hx;simp [hx])) (fun x hx=>h x (by simp at hx;simp [hx])))
  |(rename_i t x y;exact congrArg (onS (sameO x y)) (a9l (h x (by simp)) fun _=>rfl))
  |(rename_i t x lo hi;exact a9l (h x (by simp)) fun _=>c7n (fun y hy=>h y (by simp [hy])) (fun y hy=>h y (by simp [hy])))
  |(rename_i t x j;exact congrArg oV (b3y (h x (by simp))))
  |(rename_i t x j;exact congrArg oV (c7x (h x (by simp))))
  |(rename_i b args ts;rw [opL_loc (fun x hx=>h x (by simpa using hx))];exact b8y)
theorem e5u{x y z:Operand}{f g:DV->DV->DV->OpR}(h:Agr e e' x)(h':Agr e e' y)(h'':Agr e e' z)(hf:∀x y z,f x y z=g x y z):on3 T e x y z f=on3 T e' x y z g:=by
 unfold on3;rw [a1u (T:=T) h,a1u (T:=T) h',a1u (T:=T) h''];split
 ·exact hf _ _ _
 rfl
theorem e4p{H:DH}{op:Op}(h:∀x∈op.operands,Agr e e' x):opX T e H op=opX T e' H op:=by
 unfold opX;split<;>simp only [Op.operands,Call.operands]at h<;>first
  |rfl
  |exact congrArg some (a9l (h _ (by simp)) fun _=>rfl)
  |exact congrArg some (c1z (h _ (by simp)) (h _ (by simp)) fun _ _=>rfl)
  |exact congrArg some (e5u (h _ (by simp)) (h _ (by simp)) (h _ (by simp)) fun _ _ _=>rfl)
  |(rename_i args ts;rw [opL_loc (fun x hx=>h x (by simpa using hx))];done)
  |(unfold e6j;split
    ·exact congrArg some (c1z (h _ (by simp)) (h _ (by simp)) fun _ _=>rfl)
    rfl)
  |(unfold d2d;split
    ·split
     ·exact congrArg some (a9l (h _ (by simp)) fun _=>rfl)
     rfl
    ·split
     ·exact congrArg some (a9l (h _ (by simp)) fun _=>rfl)
     rfl
    rfl)
theorem e2b{nst dw:Bool}{H:DH}{ty:TypeId}{op:Op}(h:∀x∈op.operands,Agr e e' x):opF T nst dw e H ty op=opF T nst dw e' H ty op:=by
 unfold opF;split
 ·rename_i c args ts;simp only [Op.operands,Call.operands]at h;unfold d7y;rw [a1u (T:=T) (h c (by simp)),opL_loc (T:=T) (l:=args.toList) fun x hx=>h x (by simp at hx;simp [hx])]
 rw [e4p h];split
 ·rfl
 exact e6u h
end
set_option linter.unusedVariables false
set_option linter.unusedSimpArgs false
theorem count_set:∀{l:List Bool}{i:Nat},l[i]?=some false->(l.set i true).count false+1=l.count false
 | [],i,h=>by simp at h
 |b::l,0,h=>by simp at h;subst h;simp
 |b::l,i+1,h=>by
  have:=count_set (l:=l) (i:=i) (by simpa using h);simp only [List.set_cons_succ,List.count_cons];omega
theorem b4c{listed:Array Bool}{i:Nat}(h:listed.getD i true=false):listed.toList[i]?=some false:=by
 rw [Array.getD_eq_getD_getElem?]at h;rw [Array.getElem?_toList];cases hl:listed[i]? with
 |none=>rw [hl]at h;cases h
 |some b=>rw [hl]at h;simp at h;rw [h]
section
variable{P:Program}{ops:Array Oper}{Q:Exit->Act->World->Prop}
def c0n(ops:Array Oper):Prop:=∀(i:Nat)o,ops[i]?=some o->∀e∈o.after,Region.binds .any e=true->e.on<i
theorem b4i(hb:c0n ops){listed:Array Bool}(hs:listed.size=ops.size)(hr:Region.ready .any ops listed= []):∀i,i<ops.size->listed.getD i false=true:=by
 intro i;induction i using Nat.strongRecOn with
 |_ i ih=>
  intro hi;cases hl:listed.getD i false with
  |true=>rfl
  |false=>
   have hm:i∈Region.ready .any ops listed:=by
    rw [mem_ready];have hi2:i<listed.size:=by omega
    refine⟨?_,ops[i],Array.getElem?_eq_getElem hi,fun e he hbd=> ?_⟩
    ·rw [Array.getD_eq_getD_getElem?,Array.getElem?_eq_getElem hi2]at hl⊢;exact hl
    have h1:=hb i _ (Array.getElem?_eq_getElem hi) e he hbd;exact ih e.on h1 (by omega)
   rw [hr]at hm;simp at hm
theorem c8f{I:Array Bool->Act->World->Prop}(hb:c0n ops)
 (hstep:∀listed a w i,listed.size=ops.size->I listed a w->i∈Region.ready .any ops listed->wpOp P ops Q i (I (listed.setIfInBounds i true)) a w)
 (hend:∀listed a w,listed.size=ops.size->(∀i,i<ops.size->listed.getD i false=true)->I listed a w->Q .normal a w):
 ∀{fuel:Nat}{listed:Array Bool}{a:Act}{w:World},listed.size=ops.size->listed.toList.count false<=fuel->I listed a w->wpAny P .any ops Q fuel listed a w
 |0,listed,a,w,hs,hc,hI=>by
  have hr:Region.ready .any ops listed= []:=by
   refine List.eq_nil_iff_forall_not_mem.2 fun i hi=> ?_;rw [mem_ready]at hi;have:=count_set (b4c hi.1);omega
  exact⟨hr,hend listed a w hs (b4i hb hs hr) hI⟩
 |fuel+1,listed,a,w,hs,hc,hI=>by
  refine⟨fun hr=>hend listed a w hs (b4i hb hs hr) hI,fun i hi=> ?_⟩;refine wpOp_mono (fun a' w' h=>c8f hb hstep hend (by simpa using hs) ?_ h) (hstep listed a w i hs hI hi);have h1:=count_set (b4c (mem_ready.1 hi).1);rw [Array.toList_setIfInBounds];omega
theorem count_rep:∀n:Nat,(Array.replicate n false).toList.count false<=n:=by
 intro n;simp
theorem c7q{I:Array Bool->Act->World->Prop}{id:Nat}{a:Act}{w:World}(hm:P.follows .mixedOrders=true)(hb:c0n ops)
 (hstep:∀listed a w i,listed.size=ops.size->I listed a w->i∈Region.ready .any ops listed->wpOp P ops Q i (I (listed.setIfInBounds i true)) a w)
 (hend:∀listed a w,listed.size=ops.size->(∀i,i<ops.size->listed.getD i false=true)->I listed a w->Q .normal a w)
 (h0:I (Array.replicate ops.size false) a {w with drawn:=w.drawn+1}):(Code.region id ops true).wp P Q a w:=
 wp_region_any hm (c8f hb hstep hend (by simp) (count_rep _) h0)
end
set_option linter.unusedVariables false
set_option linter.unusedSimpArgs false
theorem d8h{x y:Value}(h:eqVal x y=true):x=y:=by
 unfold eqVal at h;split at h<;>first
  |rfl
  |(simp at h;obtain⟨rfl,rfl⟩:=h;rfl)
  |exact of_decide_eq_true h
mutual
theorem eqT_ok:∀{x y:VT},eqT x y=true->x=y
 | .int k x,y,h=>by cases y<;>simp [eqT]at h;obtain⟨rfl,rfl⟩:=h;rfl
 | .bool a,y,h=>by cases y<;>simp [eqT]at h;subst h;rfl
 | .str a,y,h=>by cases y<;>simp [eqT]at h;subst h;rfl
 | .agg l,y,h=>by cases y<;>simp [eqT]at h;rw [eqTL_ok h]
 | .sl l,y,h=>by cases y<;>simp [eqT]at h;rw [eqTL_ok h]
 | .el x o,y,h=>by cases y<;>simp [eqT]at h;rw [eqT_ok h.1,h.2]
 | .clo f p l,y,h=>by cases y<;>simp [eqT]at h;obtain⟨⟨rfl,h1⟩,h2⟩:=h;rw [eqTL_ok h1,eqTL_ok h2]
 | .ifc,y,h=>by cases y<;>simp [eqT]at h;rfl
 | .val v,y,h=>by cases y<;>simp [eqT]at h;rw [d8h h]
 | .ifv t x,y,h=>by cases y<;>simp [eqT]at h;obtain⟨rfl,h⟩:=h;rw [eqT_ok h]
theorem eqTL_ok:∀{x y:List VT},eqTL x y=true->x=y
 | [],[],_=>rfl
 | [],_::_,h=>by simp [eqTL]at h
 |_::_,[],h=>by simp [eqTL]at h
 |x::l,y::r,h=>by
  simp only [eqTL,Bool.and_eq_true]at h;rw [eqT_ok h.1,eqTL_ok h.2]
 end
mutual
theorem eqD_ok:∀{x y:DV},eqD x y=true->x=y
 | .v x,y,h=>by cases y<;>simp [eqD]at h;rw [eqT_ok h]
 | .lit a,y,h=>by cases y<;>simp [eqD]at h;subst h;rfl
 | .nil,y,h=>by cases y<;>simp [eqD]at h;rfl
 | .any,y,h=>by cases y<;>simp [eqD]at h;rfl
 | .agg l,y,h=>by cases y<;>simp [eqD]at h;rw [eqDL_ok h]
 | .tup l,y,h=>by cases y<;>simp [eqD]at h;rw [eqDL_ok h]
 | .clo f p l,y,h=>by cases y<;>simp [eqD]at h;obtain⟨⟨rfl,h1⟩,h2⟩:=h;rw [eqDL_ok h1,eqDL_ok h2]
 | .row i v,y,h=>by cases y<;>simp [eqD]at h;obtain⟨rfl,rfl⟩:=h;rfl
 | .win i v a b,y,h=>by cases y<;>simp [eqD]at h;obtain⟨⟨⟨rfl,rfl⟩,rfl⟩,rfl⟩:=h;rfl
 | .bp i o,y,h=>by cases y<;>simp [eqD]at h;obtain⟨rfl,rfl⟩:=h;rfl
 | .mr i,y,h=>by cases y<;>simp [eqD]at h;subst h;rfl
 | .rp i v s k o x,y,h=>by cases y<;>simp [eqD]at h;obtain⟨⟨⟨⟨⟨rfl,rfl⟩,rfl⟩,rfl⟩,rfl⟩,h1⟩:=h;rw [eqDO_ok h1]
theorem eqDO_ok:∀{x y:Option DV},eqDO x y=true->x=y
 |none,none,_=>rfl
 |none,some _,h=>by simp [eqDO]at h
 |some _,none,h=>by simp [eqDO]at h
 |some x,some y,h=>by simp only [eqDO]at h;rw [eqD_ok h]
theorem eqDL_ok:∀{x y:List DV},eqDL x y=true->x=y
 | [],[],_=>rfl
 | [],_::_,h=>by simp [eqDL]at h
 |_::_,[],h=>by simp [eqDL]at h
 |x::l,y::r,h=>by
  simp only [eqDL,Bool.and_eq_true]at h;rw [eqD_ok h.1,eqDL_ok h.2]
 end
set_option linter.unusedVariables false
set_option linter.unusedSimpArgs false
theorem a7d(s k:Nat):bit s k=s.testBit k:=by
 unfold bit;rw [Nat.testBit_eq_decide_div_mod_eq,Nat.shiftRight_eq_div_pow];have:Nat.beq (s/2^k %2) 1=decide (s/2^k %2=1):=by
  by_cases h:s/2^k %2=1
  ·simp [h]
  simp only [h,decide_false];cases hb:Nat.beq (s/2^k %2) 1 with
  |false=>rfl
  |true=>exact(h (Nat.eq_of_beq_eq_true hb)).elim
 exact this
theorem b6z(k:Nat):bit 0 k=false:=by rw [a7d];simp
theorem c2e{tab:List Nat}{j:Nat}:∀{es:List Edge}{s:Nat},bit (befE tab es s) j=true->bit s j=true∨∃e∈es,Region.binds .any e=true/\(e.on=j∨bit ((getN tab e.on).getD 0) j=true)
 | [],s,h=> .inl h
 |e::l,s,h=>by
  unfold befE at h;split at h
  ·rename_i hb;rcases c2e h with h|⟨e',h1,h2⟩
   ·rw [a7d,Nat.testBit_or,Nat.testBit_or,Bool.or_eq_true,Bool.or_eq_true,<-a7d,<-a7d]at h;rcases h with(h|h)|h
    ·exact .inl h
    ·refine .inr ⟨e,by simp,hb,.inl ?_⟩;rw [Nat.one_shiftLeft,a7d,Nat.testBit_two_pow]at h;simpa using h
    exact .inr ⟨e,by simp,hb,.inr (by rw [a7d];exact h)⟩
   exact .inr ⟨e',by simp [h1],h2⟩
  rcases c2e h with h|⟨e',h1,h2⟩
  ·exact .inl h
  exact .inr ⟨e',by simp [h1],h2⟩
def e2p(all:List Oper)(tab:List Nat):Prop:=∀(i s:Nat),tab[i]?=some s->∃o,all[i]?=some o/\∀j,bit s j=true->∃e∈o.after.toList,Region.binds .any e=true/\(e.on=j∨∃s',tab[e.on]?=some s'/\bit s' j=true)
theorem befT_ok:∀{l pre:List Oper}{tab:List Nat},tab.length=pre.length->e2p (pre++l) tab->e2p (pre++l) (befT l tab)
 | [],pre,tab,_,h=>h
 |o::l,pre,tab,hl,h=>by
  unfold befT;rw [a1j];have:=befT_ok (l:=l) (pre:=pre++ [o]) (tab:=tab++ [befE tab o.after.toList 0]) (by simp [hl]) ?_
  ·simpa using this
  intro i s hs;have hup:∀(k s':Nat),tab[k]?=some s'->(tab++ [befE tab o.after.toList 0])[k]?=some s':=by
   intro k s' hk;rw [List.getElem?_append_left (List.getElem?_eq_some_iff.1 hk).1];exact hk
  by_cases hi:i<tab.length
  ·rw [List.getElem?_append_left hi]at hs;obtain⟨o',h1,h2⟩:=h i s hs;refine⟨o',by simpa using h1,fun j hj=> ?_⟩;obtain⟨e,e1,e2,e3⟩:=h2 j hj;refine⟨e,e1,e2,e3.imp id ?_⟩;rintro⟨s',g1,g2⟩;exact⟨s',hup _ _ g1,g2⟩
  have hi2:i=tab.length:=by
   have:=(List.getElem?_eq_some_iff.1 hs).1;simp at this;omega
  subst hi2;simp at hs;subst hs;refine⟨o,by simp [hl],fun j hj=> ?_⟩;rcases c2e hj with h|⟨e,e1,e2,e3⟩
  ·rw [b6z]at h;cases h
  refine⟨e,e1,e2,e3.imp id fun h3=> ?_⟩;rw [a0j]at h3;cases ht:tab[e.on]? with
  |none=>rw [ht]at h3;simp [b6z]at h3
  |some s'=>rw [ht]at h3;exact⟨s',hup _ _ ht,h3⟩
theorem b1g{all:Array Oper}{i j:Nat}(h:bef (befT all.toList []) i j=true):∃o,all[i]?=some o/\∃e∈o.after,Region.binds .any e=true/\(e.on=j∨bef (befT all.toList []) e.on j=true):=by
 have hT:e2p all.toList (befT all.toList []):=befT_ok (pre:= []) (tab:= []) rfl fun i s hs=>by simp at hs
 unfold bef at h;rw [a0j]at h;cases hs:(befT all.toList [])[i]? with
 |none=>rw [hs]at h;simp [b6z]at h
 |some s=>
  rw [hs]at h;obtain⟨o,h1,h2⟩:=hT i s hs;obtain⟨e,e1,e2,e3⟩:=h2 j h;refine⟨o,by simpa using h1,e,by simpa using e1,e2,e3.imp id ?_⟩;rintro⟨s',g1,g2⟩;unfold bef;rw [a0j,g1];exact g2
theorem c4i{all:List Oper}:∀{l:List Oper}{i:Nat},backO l i=true->∀k o,l[k]?=some o->∀e∈o.after,Region.binds .any e=true->e.on<i+k
 | [],i,_,k,o,h=>by simp at h
 |o0::l,i,h,k,o,ho=>by
  simp only [backO,Bool.and_eq_true]at h;intro e he hb;cases k with
  |zero=>
   simp at ho;subst ho;have:=List.all_eq_true.1 h.1 e (by simpa using he);simp only [hb,Bool.not_true,Bool.false_or]at this;have:e.on<i:=by simpa using this
   omega
  |succ k=>
   have:=c4i (all:=all) h.2 k o (by simpa using ho) e he hb;omega
theorem f1l{all:Array Oper}(h:backO all.toList 0=true):c0n all:=fun i o ho e he hb=>by
 have:=c4i (all:= []) h i o (by simpa using ho) e he hb;omega
theorem e9y{all:Array Oper}(hb:c0n all):∀{i j:Nat},bef (befT all.toList []) i j=true->j<i:=by
 intro i;induction i using Nat.strongRecOn with
 |_ i ih=>
  intro j h;obtain⟨o,h1,e,h2,h3,h4⟩:=b1g h;have:=hb i o h1 e h2 h3;rcases h4 with h4|h4
  ·omega
  have:=ih _ this h4;omega
def d4z(all:Array Oper)(S:Nat->Prop):Prop:=∀(j:Nat)o,S j->all[j]?=some o->∀e∈o.after,Region.binds .any e=true->S e.on
theorem b4g{all:Array Oper}{S:Nat->Prop}(hb:c0n all)(hc:d4z all S):∀{i j:Nat}{o:Oper},all[i]?=some o->(∀e∈o.after,Region.binds .any e=true->S e.on)->bef (befT all.toList []) i j=true->S j:=by
 intro i;induction i using Nat.strongRecOn with
 |_ i ih=>
  intro j o ho hr h;obtain⟨o',h1,e,h2,h3,h4⟩:=b1g h;rw [ho]at h1;cases h1;have hS:=hr e h2 h3;rcases h4 with rfl|h4
  ·exact hS
  obtain⟨o2,g1,_⟩:=b1g h4;exact ih _ (hb i o ho e h2 h3) g1 (fun e' he' hb'=>hc _ _ hS g1 e' he' hb') h4
theorem mem_of_memN:∀{l:List Nat}{k:Nat},k∈l->memN k l=true
 |j::l,k,h=>by
  unfold memN;split
  ·rfl
  rename_i hb;rcases List.mem_cons.1 h with rfl|h
  ·simp at hb
  exact mem_of_memN h
theorem c5n{tab:List Nat}{i:Nat}{ls:List Nat}:∀{l:List Oper}{j:Nat},d1r tab i ls l j=true->∀k o t,l[k]?=some o->o.dst=some t->t∈ls->(j+k<i->bef tab i (j+k)=true)/\(i<j+k->bef tab (j+k) i=true)
 | [],j,_,k,o,t,ho=>by simp at ho
 |o0::l,j,h,k,o,t,ho=>by
  intro ht hm;simp only [d1r,Bool.and_eq_true]at h;cases k with
  |zero=>
   simp at ho;subst ho;rw [ht]at h;dsimp only at h;rw [mem_of_memN hm]at h;simp only [Bool.not_true,Bool.false_or,Bool.or_eq_true]at h;rcases h.1 with h|h
   ·obtain rfl:=Nat.eq_of_beq_eq_true h;exact⟨fun h=>by omega,fun h=>by omega⟩
   split at h
   ·rename_i hb;have hb:j<i:=by simpa using hb
    exact⟨fun _=>h,fun h=>by omega⟩
   rename_i hb;have hb:i<=j:=by
    rcases Nat.lt_or_ge j i with h2|h2
    ·rw [show Nat.blt j i=true from by simpa using h2]at hb;cases hb
    exact h2
   exact⟨fun h=>by omega,fun _=>h⟩
  |succ k=>
   have:=c5n h.2 k o t (by simpa using ho) ht hm;have e:j+(k+1)=j+1+k:=by omega
   rw [e];exact this
theorem b9z{all:Array Oper}{tab:List Nat}:∀{l:List Oper}{i:Nat},b4k all tab l i=true->∀k o,l[k]?=some o->d1r tab (i+k) (o.dst.toList++looks all o) all.toList 0=true
 | [],i,_,k,o,ho=>by simp at ho
 |o0::l,i,h,k,o,ho=>by
  simp only [b4k,Bool.and_eq_true]at h;cases k with
  |zero=>simp at ho;subst ho;exact h.1
  |succ k=>
   have:=b9z h.2 k o (by simpa using ho);have e:i+(k+1)=i+1+k:=by omega
   rw [e];exact this
structure Slots(all:Array Oper):Prop where
 back:c0n all
 ord:∀(i j:Nat)o o' t,all[i]?=some o->all[j]?=some o'->o'.dst=some t->(o.dst=some t∨t∈looks all o)->(j<i->bef (befT all.toList []) i j=true)/\(i<j->bef (befT all.toList []) j i=true)
theorem d7d{all:Array Oper}(h1:backO all.toList 0=true)(h2:b4k all (befT all.toList []) all.toList 0=true):Slots all:=by
 refine⟨f1l h1,fun i j o o' t hi hj ht hm=> ?_⟩;have:=c5n (b9z h2 i o (by simpa using hi)) j o' t (by simpa using hj) ht (by
  rcases hm with hm|hm
  ·simp [hm]
  simp [hm])
 simpa using this
theorem b9h{tab:List Nat}:∀{fp:List FP},b9p tab fp=true->∀(i j:Nat)p q,i<j->fp[i]?=some p->fp[j]?=some q->p.ld=true->q.ld=true->q.fr=false->bef tab q.i p.i=true
 | [],_,i,j,p,q,_,h,_=>by simp at h
 |p0::l,h,i,j,p,q,hij,hp,hq=>by
  intro h1 h2 h3;simp only [b9p,Bool.and_eq_true]at h;cases j with
  |zero=>omega
  |succ j=>
   cases i with
   |zero=>
    simp at hp hq;subst hp;have:=h.1;rw [h1]at this;simp only [Bool.not_true,Bool.false_or]at this;have:=List.all_eq_true.1 this q (List.mem_of_getElem? hq);simpa [h2,h3]using this
   |succ i=>exact b9h h.2 i j p q (by omega) (by simpa using hp) (by simpa using hq) h1 h2 h3
theorem c4o{tab:List Nat}{fp:List FP}:∀{l:List FP},c9d tab fp l=true->∀p∈l,∀q∈fp,q.fr=true->bef tab p.i q.i=true->∀s∈fp,s.ld=true->s.i<q.i->bef tab p.i s.i=true
 | [],_,p,h=>by simp at h
 |p0::l,h,p,hp=>by
  intro q hq h2 h3 s hs h4 h5;simp only [c9d,Bool.and_eq_true]at h;rcases List.mem_cons.1 hp with rfl|hp
  ·have:=h.1;have:=List.all_eq_true.1 this q hq;rw [h2,h3]at this;simp only [Bool.not_true,Bool.false_or]at this;have:=List.all_eq_true.1 this s hs;have h6:Nat.blt s.i q.i=true:=by simpa using h5
   simpa [h4,h6]using this
  exact c4o h.2 p hp q hq h2 h3 s hs h4 h5
theorem d2b{i s:Nat}:∀{l:List Oper}{j:Nat},uniO i (some s) l j=true->∀k o,l[k]?=some o->o.dst=some s->i=j+k
 | [],j,_,k,o,ho=>by simp at ho
 |o0::l,j,h,k,o,ho=>by
  intro ht;simp only [uniO,Bool.and_eq_true,Bool.or_eq_true]at h;cases k with
  |zero=>
   simp at ho;subst ho;rw [ht]at h;rcases h.1 with h|h
   ·exact Nat.eq_of_beq_eq_true h
   simp at h
  |succ k=>
   have:=d2b h.2 k o (by simpa using ho) ht;omega
theorem b6v{all:Array Oper}:∀{fq:List FP}{l:List Oper},b9a all fq l=true->∀(i:Nat)q o s,fq[i]?=some q->l[i]?=some o->q.fr=true->o.dst=some s->∀(k:Nat)o',all[k]?=some o'->o'.dst=some s->q.i=k
 | [],l,_,i,q,o,s,h,_=>by simp at h
 |_::_,[],_,i,q,o,s,_,h=>by simp at h
 |q0::fq,o0::l,h,i,q,o,s,hq,ho=>by
  intro h1 h2 k o' hk hkd;simp only [b9a,Bool.and_eq_true]at h;cases i with
  |zero=>
   simp at hq ho;subst hq ho;have:=h.1;rw [h1,h2]at this;simp only [Bool.not_true,Bool.false_or]at this;have:=d2b this k o' (by simpa using hk) hkd;omega
  |succ i=>exact b6v h.2 i q o s (by simpa using hq) (by simpa using ho) h1 h2 k o' hk hkd
theorem c9z{P:Program}{T:Ty P}{fr:Fr}{all:Array Oper}{tab:List Nat}{fp:List FP}{e:DE}{p:Nat}{H:DH}:∀{fq:List FP}{l:List Oper},chkO T fr all tab fp e p H fq l=true->∀(i:Nat)q o,fq[i]?=some q->l[i]?=some o->q.ld=false->
 d9h q.i p fp=true∨opF T fr.nest true q.e H o.type o.op=opF T fr.nest true q.e q.H o.type o.op∨a5f all q.e o.guard=some false∨(a5f all q.e o.guard=some true/\(mayO tab q.i p fp=true->∃x,dstA (nxE e (fq.drop (i+1))) o.dst=some x/\d1p q.rc x (opF T fr.nest true q.e H o.type o.op)=true))
 | [],l,_,i,q,o,h,_=>by simp at h
 |_::_,[],_,i,q,o,_,h=>by simp at h
 |q0::fq,o0::l,h,i,q,o,hq,ho=>by
  intro hl;simp only [chkO,Bool.and_eq_true]at h;cases i with
  |zero=>
   simp at hq ho;subst hq ho;have h:=h.1;rw [hl,Bool.false_or]at h;cases hsame:d9h q0.i p fp with
   |true=>exact .inl rfl
   |false=>
   rw [hsame,Bool.false_or,Bool.or_eq_true]at h;refine .inr ?_;rcases h with h|h
   rotate_left
   ·exact .inl (@of_decide_eq_true _ (Classical.propDecidable _) h)
   refine .inr ?_;split at h
   ·rename_i hn;exact .inl hn
   ·rename_i hn;refine .inr ⟨hn,fun hm=> ?_⟩;rw [hm]at h;simp only [Bool.not_true,Bool.false_or]at h;split at h
    ·rename_i x hx;exact⟨x,hx,h⟩
    cases h
   cases h
  |succ i=>exact c9z h.2 i q o (by simpa using hq) (by simpa using ho) hl
theorem d1j{P:Program}{T:Ty P}{fr:Fr}{all:Array Oper}{tab:List Nat}{fp:List FP}{e:DE}{H:DH}:∀{l:List FP},chkA T fr all tab fp e H l=true->∀q∈l,q.ld=true->chkO T fr all tab fp e (q.i+1) (hAt fp H (q.i+1)) fp all.toList=true
 | [],_,q,h=>by simp at h
 |q0::l,h,q,hq=>by
  intro hl;simp only [chkA,Bool.and_eq_true]at h;rcases List.mem_cons.1 hq with rfl|hq
  ·have:=h.1;rw [hl]at this;simpa using this
  exact d1j h.2 q hq hl
def LitS(x y:Option DV):Prop:=y=x∨∃b,x=some (.v (.bool b))/\y=some (.lit b)
theorem LitS.step{x:Option DV}{e:DE}{t s:Nat}{b:Bool}(hb:a0l t e=some (.v (.bool b)))(h:LitS x (a0l s e)):LitS x (a0l s ((t,.lit b)::e)):=by
 simp only [a0l];split
 ·rename_i hs;obtain rfl:=Nat.eq_of_beq_eq_true hs;rcases h with h|⟨c,h1,h2⟩
  ·rw [hb]at h;exact .inr ⟨b,h.symm,rfl⟩
  rw [hb]at h2;cases h2
 exact h
theorem d3a{d:Option Nat}{v:Option DV}{e:DE}{s:Nat}(h:d≠some s):a0l s (putD d v e)=a0l s e:=by
 unfold putD;split
 ·rename_i d v;simp only [a0l];split
  ·rename_i hs;obtain rfl:=Nat.eq_of_beq_eq_true hs;exact(h rfl).elim
  rfl
 rfl
theorem a7e{d:Nat}{v:DV}{e:DE}:a0l d (putD (some d) (some v) e)=some v:=by
 simp [putD,a0l]
section
variable{P:Program}{T:Ty P}{n:Nat}{F0:Frz}{w0:World}{X:List Nat}{W0 W W2:List OE}{H H2 H0:DH}{F F1 F2:Frz}{e:DE}{a:Act}{w:World}{sel:List Nat}
theorem a3k{x y:DV}{u:Value}(h:LitS (some x) (some y))(hc:Conc W H F x u):Conc W H F y u:=by
 rcases h with h|⟨b,h1,h2⟩
 ·cases h;exact hc
 cases h1;cases h2;exact hc
theorem d7x{x y:DV}{u:Value}(h:eqU x y=true)(hc:Conc W H F x u):Conc W H F y u:=by
 unfold eqU at h;split at h
 ·rename_i b c hb hb';simp at h;subst h;obtain rfl:=b2w hb hc;cases y<;>simp [boolOf]at hb'
  ·rename_i z;cases z<;>simp at hb';subst hb';rfl
  subst hb';rfl
 rw [<-eqD_ok h];exact hc
theorem a6s{fp:List FP}{p:Nat}(h:fp.length<=p):hAt fp H p=H:=by
 unfold hAt;rw [a0j,List.getElem?_eq_none h]
theorem a5p{fp:List FP}{p:Nat}{q:FP}(h:fp[p]?=some q):hAt fp H p=q.H:=by
 unfold hAt;rw [a0j,h]
def eAt(fp:List FP)(e:DE)(p:Nat):DE:=match getN fp p with
 |some q=>q.e
 |none=>e
theorem a8u{fp:List FP}{p:Nat}(h:fp.length<=p):eAt fp e p=e:=by
 unfold eAt;rw [a0j,List.getElem?_eq_none h]
theorem a5s{fp:List FP}{p:Nat}{q:FP}(h:fp[p]?=some q):eAt fp e p=q.e:=by
 unfold eAt;rw [a0j,h]
theorem e9j{fp:List FP}{p:Nat}:nxE e (fp.drop p)=eAt fp e p:=by
 cases h:fp[p]? with
 |none=>rw [a8u (List.getElem?_eq_none_iff.1 h),List.drop_eq_nil_of_le (List.getElem?_eq_none_iff.1 h)];rfl
 |some q=>
  rw [a5s h];obtain⟨hlt,hg⟩:=List.getElem?_eq_some_iff.1 h;rw [List.drop_eq_getElem_cons hlt,hg];rfl
theorem LitS.refl{x:Option DV}:LitS x x:= .inl rfl
theorem LitS.trans{x y z:Option DV}(h:LitS x y)(h':LitS y z):LitS x z:=by
 rcases h with rfl|⟨b,rfl,rfl⟩
 ·exact h'
 rcases h' with rfl|⟨c,h,_⟩
 ·exact .inr ⟨b,rfl,rfl⟩
 cases h
structure Past(T:Ty P)(fr:Fr)(all:Array Oper)(e0:DE)(H0:DH)(i:Nat)(e:DE)(H:DH)(fp:List FP):Prop where
 len:fp.length=i
 heap:hAt fp H 0=H0
 num:∀(j:Nat)p,fp[j]?=some p->p.i=j
 base:∀t,LitS (a0l t e0) (a0l t (eAt fp e 0))
 past:∀(j:Nat)o p,fp[j]?=some p->all[j]?=some o->(p.ld=false->hAt fp H (j+1)=p.H)/\(RcOk T p.rc/\(p.fr=true->p.ld=true/\allocO o.op=true))/\b0n fr.n o.dst=true/\∃v,(∀t,LitS (a0l t (putD o.dst v p.e)) (a0l t (eAt fp e (j+1))))/\
  ((a5f all p.e o.guard=some false/\p.ld=false/\v=some undefD)∨
   (a5f all p.e o.guard=some true/\∃res,Got T p.H (opF T fr.nest true p.e p.H o.type o.op) res/\hAt fp H (j+1)=res.H/\v=valU res.v/\(p.ld=false->Mov T (opF T fr.nest true p.e p.H o.type o.op) res)))
theorem Past.lit{fr:Fr}{all:Array Oper}{e0:DE}{i:Nat}{fp:List FP}(h:Past T fr all e0 H0 i e H fp){t:Nat}{b:Bool}(hb:a0l t e=some (.v (.bool b))):Past T fr all e0 H0 i ((t,.lit b)::e) H fp:=by
 have hs:∀(x:Option DV)(j s:Nat),LitS x (a0l s (eAt fp e j))->LitS x (a0l s (eAt fp ((t,.lit b)::e) j)):=by
  intro x j s hx;cases hj:fp[j]? with
  |none=>
   rw [a8u (List.getElem?_eq_none_iff.1 hj)]at hx⊢;exact hx.step hb
  |some q=>
   rw [a5s hj]at hx⊢;exact hx
 refine⟨h.len,h.heap,h.num,fun s=>hs _ _ _ (h.base s),fun j o p hp ho=> ?_⟩;obtain⟨h0,h00,h1,v,h2,h3⟩:=h.past j o p hp ho;exact⟨h0,h00,h1,v,fun s=>hs _ _ _ (h2 s),h3⟩
theorem Past.put{fr:Fr}{all:Array Oper}{e0:DE}{i:Nat}{fp:List FP}(h:Past T fr all e0 H0 i e H fp){o:Oper}(ho:all[i]?=some o)(hd:b0n fr.n o.dst=true){v:Option DV}{ld fre:Bool}{rc:Option (FuncId×List VT×DV)}{H':DH}(hH:ld=false->H'=H)(hrc:RcOk T rc/\(fre=true->ld=true/\allocO o.op=true))
 (hv:(a5f all e o.guard=some false/\ld=false/\v=some undefD)∨
   (a5f all e o.guard=some true/\∃res,Got T H (opF T fr.nest true e H o.type o.op) res/\H'=res.H/\v=valU res.v/\(ld=false->Mov T (opF T fr.nest true e H o.type o.op) res))):Past T fr all e0 H0 (i+1) (putD o.dst v e) H' (fp++ [⟨i,ld,fre,e,H,rc⟩]):=by
 have hlen:=h.len;have hlast:(fp++ [(⟨i,ld,fre,e,H,rc⟩:FP)])[i]?=some ⟨i,ld,fre,e,H,rc⟩:=by rw [<-hlen];simp
 have hat:∀j,j<=i->hAt (fp++ [(⟨i,ld,fre,e,H,rc⟩:FP)]) H' j=hAt fp H j:=by
  intro j hj
  by_cases h2:j<i
  ·have h3:(fp++ [(⟨i,ld,fre,e,H,rc⟩:FP)])[j]?=fp[j]?:=List.getElem?_append_left (by omega);obtain⟨q,hq⟩:∃q,fp[j]?=some q:=⟨_,List.getElem?_eq_getElem (by omega)⟩
   rw [a5p hq,a5p (h3.trans hq)]
  obtain rfl:j=i:=by omega
  rw [a5p hlast,a6s (by omega)]
 have eat:∀j,j<=i->eAt (fp++ [(⟨i,ld,fre,e,H,rc⟩:FP)]) (putD o.dst v e) j=eAt fp e j:=by
  intro j hj
  by_cases h2:j<i
  ·have h3:(fp++ [(⟨i,ld,fre,e,H,rc⟩:FP)])[j]?=fp[j]?:=List.getElem?_append_left (by omega);obtain⟨q,hq⟩:∃q,fp[j]?=some q:=⟨_,List.getElem?_eq_getElem (by omega)⟩
   rw [a5s hq,a5s (h3.trans hq)]
  obtain rfl:j=i:=by omega
  rw [a5s hlast,a8u (by omega)]
 have hend:hAt (fp++ [(⟨i,ld,fre,e,H,rc⟩:FP)]) H' (i+1)=H':=a6s (by simp [hlen]);have eend:eAt (fp++ [(⟨i,ld,fre,e,H,rc⟩:FP)]) (putD o.dst v e) (i+1)=putD o.dst v e:=a8u (by simp [hlen]);refine⟨by simp [hlen],by rw [hat 0 (by omega)];exact h.heap,fun j p hp=> ?_,fun t=>by rw [eat 0 (by omega)];exact h.base t,fun j o' p hp ho'=> ?_⟩
 ·by_cases hj:j<fp.length
  ·rw [List.getElem?_append_left hj]at hp;exact h.num j p hp
  have:=(List.getElem?_eq_some_iff.1 hp).1;simp at this;have hj2:j=i:=by omega
  subst hj2;rw [hlast]at hp;cases hp;rfl
 by_cases hj:j<fp.length
 ·rw [List.getElem?_append_left hj]at hp;rw [hat (j+1) (by omega),eat (j+1) (by omega)];exact h.past j o' p hp ho'
 have:=(List.getElem?_eq_some_iff.1 hp).1;simp at this;have hj2:j=i:=by omega
 subst hj2;rw [hlast]at hp;cases hp;rw [ho]at ho';cases ho';rw [hend,eend];exact⟨hH,hrc,hd,v,fun t=> .refl,hv⟩
theorem b4t{fr:Fr}{all:Array Oper}{k:List It}{r:DV}{Hr:DH}:∀{n i:Nat}{l:List Oper}{fp:List FP}{e:DE}{H:DH},(∀m,m<=n->b0l T m)->D T n fr ⟨.ops true all i l fp,k,e,H⟩=some (r,Hr)->Slots all
 |0,_,_,_,_,_,_,h=>by cases h
 |n+1,i,[],fp,e,H,_,h=>by
  simp only [D,stp,stpE,ans]at h;split at h
  ·rename_i v hv;unfold drwU at hv;split at hv
   ·rename_i hc;simp only [drwO,Bool.and_eq_true]at hc;exact d7d hc.1.1.1.1.1.1 hc.1.1.1.1.1.2
   cases hv
  cases h
 |n+1,i,o::l,fp,e,H,IF,h=>by
  have IF':∀m,m<=n->b0l T m:=fun m hm=>IF m (by omega);obtain⟨_,⟨t,b,_,h⟩|⟨_,h⟩|⟨_,res,_,_,_,_,_,_,h⟩⟩:=d4y h (IF n (by omega))<;>exact b4t IF' h
theorem b5z{fr:Fr}{all:Array Oper}{k:List It}{r:DV}{Hr:DH}{e0:DE}:∀{n i:Nat}{l:List Oper}{fp:List FP}{e:DE}{H:DH},(∀m,m<=n->b0l T m)->i<=all.size->l=all.toList.drop i->Past T fr all e0 H0 i e H fp->D T n fr ⟨.ops true all i l fp,k,e,H⟩=some (r,Hr)->
 ∃m e1 H1 fp1,m<=n/\D T m fr ⟨.out .normal,k,e1,H1⟩=some (r,Hr)/\Past T fr all e0 H0 all.size e1 H1 fp1/\drwO T fr all (befT all.toList []) fp1 e1 H1=true
 |0,_,_,_,_,_,_,_,_,_,h=>by cases h
 |n+1,i,[],fp,e,H,_,hi0,hl,hP,h=>by
  simp only [D,stp,stpE,ans]at h;split at h
  ·rename_i v hv;unfold drwU at hv;split at hv
   ·rename_i hc;have hi:all.size<=i:=by
     have:=List.drop_eq_nil_iff.1 hl.symm;simpa using this
    obtain rfl:i=all.size:=by omega
    exact⟨n,e,H,fp,by omega,h,hP,hc⟩
   cases hv
  cases h
 |n+1,i,o::l,fp,e,H,IF,_,hl,hP,h=>by
  have IF':∀m,m<=n->b0l T m:=fun m hm=>IF m (by omega);have ho:all[i]?=some o:=by
   have:(all.toList.drop i)[0]?=some o:=by rw [<-hl];rfl
   simpa using this
  have hi1:i+1<=all.size:=(Array.getElem?_eq_some_iff.1 ho).1;have hl':l=all.toList.drop (i+1):=by
   have:(all.toList.drop i).drop 1=l:=by rw [<-hl];rfl
   rw [<-this,List.drop_drop]
  have hfp:∀ld fre rc,a9k true i ld fre e H rc fp=fp++ [⟨i,ld,fre,e,H,rc⟩]:=fun ld fre rc=>a1j _ _;obtain⟨hd,⟨t,b,h1,h⟩|⟨h1,h⟩|⟨h1,res,ld,fre,rc,h2,hq,hrc,h⟩⟩:=d4y h (IF n (by omega))
  ·obtain⟨m,e1,H1,fp1,g1,g2⟩:=b5z IF' (by omega) hl (hP.lit h1) h;exact⟨m,e1,H1,fp1,by omega,g2⟩
  ·rw [hfp]at h;obtain⟨m,e1,H1,fp1,g1,g2⟩:=b5z IF' hi1 hl' (hP.put ho hd (fun _=>rfl) ⟨rc_none,fun h=>by cases h⟩ (.inl ⟨h1,rfl,rfl⟩)) h;exact⟨m,e1,H1,fp1,by omega,g2⟩
  rw [hfp]at h;obtain⟨m,e1,H1,fp1,g1,g2⟩:=b5z IF' hi1 hl' (hP.put ho hd (fun h=>(hq h).1) hrc (.inr ⟨h1,res,h2,rfl,rfl,fun h=>(hq h).2⟩)) h;exact⟨m,e1,H1,fp1,by omega,g2⟩
end
set_option linter.unusedVariables false
set_option linter.unusedSimpArgs false
section
variable{F0 F F':Frz}{w0 w w':World}{X:List Nat}{O O':List OE}
theorem HD.rebase(h:HD F0 w0 X F O w):HD F w (O.filterMap OE.blk) F O w:=
 ⟨h.sat,Frz.refl F,fun b hb=> .inl hb,h.own,fun e he b hb=>⟨(h.sep e he b hb).1,.inr (List.mem_filterMap.2 ⟨e,he,hb⟩)⟩,h.dis,rfl,rfl,rfl,Nat.le_refl _,fun _ _ _=>rfl⟩
theorem HD.own_old(h:HD F0 w0 X F O w){b:Nat}(hb:w.heap.size<=b∨b∈O.filterMap OE.blk):w0.heap.size<=b∨b∈X:=by
 rcases hb with hb|hb
 ·exact .inl (Nat.le_trans h.size hb)
 obtain⟨e,he,hb⟩:=List.mem_filterMap.1 hb;exact(h.sep e he b hb).2
theorem HD.unbase(h:HD F0 w0 X F O w)(h':HD F w (O.filterMap OE.blk) F' O' w'):HD F0 w0 X F' O' w':=by
 refine⟨h'.sat,h.le.trans h'.le,fun b hb=> ?_,h'.own,fun e he b hb=>⟨(h'.sep e he b hb).1,h.own_old (h'.sep e he b hb).2⟩,h'.dis,h'.os.trans h.os,h'.tape.trans h.tape,h'.output.trans h.output,Nat.le_trans h.size h'.size,fun b hb hx=> ?_⟩
 ·rcases h'.new b hb with h1|h1
  ·exact h.new b h1
  exact .inr (h.own_old h1)
 rw [h'.old b (Nat.lt_of_lt_of_le hb h.size) fun hm=> ?_]
 ·exact h.old b hb hx
 rcases h.own_old (.inr hm)with h1|h1
 ·omega
 exact hx h1
theorem HD.frame(h':HD F w (O.filterMap OE.blk) F' O' w'){g:Nat}(hg:g<w.heap.size)(hf:F g=none)(ho:∀e∈O,e.blk≠some g):w'.heap[g]?=w.heap[g]?/\F' g=none/\∀e∈O',e.blk≠some g:=by
 have hm:g∉O.filterMap OE.blk:=fun hm=>by
  obtain⟨e,he,hb⟩:=List.mem_filterMap.1 hm;exact ho e he hb
 refine⟨h'.old g hg hm,?_,fun e he hb=> ?_⟩
 ·cases hF:F' g with
  |none=>rfl
  |some o=>
   rcases h'.new g (by simp [hF])with h1|h1|h1
   ·exact(h1 hf).elim
   ·omega
   exact(hm h1).elim
 rcases(h'.sep e he g hb).2 with h1|h1
 ·omega
 exact hm h1
theorem HD.addG(h:HD F0 w0 X F O w){e':OE}(he:e'.ok w)(hb:∀b,e'.blk=some b->F b=none/\(w0.heap.size<=b∨b∈X)/\∀e∈O,e.blk≠some b):HD F0 w0 X F (O++ [e']) w:=by
 have:HD F0 w0 X F (e'::O) w:=by
  refine⟨h.sat,h.le,h.new,fun x hx=> ?_,fun x hx b hb'=> ?_,?_,h.os,h.tape,h.output,h.size,h.old⟩
  ·rcases List.mem_cons.1 hx with rfl|hx
   ·exact he
   exact h.own x hx
  ·rcases List.mem_cons.1 hx with rfl|hx
   ·exact⟨(hb b hb').1,(hb b hb').2.1⟩
   exact h.sep x hx b hb'
  exact List.pairwise_cons.2 ⟨fun x hx b hb1 hb2=>(hb b hb1).2.2 x hx hb2,h.dis⟩
 exact this.perm (List.perm_append_comm (l₁:= [e']) (l₂:=O))
end
section
variable{P:Program}{T:Ty P}{n:Nat}{F0:Frz}{w0:World}{X:List Nat}{W0 W W2 W':List OE}{H H2 H':DH}{F F1 F2 F':Frz}{e:DE}{a:Act}{w w':World}{sel:List Nat}
theorem Rel.rebase(h:Rel T F0 w0 X W0 W H F w):Rel T F w ((ownW H W).filterMap OE.blk) W0 W H F w:=⟨h.len,h.blk,h.hd.rebase,h.gl,h.lent⟩
theorem Rel.unbase(h:Rel T F0 w0 X W0 W H F w)(h':Rel T F w ((ownW H W).filterMap OE.blk) W0 W' H' F' w'):Rel T F0 w0 X W0 W' H' F' w':=⟨h'.len,h'.blk,h.hd.unbase h'.hd,h'.gl,h'.lent⟩
structure Idle(w0:World)(X:List Nat)(W:List OE)(H:DH)(F:Frz)(w:World)(g:Nat)(t:TypeId)(us:List Value):Prop where
 cells:w.heap[g]?=some (.cells us.toArray t (0,0))
 fz:F g=none
 own:∀e∈ownW H W,e.blk≠some g
 new:w0.heap.size<=g∨g∈X
theorem Idle.step{g:Nat}{t:TypeId}{us:List Value}(hi:Idle w0 X W H F w g t us)(h':Rel T F w ((ownW H W).filterMap OE.blk) W0 W' H' F' w'):Idle w0 X W' H' F' w' g t us:=by
 obtain⟨h1,h2,h3⟩:=h'.hd.frame (Array.getElem?_eq_some_iff.1 hi.cells).1 hi.fz hi.own;exact⟨h1.trans hi.cells,h2,h3,hi.new⟩
theorem Rel.claim(h:Rel T F0 w0 X W0 W H F w){g:Nat}{t:TypeId}{us:List Value}(hi:Idle w0 X W H F w g t us)(ho:us.all Value.oneCell'=true):
 Rel T F0 w0 X W0 (W++ [.box g t us]) (H++ [nblk (.box t (us.map ofC))]) F w/\Ext W H F (W++ [.box g t us]) (H++ [nblk (.box t (us.map ofC))]) F:=by
 have hx:Ext W H F (W++ [.box g t us]) (H++ [nblk (.box t (us.map ofC))]) F:=b2t h.len (fun i e h1=>h.plain h1) _ _;refine⟨⟨by simp [h.len],fun i b e h1 h2=> ?_,?_,h.gl,fun i e0 h1=> ?_⟩,hx⟩
 ·rw [List.getElem?_append]at h1 h2;split at h1
  ·rename_i hlt;rw [if_pos (by rw [<-h.len];exact hlt)]at h2;obtain⟨g1,g2⟩:=h.blk i b e h1 h2;exact⟨g1.ext hx,g2⟩
  rename_i hlt;rw [if_neg (by rw [<-h.len];exact hlt)]at h2;have hi0:i-H.length=0:=by
   rcases Nat.eq_zero_or_pos (i-H.length)with h0|h0
   ·exact h0
   rw [List.getElem?_eq_none (by simp;omega)]at h1;cases h1
  rw [hi0]at h1;rw [<-h.len,hi0]at h2;simp at h1 h2;subst h1;subst h2;exact⟨⟨g,us,rfl,concL_ofC ho,ho⟩,fun hf=>by simp [nblk]at hf⟩
 ·rw [ownW_app _ _ h.len];exact h.hd.addG hi.cells fun b hb=>by
   have hb:some g=some b:=hb;cases hb;exact⟨hi.fz,hi.new,hi.own⟩
 obtain⟨b,e,g1,g2,g3⟩:=h.lent i e0 h1;refine⟨b,e,?_,?_,g3⟩
 ·rw [List.getElem?_append_left (List.getElem?_eq_some_iff.1 g1).1];exact g1
 rw [List.getElem?_append_left (List.getElem?_eq_some_iff.1 g2).1];exact g2
theorem c5e{Q:Exit->Act->World->Prop}{K:Act->World->Prop}{o:Oper}{q:OpR}{res:Res}(hR:Rel T F0 w0 X W0 W H F w)(hO:∀{F1:Frz}{w1:World}{X1:List Nat},Rel T F1 w1 X1 W0 W H F w->OpOk T F1 w1 X1 W0 W H F a w o q)(hg:Got T H q res)
 (k:∀u w' W' F',Rel T F0 w0 X W0 W' res.H F' w'->Ext W H F W' res.H F'->(∀d,valU res.v=some d->Conc W' res.H F' d u)->(∀g t us,Idle w0 X W H F w g t us->Idle w0 X W' res.H F' w' g t us)->K (a.put o.dst u) w'):o.wp P a w K Q:=
 e9l hR.rebase (hO hR.rebase) hg fun u w' W' F' h1 h2 h3=>k u w' W' F' (hR.unbase h1) h2 h3 fun g t us hi=>hi.step h1
end
set_option linter.unusedVariables false
set_option linter.unusedSimpArgs false
theorem look_cut:∀{l:List Nat}{e:DE}{t:Nat},t∈l->a0l t (cutE e l)=a0l t e
 | [],e,t,h=>by simp at h
 |k::l,e,t,h=>by
  simp only [cutE]
  by_cases hk:t=k
  ·subst hk;cases hx:a0l t e with
   |none=>
    dsimp only
    by_cases hm:t∈l
    ·rw [look_cut hm];exact hx
    have:∀{l:List Nat},t∉l->a0l t (cutE e l)=none:=by
     intro l;induction l with
     |nil=>intro _;rfl
     |cons j l ih=>
      intro hj;simp only [List.mem_cons,not_or]at hj;simp only [cutE];split
      ·simp only [a0l];split
       ·rename_i hb;exact(hj.1 (Nat.eq_of_beq_eq_true hb)).elim
       exact ih hj.2
      exact ih hj.2
    exact this hm
   |some x=>simp [a0l]
  have hm:t∈l:=by simpa [hk]using h
  split
  ·simp only [a0l];split
   ·rename_i hb;exact(hk (Nat.eq_of_beq_eq_true hb)).elim
   exact look_cut hm
  exact look_cut hm
theorem cut_in:∀{l:List Nat}{e:DE}{t:Nat}{x:DV},a0l t (cutE e l)=some x->t∈l
 | [],e,t,x,h=>by cases h
 |k::l,e,t,x,h=>by
  simp only [cutE]at h;split at h
  ·simp only [a0l]at h;split at h
   ·rename_i hb;simp [Nat.eq_of_beq_eq_true hb]
   exact List.mem_cons_of_mem _ (cut_in h)
  exact List.mem_cons_of_mem _ (cut_in h)
section
variable{P:Program}{T:Ty P}{n:Nat}{F0:Frz}{w0:World}{X:List Nat}{W0 W W2:List OE}{H H2:DH}{F F1 F2:Frz}{e:DE}{a:Act}{w:World}{sel:List Nat}
structure Holds(n:Nat)(W:List OE)(H:DH)(F:Frz)(all:Array Oper)(E:Nat->DE)(listed bad:Nat->Prop)(a:Act):Prop where
 size:a.tmps.size=n
 defers:a.defers= []
 get:∀t m x,m<=all.size->(∀(k:Nat)o,all[k]?=some o->o.dst=some t->(listed k↔k<m))->(∀(k:Nat)o,all[k]?=some o->o.dst=some t->k<m->¬bad k)->a0l t (E m)=some x->∃u,a.tmps[t]?=some u/\Conc W H F x u
def Links(all:Array Oper)(E:Nat->DE):Prop:=∀(j:Nat)o t,all[j]?=some o->o.dst≠some t->LitS (a0l t (E j)) (a0l t (E (j+1)))
theorem Links.go{all:Array Oper}{E:Nat->DE}(h:Links all E){t m:Nat}:∀{m':Nat},m<=m'->m'<=all.size->(∀(k:Nat)o,m<=k->k<m'->all[k]?=some o->o.dst≠some t)->LitS (a0l t (E m)) (a0l t (E m'))
 |0,hm,_,_=>by obtain rfl:m=0:=by omega
               exact .refl
 |m'+1,hm,hs,hn=>by
  by_cases he:m=m'+1
  ·subst he;exact .refl
  have ho:all[m']?=some all[m']:=Array.getElem?_eq_getElem (by omega);exact(h.go (m':=m') (by omega) (by omega) fun k o h1 h2=>hn k o h1 (by omega)).trans (h m' _ t ho (hn m' _ (by omega) (by omega) ho))
theorem b9l{x:Option DV}{y:DV}(h:LitS x (some y)):∃z,x=some z/\LitS (some z) (some y):=by
 rcases h with h|⟨b,h1,h2⟩
 ·exact⟨y,h.symm,.refl⟩
 exact⟨_,h1,.inr ⟨b,rfl,h2⟩⟩
theorem Holds.put{W':List OE}{H':DH}{F':Frz}{all:Array Oper}{E:Nat->DE}{S S' bad bad':Nat->Prop}(h:Holds n W H F all E S bad a)(hL:Links all E)(hx:Ext W H F W' H' F'){i:Nat}{o:Oper}(ho:all[i]?=some o)(hd:b0n n o.dst=true){u:Value}(hu:¬bad' i->∀s x,o.dst=some s->a0l s (E (i+1))=some x->Conc W' H' F' x u)
 (hS:∀k,S' k↔k=i∨S k) (hb:∀k,bad k->bad' k) (hlate:∀(k:Nat)o' t,all[k]?=some o'->o.dst=some t->o'.dst=some t->i<k->¬S k):Holds n W' H' F' all E S' bad' (a.put o.dst u):=by
 have hother:∀t m x,o.dst≠some t->m<=all.size->(∀(k:Nat)o',all[k]?=some o'->o'.dst=some t->(S' k↔k<m))->(∀(k:Nat)o',all[k]?=some o'->o'.dst=some t->k<m->¬bad' k)->a0l t (E m)=some x->∃v,a.tmps[t]?=some v/\Conc W' H' F' x v:=by
  intro t m x hne hm hc hnb hl;obtain⟨v,h1,h2⟩:=h.get t m x hm (fun k o' hk hkd=>by
   rw [<-hc k o' hk hkd,hS k];constructor
   ·exact .inr
   rintro(rfl|h)
   ·rw [ho]at hk;cases hk;exact(hne hkd).elim
   exact h) (fun k o' hk hkd hkm hkb=>hnb k o' hk hkd hkm (hb k hkb)) hl
  exact⟨v,h1,h2.ext hx⟩
 cases hdst:o.dst with
 |none=>exact⟨h.size,h.defers,fun t m x hm hc hnb hl=>hother t m x (by rw [hdst];simp) hm hc hnb hl⟩
 |some s=>
  rw [hdst]at hd hu hother hlate;have hs:s<n:=by simpa [b0n]using hd
  refine⟨by simp [Act.put,h.size],by simp [Act.put,h.defers],fun t m x hm hc hnb hl=> ?_⟩
  by_cases he:s=t
  ·subst he;refine⟨u,by simp [Act.put,h.size,hs],?_⟩;have him:i<m:=(hc i o ho hdst).1 ((hS i).2 (.inl rfl));have h1:=hL.go (t:=s) (m:=i+1) (m':=m) (by omega) hm fun k o' h1 h2 hk hkd=>by
    rcases(hS k).1 ((hc k o' hk hkd).2 h2)with h3|h3
    ·omega
    exact hlate k o' s hk rfl hkd (by omega) h3
   rw [hl]at h1;obtain⟨z,hz,h2⟩:=b9l h1;exact a3k h2 (hu (hnb i o ho hdst him) s z rfl hz)
  obtain⟨v,h1,h2⟩:=hother t m x (by simpa using he) hm hc hnb hl;refine⟨v,?_,h2⟩;simp only [Act.put];rw [Array.getElem?_setIfInBounds_ne he];exact h1
theorem Holds.env{all:Array Oper}{E:Nat->DE}{S bad:Nat->Prop}(h:Holds n W H F all E S bad a){l:List Nat}{i:Nat}(hi:i<=all.size)(hS:∀t∈l,∀(k:Nat)o,all[k]?=some o->o.dst=some t->(S k↔k<i))(hb:∀t∈l,∀(k:Nat)o,all[k]?=some o->o.dst=some t->k<i->¬bad k):EnvR n W H F (cutE (E i) l) a:=by
 refine⟨h.size,h.defers,fun t x ht=> ?_⟩;have hm:=cut_in ht;rw [look_cut hm]at ht;exact h.get t i x hi (hS t hm) (hb t hm) ht
theorem c6l{v:DV}{x:Option DV}(h:eqX v x=true):∀y,x=some y->∃v',valU (some v)=some v'/\eqU v' y=true:=by
 rintro y rfl;exact⟨v,rfl,h⟩
theorem d9l{q:OpR}{rc:Option (FuncId×List VT×DV)}{x:Option DV}(hrc:RcOk T rc)(h:d1p rc x q=true):∃res,Got T H q res/\res.H=H/\∀y,x=some y->∃v,valU res.v=some v/\eqU v y=true:=by
 cases q with
 |val v rd=>exact⟨⟨some v,H,[],[]⟩,⟨rfl,rfl⟩,rfl,c6l h⟩
 |gro v rd=>exact⟨⟨some v,H,[],[]⟩,⟨rfl,rfl⟩,rfl,c6l h⟩
 |askV α q g rd=>
  simp only [d1p]at h;split at h
  ·rename_i v;exact⟨⟨some (g v),H,[],[]⟩,⟨v,rfl,rfl,rfl⟩,rfl,c6l h⟩
  cases h
 |pcall fl f az=>
  simp only [d1p,e7f]at h;split at h
  ·rename_i f0 az0 r;simp only [Bool.and_eq_true]at h;obtain⟨⟨⟨h1,h2⟩,h3⟩,h4⟩:=h;obtain rfl:=Nat.eq_of_beq_eq_true h1;obtain rfl:=eqTL_ok h2;obtain⟨k1,k2⟩:=hrc _ _ _ rfl;exact⟨⟨some r,H,[],[]⟩,⟨r,[],k1,a9j k2 fun hf=>by simpa [hf]using h3⟩,rfl,c6l h4⟩
  cases h
 |_=>cases h
theorem a8r{all:Array Oper}{o:Oper}{e:DE}:a5f all (cutE e (looks all o)) o.guard=a5f all e o.guard:=by
 cases hg:o.guard with
 |none=>rfl
 |some jb=>
  obtain⟨j,b⟩:=jb;simp only [a5f];cases ht:(all[j]?).bind (·.dst)with
  |none=>rfl
  |some t=>
   have hm:t∈looks all o:=by simp [looks,hg,ht]
   dsimp only;rw [look_cut hm]
theorem e5w{all:Array Oper}{o:Oper}{e:DE}{nst dw:Bool}:opF T nst dw (cutE e (looks all o)) H o.type o.op=opF T nst dw e H o.type o.op:=by
 refine e2b fun x hx t ht=>look_cut ?_;simp only [looks,List.mem_append,List.mem_flatMap];exact .inl ⟨x,by simpa using hx,ht⟩
theorem a6t{fp:List FP}(hc:∀(j:Nat)p,fp[j]?=some p->p.ld=false->hAt fp H (j+1)=p.H):∀{i p:Nat},p<=i->(∀(j:Nat)q,p<=j->j<i->fp[j]?=some q->q.ld=false)->hAt fp H i=hAt fp H p
 |0,p,hp,_=>by obtain rfl:p=0:=by omega
               rfl
 |i+1,p,hp,h=>by
  by_cases he:p=i+1
  ·subst he;rfl
  rw [<-a6t hc (i:=i) (p:=p) (by omega) fun j q h1 h2=>h j q h1 (by omega)];cases hq:fp[i]? with
  |none=>
   have:=List.getElem?_eq_none_iff.1 hq;rw [a6s (by omega),a6s (by omega)]
  |some q=>rw [hc i q hq (h i q (by omega) (by omega) hq),a5p hq]
def Bad(fp:List FP)(p:Nat)(k:Nat):Prop:=∃q,fp[k]?=some q/\q.fr=true/\p<=k
structure Inv(T:Ty P)(F0:Frz)(w0:World)(X:List Nat)(W0:List OE)(fr:Fr)(all:Array Oper)(fp:List FP)(e1:DE)(H1:DH)(S:Nat->Prop)(a:Act)(w:World)(p:Nat)(W:List OE)(F:Frz)(G:Nat->Nat):Prop where
 cut:p=0∨∃q,fp[p-1]?=some q/\q.ld=true/\0<p
 loudA:∀(j:Nat)q,fp[j]?=some q->q.ld=true->j<p->S j
 loudB:∀(j:Nat)q,fp[j]?=some q->q.ld=true->q.fr=false->S j->j<p
 clo:d4z all S
 rel:Rel T F0 w0 X W0 W (hAt fp H1 p) F w
 has:Holds fr.n W (hAt fp H1 p) F all (eAt fp e1) S (Bad fp p) a
 early:∀(j:Nat)o,all[j]?=some o->Bad fp p j->S j->∃t z,o.op= .alloc t/\T.zero t=some z/\Idle w0 X W (hAt fp H1 p) F w (G j) t z.cells.toList/\∀d,o.dst=some d->a.tmps[d]?=some (.pointer (some ⟨G j,0,none⟩))
 dist:∀j k,Bad fp p j->S j->Bad fp p k->S k->j≠k->G j≠G k
theorem b6i{fr:Fr}{all:Array Oper}{fp:List FP}{e0 e1:DE}{H0 H1:DH}(hP:Past T fr all e0 H0 all.size e1 H1 fp):Links all (eAt fp e1):=fun j o' t hj hne=>by
 obtain⟨p,hp⟩:∃p,fp[j]?=some p:=⟨_,List.getElem?_eq_getElem (by rw [hP.len];exact(Array.getElem?_eq_some_iff.1 hj).1)⟩
 obtain⟨_,_,_,v,h1,_⟩:=hP.past j o' p hp hj;have h1:=h1 t;rw [d3a hne]at h1;rw [a5s hp];exact h1
theorem a6a{fr:Fr}{all:Array Oper}{fp:List FP}{e0 e1:DE}{H0 H1:DH}(hP:Past T fr all e0 H0 all.size e1 H1 fp):∀(j:Nat)r,fp[j]?=some r->r.ld=false->hAt fp H1 (j+1)=r.H:=fun j r h1 h2=>by
 obtain⟨o',ho'⟩:∃o',all[j]?=some o':=⟨_,Array.getElem?_eq_getElem (by have:=(List.getElem?_eq_some_iff.1 h1).1;rw [hP.len]at this;exact this)⟩
 exact(hP.past j o' r h1 ho').1 h2
theorem b9q{e:DE}{nst dw:Bool}{H:DH}{o:Oper}{res:Res}(ho:allocO o.op=true)(h:Got T H (opF T nst dw e H o.type o.op) res):∃t z,o.op= .alloc t/\T.zero t=some z/\res.v=some (.bp H.length 0)/\res.H=H++ [nblk (.box t (z.cells.toList.map ofC))]:=by
 cases hop:o.op<;>rw [hop]at ho<;>first
  |cases ho
  |skip
 rename_i t;rw [hop]at h;have h:Got T H (b4d T H t) res:=h;unfold b4d at h;split at h
 ·rename_i z hz;unfold newB at h;rw [a5q]at h;obtain rfl:res=_:=h;exact⟨t,z,rfl,hz,rfl,a1j _ _⟩
 exact h.elim
theorem Inv.claim(hT:TyOk T){fr:Fr}{all:Array Oper}{fp:List FP}{e0 e1:DE}{H0 H1:DH}(hP:Past T fr all e0 H0 all.size e1 H1 fp)(huni:b9a all fp all.toList=true){S:Nat->Prop}{a:Act}{w:World}{p:Nat}{W:List OE}{F:Frz}{G:Nat->Nat}(hI:Inv T F0 w0 X W0 fr all fp e1 H1 S a w p W F G)
 {j:Nat} {q:FP} (hq:fp[j]?=some q) (hf:q.fr=true) (hj:S j) (hpj:p<=j) (hno:∀(k:Nat)r,fp[k]?=some r->r.ld=true->k<j->k<p):∃W',Inv T F0 w0 X W0 fr all fp e1 H1 S a w (j+1) W' F G:=by
 obtain⟨o,ho⟩:∃o,all[j]?=some o:=⟨_,Array.getElem?_eq_getElem (by have:=(List.getElem?_eq_some_iff.1 hq).1;rw [hP.len]at this;exact this)⟩
 obtain⟨hc0,⟨_,hfr⟩,hd,v0,hlink,hcase⟩:=hP.past j o q hq ho;obtain⟨hld,hal⟩:=hfr hf;have hbad:Bad fp p j:=⟨q,hq,hf,hpj⟩
 obtain⟨t,z,hop,hz,hidle,hptr⟩:=hI.early j o ho hbad hj;have hHp:hAt fp H1 p=q.H:=by
  rw [<-a6t (a6a hP) hpj fun k r h1 h2 h3=> ?_,a5p hq];cases hr:r.ld with
  |false=>rfl
  |true=>have:=hno k r h3 hr h2;omega
 rcases hcase with⟨_,g2,_⟩|⟨_,res,g2,g4,g5,_⟩
 ·rw [hld]at g2;cases g2
 obtain⟨t',z',hop',hz',hv,hH⟩:=b9q hal g2;rw [hop]at hop';cases hop';rw [hz]at hz';cases hz';obtain⟨hz1,hz2⟩:=hT.zero hz;have hrel:=hI.rel;have hhas:=hI.has;rw [hHp]at hrel hhas hidle;obtain⟨r1,r2⟩:=hrel.claim hidle hz2;rw [<-hH,<-g4]at r1 r2;have hG:∀k,Bad fp (j+1) k->Bad fp p k:=fun k⟨q',h1,h2,h3⟩=>⟨q',h1,h2,by omega⟩
 refine⟨W++ [.box (G j) t z.cells.toList],.inr ⟨q,by simpa using hq,hld,by omega⟩,fun k r hk hkl hkp=> ?_,fun k r hk hkl hkf hkS=> ?_,hI.clo,r1,⟨hhas.size,hhas.defers,fun s m x hm hc hnb hl=> ?_⟩,fun k o' hk hkb hkS=> ?_,fun k l h1 h2 h3 h4=>hI.dist k l (hG k h1) h2 (hG l h3) h4⟩
 ·by_cases hkj:k=j
  ·subst hkj;exact hj
  exact hI.loudA k r hk hkl (hno k r hk hkl (by omega))
 ·have:=hI.loudB k r hk hkl hkf hkS;omega
 ·by_cases hs:o.dst=some s/\j<m
  ·have hL:=(b6i hP).go (t:=s) (m:=j+1) (m':=m) (by omega) hm fun k o' h1 h2 hk hkd=>by
    have:=b6v huni j q o s hq (by simpa using ho) hf hs.1 k o' hk hkd;rw [hP.num j q hq]at this;omega
   have h1:=hlink s;rw [hs.1,g5,hv,show valU (some (DV.bp q.H.length 0))=some (.bp q.H.length 0)from rfl,a7e]at h1;have h2:=h1.trans hL;rw [hl]at h2;refine⟨_,hptr s hs.1,a3k h2 ?_⟩;exact⟨G j,t,z.cells.toList,by rw [hrel.len];simp,rfl⟩
  obtain⟨u,h1,h2⟩:=hhas.get s m x hm hc (fun k o' hk hkd hkm hkb=>by
   by_cases hkj:k=j
   ·subst hkj;rw [ho]at hk;cases hk;exact hs ⟨hkd,hkm⟩
   obtain⟨q',h1,h2,h3⟩:=hkb;refine hnb k o' hk hkd hkm ⟨q',h1,h2,?_⟩;have hk2:k<j∨j<k:=by omega
   rcases hk2 with hk2|hk2
   ·obtain⟨o2,ho2⟩:∃o2,all[k]?=some o2:=⟨o',hk⟩
    obtain⟨_,⟨_,hfr2⟩,_⟩:=hP.past k o2 q' h1 ho2;have:=hno k q' h1 (hfr2 h2).1 hk2;omega
   omega) hl
  exact⟨u,h1,h2.ext r2⟩
 obtain⟨t2,z2,h1,h2,h3,h4⟩:=hI.early k o' hk (hG k hkb) hkS;have hkj:k≠j:=by obtain⟨q',_,_,h⟩:=hkb;omega
 refine⟨t2,z2,h1,h2,⟨h3.cells,h3.fz,fun e he hb=> ?_,h3.new⟩,h4⟩;rw [g4,hH,ownW_app _ _ hrel.len]at he;rcases List.mem_append.1 he with he|he
 ·have:=h3.own e;rw [hHp]at this;exact this he hb
 simp at he;subst he;have hb:some (G j)=some (G k):=hb;exact hI.dist k j (hG k hkb) hkS hbad hj hkj (Option.some.inj hb).symm
theorem Inv.adv(hT:TyOk T){fr:Fr}{all:Array Oper}{fp:List FP}{e0 e1:DE}{H0 H1:DH}(hP:Past T fr all e0 H0 all.size e1 H1 fp)(huni:b9a all fp all.toList=true){S:Nat->Prop}{a:Act}{w:World}{p:Nat}{W:List OE}{F:Frz}{G:Nat->Nat}(hI:Inv T F0 w0 X W0 fr all fp e1 H1 S a w p W F G):
 ∀(m:Nat),(∀(j:Nat)r,fp[j]?=some r->r.ld=true->j<m->S j)->∃p' W',p<=p'/\Inv T F0 w0 X W0 fr all fp e1 H1 S a w p' W' F G/\∀(j:Nat)r,fp[j]?=some r->r.ld=true->j<m->j<p'
 |0,_=>⟨p,W,Nat.le_refl _,hI,fun j r _ _ h=>by omega⟩
 |m+1,h=>by
  obtain⟨p',W',h1,h2,h3⟩:=hI.adv hT hP huni m fun j r hj hl hm=>h j r hj hl (by omega)
  by_cases hm:∃r,fp[m]?=some r/\r.ld=true/\p'<=m
  ·obtain⟨r,hr,hl,hpm⟩:=hm;have hS:=h m r hr hl (by omega);have hf:r.fr=true:=by
    cases hf:r.fr with
    |true=>rfl
    |false=>have:=h2.loudB m r hr hl hf hS;omega
   obtain⟨W2,h4⟩:=h2.claim hT hP huni hr hf hS hpm h3;exact⟨m+1,W2,by omega,h4,fun j r hj hl hjm=>hjm⟩
  refine⟨p',W',h1,h2,fun j r hj hl hjm=> ?_⟩
  by_cases hjm2:j=m
  ·subst hjm2;exact Nat.lt_of_not_le fun hle=>hm ⟨r,hj,hl,hle⟩
  exact h3 j r hj hl (by omega)
theorem a0w{listed:Array Bool}{i j:Nat}(hi:i<listed.size):(listed.setIfInBounds i true).getD j false=true↔j=i∨listed.getD j false=true:=by
 by_cases h:i=j
 ·subst h;simp [Array.getD_eq_getD_getElem?,hi]
 rw [getD_set_ne false h];constructor
 ·exact .inr
 rintro(rfl|h2)
 ·exact(h rfl).elim
 exact h2
theorem Inv.swap{fr:Fr}{all:Array Oper}{fp:List FP}{e1:DE}{H1:DH}{S S':Nat->Prop}{a:Act}{w:World}{p:Nat}{W:List OE}{F:Frz}{G:Nat->Nat}(h:∀k,S k↔S' k)(hI:Inv T F0 w0 X W0 fr all fp e1 H1 S a w p W F G):Inv T F0 w0 X W0 fr all fp e1 H1 S' a w p W F G:=by
 have:S=S':=funext fun k=>propext (h k);subst this;exact hI
theorem d6o(hT:TyOk T)(hLib:LibOk T){fr:Fr}{all:Array Oper}{fp:List FP}{e0 e1:DE}{H0 H1:DH}(hS:Slots all)(hP:Past T fr all e0 H0 all.size e1 H1 fp)(hchk:drwO T fr all (befT all.toList []) fp e1 H1=true){Q:Exit->Act->World->Prop}
 {listed:Array Bool} {a:Act} {w:World} {i:Nat} (hs:listed.size=all.size) {p:Nat} {W:List OE} {F:Frz} {G:Nat->Nat} (hI:Inv T F0 w0 X W0 fr all fp e1 H1 (fun j=>listed.getD j false=true) a w p W F G) (hr:i∈Region.ready .any all listed):
 wpOp P all Q i (fun a w=>∃p W F G,Inv T F0 w0 X W0 fr all fp e1 H1 (fun j=>(listed.setIfInBounds i true).getD j false=true) a w p W F G) a w:=by
 rw [mem_ready]at hr;obtain⟨hr1,o,ho,hr2⟩:=hr;have hi:i<all.size:=(Array.getElem?_eq_some_iff.1 ho).1;have hil:i<listed.size:=by omega
 obtain⟨q,hq⟩:∃q,fp[i]?=some q:=⟨_,List.getElem?_eq_getElem (by rw [hP.len];exact hi)⟩
 have hqi:=hP.num i q hq;simp only [drwO,Bool.and_eq_true]at hchk;obtain⟨⟨⟨⟨⟨⟨_,_⟩,hch⟩,hdep⟩,huni⟩,hk0⟩,hkA⟩:=hchk;have hchain:=b9h hch;have hnl:listed.getD i false=false:=by
  rw [Array.getD_eq_getD_getElem?]at hr1⊢;rw [Array.getElem?_eq_getElem hil]at hr1⊢;exact hr1
 have hbefl:∀{j:Nat},bef (befT all.toList []) i j=true->listed.getD j false=true:=fun h=>b4g (S:=fun j=>listed.getD j false=true) hS.back hI.clo ho hr2 h;have hat:∀{j:Nat}{r:FP},fp[j]?=some r->∃o',all[j]?=some o':=fun{j r}h1=>⟨_,Array.getElem?_eq_getElem (by have:=(List.getElem?_eq_some_iff.1 h1).1;rw [hP.len]at this;exact this)⟩
 have hT0:∀m,m<=i->∃M,(∀(j:Nat)r,fp[j]?=some r->r.fr=true->j<m->bef (befT all.toList []) i j=true->j<M)/\(∀(j:Nat)r,fp[j]?=some r->r.ld=true->j<M->listed.getD j false=true):=by
  intro m;induction m with
  |zero=>intro _;exact⟨0,fun j r _ _ h=>by omega,fun j r _ _ h=>by omega⟩
  |succ m ih=>
   intro hm
   by_cases hb:(∃r,fp[m]?=some r/\r.fr=true)/\bef (befT all.toList []) i m=true
   ·obtain⟨⟨r,hr,hf⟩,hbm⟩:=hb;have hm1:=hP.num m r hr;refine⟨m+1,fun j r' _ _ h _=>h,fun j r' hj hl hjm=> ?_⟩
    by_cases hjm2:j=m
    ·subst hjm2;exact hbefl hbm
    have hj1:=hP.num j r' hj;have:=c4o hdep q (List.mem_of_getElem? hq) r (List.mem_of_getElem? hr) hf (by rw [hqi,hm1];exact hbm) r' (List.mem_of_getElem? hj) hl (by omega);rw [hqi,hj1]at this;exact hbefl this
   obtain⟨M,h1,h2⟩:=ih (by omega);refine⟨M,fun j r' hj hf hjm hbj=> ?_,h2⟩
   by_cases hjm2:j=m
   ·subst hjm2;exact(hb ⟨⟨r',hj,hf⟩,hbj⟩).elim
   exact h1 j r' hj hf (by omega) hbj
 obtain⟨M,hM1,hM2⟩:=hT0 i (Nat.le_refl _);have hstr:q.ld=true->q.fr=false->∀(j:Nat)r,fp[j]?=some r->r.ld=true->j<i->listed.getD j false=true:=fun h1 h2 j r hj hl hji=>by
  have:=hchain j i r q hji hj hq hl h1 h2;rw [hqi,hP.num j r hj]at this;exact hbefl this
 have hadv:∃p' W',Inv T F0 w0 X W0 fr all fp e1 H1 (fun j=>listed.getD j false=true) a w p' W' F G/\(∀(j:Nat)r,fp[j]?=some r->r.fr=true->j<i->bef (befT all.toList []) i j=true->j<p')/\(q.ld=true->q.fr=false->∀(j:Nat)r,fp[j]?=some r->r.ld=true->j<i->j<p'):=by
  by_cases hc:q.ld=true/\q.fr=false
  ·obtain⟨p',W',_,h2,h3⟩:=hI.adv hT hP huni i (hstr hc.1 hc.2);refine⟨p',W',h2,fun j r hj hf hji _=> ?_,fun _ _=>h3⟩;obtain⟨o',ho'⟩:=hat hj;obtain⟨_,⟨_,hfr⟩,_⟩:=hP.past j o' r hj ho';exact h3 j r hj (hfr hf).1 hji
  obtain⟨p',W',_,h2,h3⟩:=hI.adv hT hP huni M hM2;refine⟨p',W',h2,fun j r hj hf hji hb=> ?_,fun h1 h2=>(hc ⟨h1,h2⟩).elim⟩;obtain⟨o',ho'⟩:=hat hj;obtain⟨_,⟨_,hfr⟩,_⟩:=hP.past j o' r hj ho';exact h3 j r hj (hfr hf).1 (hM1 j r hj hf hji hb)
 clear hI;obtain⟨p,W,hI,hfree,hstrict⟩:=hadv;obtain⟨hc0,⟨hrc,hfr⟩,hd,v0,hlink,hcase⟩:=hP.past i o q hq ho;have hEi:eAt fp e1 i=q.e:=a5s hq;have hL:=b6i hP;have hnot:∀{k:Nat},bef (befT all.toList []) k i=true->¬listed.getD k false=true:=fun{k}hb hk=>by
  obtain⟨o',hk',_⟩:=b1g hb;have:=b4g (S:=fun j=>listed.getD j false=true) hS.back hI.clo hk' (fun e' he' hb'=>hI.clo k o' hk hk' e' he' hb') hb;rw [hnl]at this;cases this
 have hls:∀t∈looks all o,∀(k:Nat)o',all[k]?=some o'->o'.dst=some t->(listed.getD k false=true↔k<i):=fun t ht k o' hk hkd=>by
  have h1:=hS.ord i k o o' t ho hk hkd (.inr ht);rcases Nat.lt_trichotomy k i with h|rfl|h
  ·exact⟨fun _=>h,fun _=>hbefl (h1.1 h)⟩
  ·rw [hnl];simp
  exact⟨fun h2=>(hnot (h1.2 h) h2).elim,fun h2=>by omega⟩
 have hlb:∀t∈looks all o,∀(k:Nat)o',all[k]?=some o'->o'.dst=some t->k<i->¬Bad fp p k:=fun t ht k o' hk hkd hki⟨r,h1,h2,h3⟩=>by
  have:=hfree k r h1 h2 hki ((hS.ord i k o o' t ho hk hkd (.inr ht)).1 hki);omega
 have hlate:∀(k:Nat)o' t,all[k]?=some o'->o.dst=some t->o'.dst=some t->i<k->¬listed.getD k false=true:=fun k o' t hk h1 h2 h3=>hnot ((hS.ord i k o o' t ho hk h2 (.inl h1)).2 h3);have hclo:d4z all fun j=>(listed.setIfInBounds i true).getD j false=true:=by
  intro j o' hj ho' e' he' hb';rw [a0w hil]at hj⊢;rcases hj with rfl|hj
  ·rw [ho]at ho';cases ho';exact .inr (hr2 e' he' hb')
  exact .inr (hI.clo j o' hj ho' e' he' hb')
 have hE:=hI.has.env (l:=looks all o) (Nat.le_of_lt hi) hls hlb;rw [hEi]at hE;have hkeep:∀{u:Value}(j:Nat)o',all[j]?=some o'->Bad fp p j->j≠i->∀d,o'.dst=some d->∀v,a.tmps[d]?=some v->(a.put o.dst u).tmps[d]?=some v:=fun{u}j o' hj hb hji d hd v hv=>by
  obtain⟨r,h1,h2,_⟩:=hb;have hne:o.dst≠some d:=fun he=>by
   have:=b6v huni j r o' d h1 (by simpa using hj) h2 hd i o ho he;rw [hP.num j r h1]at this;exact hji this
  cases hdst:o.dst with
  |none=>exact hv
  |some s=>
   rw [hdst]at hne;simp only [Act.put];rw [Array.getElem?_setIfInBounds_ne (by simpa using hne)];exact hv
 unfold wpOp;rw [ho];dsimp only;have hcalm:q.ld=false->∀{u:Value}{w':World}{W':List OE}{F':Frz},Rel T F0 w0 X W0 W' (hAt fp H1 p) F' w'->Ext W (hAt fp H1 p) F W' (hAt fp H1 p) F'->(∀s x,o.dst=some s->a0l s (eAt fp e1 (i+1))=some x->Conc W' (hAt fp H1 p) F' x u)->(∀g t us,Idle w0 X W (hAt fp H1 p) F w g t us->Idle w0 X W' (hAt fp H1 p) F' w' g t us)->
  ∃p W F G,Inv T F0 w0 X W0 fr all fp e1 H1 (fun j=>(listed.setIfInBounds i true).getD j false=true) (a.put o.dst u) w' p W F G:=by
  intro hld u w' W' F' h1 hx hv hid;have hnb:¬Bad fp p i:=fun⟨r,g1,g2,_⟩=>by
   rw [hq]at g1;cases g1;rw [(hfr g2).1]at hld;cases hld
  refine⟨p,W',F',G,hI.cut,fun j r hj hjl hjp=>(a0w hil).2 (.inr (hI.loudA j r hj hjl hjp)),fun j r hj hjl hjf hjs=> ?_,hclo,h1,hI.has.put hL hx ho hd (fun _=>hv) (fun k=>a0w hil) (fun k hk=>hk) hlate,fun j o' hj hb hjs=> ?_,fun j k h1 h2 h3 h4=> ?_⟩
  ·rcases(a0w hil).1 hjs with rfl|h
   ·rw [hq]at hj;cases hj;rw [hld]at hjl;cases hjl
   exact hI.loudB j r hj hjl hjf h
  ·have hji:j≠i:=fun e=>hnb (e▸hb);obtain⟨t,z,k1,k2,k3,k4⟩:=hI.early j o' hj hb (((a0w hil).1 hjs).resolve_left hji);exact⟨t,z,k1,k2,hid _ _ _ k3,fun d hd=>hkeep j o' hj hb hji d hd _ (k4 d hd)⟩
  exact hI.dist j k h1 (((a0w hil).1 h2).resolve_left fun e=>hnb (e▸h1)) h3 (((a0w hil).1 h4).resolve_left fun e=>hnb (e▸h3))
 have hval:∀{W':List OE}{H':DH}{F':Frz}{u:Value}(y:DV),v0=some y->Conc W' H' F' y u->∀s x,o.dst=some s->a0l s (eAt fp e1 (i+1))=some x->Conc W' H' F' x u:=fun y hy hc s x hsd hx=>by
  have h1:=hlink s;rw [hsd,hy,a7e,hx]at h1;exact a3k h1 hc
 rcases hcase with⟨g1,g2,g3⟩|⟨g1,res,g2,g4,g5,_⟩
 ·have hw:=c7j hE (by rw [a8r];exact g1);rw [if_neg (by simp [hw])];exact hcalm g2 hI.rel hI.rel.refl (hval _ g3 conc_undef) fun _ _ _ h=>h
 have hw:=c7j hE (by rw [a8r];exact g1);rw [if_pos hw];refine .inl ?_;cases hf:q.fr with
 |true=>
  obtain⟨hld,hal⟩:=hfr hf;obtain⟨t,z,hop,hz,hv,hH⟩:=b9q hal g2;obtain⟨hz1,hz2⟩:=hT.zero hz;have hip:p<=i:=Nat.le_of_not_lt fun h=>by
   have:=hI.loudA i q hq hld h;rw [hnl]at this;cases this
  have hbi:Bad fp p i:=⟨q,hq,hf,hip⟩
  have hrun:(execOp a.eval o).run P w= .ok (.value (.pointer (some ⟨w.heap.size,0,none⟩))) (w.alloc (.cells z.cells t)):=by
   obtain⟨dst,op,ty,pos,af,gu⟩:=o;cases hop;simp [execOp,Instr.alloc,hz1 w,newVar,newRow]
  have hgr:=World.grownBy_alloc w (.cells z.cells t) none;have hidle:∀g t2 us,Idle w0 X W (hAt fp H1 p) F w g t2 us->Idle w0 X W (hAt fp H1 p) F (w.alloc (.cells z.cells t)) g t2 us:=fun g t2 us h=>⟨by
   rw [hgr.block g (Array.getElem?_eq_some_iff.1 h.cells).1 (by simp)];exact h.cells,h.fz,h.own,h.new⟩
  refine b3q hrun ⟨p,W,F,fun k=>if k=i then w.heap.size else G k,hI.cut,fun j r hj hjl hjp=>(a0w hil).2 (.inr (hI.loudA j r hj hjl hjp)),fun j r hj hjl hjf hjs=> ?_,hclo,hI.rel.grow hgr,hI.has.put hL hI.rel.refl ho hd (fun h=>(h hbi).elim) (fun k=>a0w hil) (fun k hk=>hk) hlate,fun j o' hj hb hjs=> ?_,fun j k h1 h2 h3 h4 hne=> ?_⟩
  ·rcases(a0w hil).1 hjs with rfl|h
   ·rw [hq]at hj;cases hj;rw [hf]at hjf;cases hjf
   exact hI.loudB j r hj hjl hjf h
  ·by_cases hji:j=i
   ·subst hji;rw [ho]at hj;cases hj;refine⟨t,z,hop,hz,⟨?_,?_,fun e he hb=> ?_,.inl (by simp only [if_true];exact hI.rel.hd.size)⟩,fun d hdd=> ?_⟩
    ·simp only [if_true];rw [heap_alloc_new]
    ·simp only [if_true];cases hF:F w.heap.size with
     |none=>rfl
     |some ob=>have:=hI.rel.hd.sat.lt (b:=w.heap.size) (by simp [hF]);omega
    ·simp only [if_true]at hb;have:=OE.lt (hI.rel.hd.own e he) hb;omega
    rw [hdd]at hd;have hdn:d<fr.n:=by simpa [b0n]using hd
    simp [hdd,Act.put,hI.has.size,hdn]
   obtain⟨t2,z2,k1,k2,k3,k4⟩:=hI.early j o' hj hb (((a0w hil).1 hjs).resolve_left hji);refine⟨t2,z2,k1,k2,?_,fun d hdd=> ?_⟩
   ·simp only [if_neg hji];exact hidle _ _ _ k3
   simp only [if_neg hji];exact hkeep j o' hj hb hji d hdd _ (k4 d hdd)
  have hlt:∀k,Bad fp p k->k≠i->(listed.setIfInBounds i true).getD k false=true->G k<w.heap.size:=fun k hb hki hks=>by
   obtain⟨r,hr,hb2⟩:=hb;obtain⟨o',ho'⟩:=hat hr;obtain⟨t2,z2,k1,k2,k3,k4⟩:=hI.early k o' ho' ⟨r,hr,hb2⟩ (((a0w hil).1 hks).resolve_left hki);exact(Array.getElem?_eq_some_iff.1 k3.cells).1
  by_cases hji:j=i
  ·have hki:k≠i:=fun e=>hne (hji.trans e.symm);simp only [if_pos hji,if_neg hki];have:=hlt k h3 hki h4;omega
  by_cases hki:k=i
  ·simp only [if_pos hki,if_neg hji];have:=hlt j h1 hji h2;omega
  simp only [if_neg hki,if_neg hji];exact hI.dist j k h1 (((a0w hil).1 h2).resolve_left hji) h3 (((a0w hil).1 h4).resolve_left hki) hne
 |false=>
  have hO:∀{H:DH},(hH:EnvR fr.n W H F (cutE q.e (looks all o)) a)->∀{F1:Frz}{w1:World}{X1:List Nat},Rel T F1 w1 X1 W0 W H F w->OpOk T F1 w1 X1 W0 W H F a w o (opF T fr.nest true q.e H o.type o.op):=fun{H}hH{F1 w1 X1}hrel=>by
   have:=d9n (dst:=o.dst) (type:=o.type) (pos:=o.pos) (after:=o.after) (guard:=o.guard) hT hLib hH hrel fr.nest true o.op;rw [e5w]at this;exact this
  cases hld:q.ld with
  |true=>
   have hpi:p<=i:=Nat.le_of_not_lt fun h=>by
    have:=hI.loudA i q hq hld h;rw [hnl]at this;cases this
   have hall:=hstrict hld hf;have hHp:hAt fp H1 p=q.H:=by
    rw [<-a6t (a6a hP) hpi fun j r h1 h2 h3=> ?_,a5p hq];cases hr:r.ld with
    |false=>rfl
    |true=>have:=hall j r h3 hr h2;omega
   have hrel:=hI.rel;have hhas:=hI.has;rw [hHp]at hrel hhas hE;have hbb:∀k,Bad fp p k↔Bad fp (i+1) k:=fun k=>by
    constructor
    ·rintro⟨r,h1,h2,h3⟩;refine⟨r,h1,h2,?_⟩;obtain⟨o',ho'⟩:=hat h1;obtain⟨_,⟨_,hfr2⟩,_⟩:=hP.past k o' r h1 ho';rcases Nat.lt_trichotomy k i with h|rfl|h
     ·have:=hall k r h1 (hfr2 h2).1 h;omega
     ·rw [hq]at h1;cases h1;rw [hf]at h2;cases h2
     omega
    rintro⟨r,h1,h2,h3⟩;exact⟨r,h1,h2,by omega⟩
   have hnbi:∀{k},Bad fp p k->k≠i:=fun{k}⟨r,h1,h2,_⟩e=>by
    subst e;rw [hq]at h1;cases h1;rw [hf]at h2;cases h2
   obtain⟨y,hy⟩:∃y,valU res.v=some y:=by cases res.v<;>exact⟨_,rfl⟩
   refine c5e hrel (hO hE) g2 fun u w' W' F' k1 k2 k3 kid=>⟨i+1,W',F',G,.inr ⟨q,by simpa using hq,hld,by omega⟩,fun j r hj hjl hjp=> ?_,fun j r hj hjl hjf hjs=> ?_,hclo,by rw [g4];exact k1,?_,fun j o' hj hb hjs=> ?_,fun j k h1 h2 h3 h4=> ?_⟩
   ·rw [a0w hil]
    by_cases hji:j=i
    ·exact .inl hji
    exact .inr (hI.loudA j r hj hjl (hall j r hj hjl (by omega)))
   ·rcases(a0w hil).1 hjs with rfl|h
    ·omega
    have:=hI.loudB j r hj hjl hjf h;omega
   ·rw [g4];exact hhas.put hL k2 ho hd (fun _=>hval y (g5.trans hy) (k3 y hy)) (fun k=>a0w hil) (fun k hk=>(hbb k).1 hk) hlate
   ·have hb:=(hbb j).2 hb;obtain⟨t,z,l1,l2,l3,l4⟩:=hI.early j o' hj hb (((a0w hil).1 hjs).resolve_left (hnbi hb));rw [hHp]at l3;rw [g4];exact⟨t,z,l1,l2,kid _ _ _ l3,fun d hdd=>hkeep j o' hj hb (hnbi hb) d hdd _ (l4 d hdd)⟩
   have h1:=(hbb j).2 h1;have h3:=(hbb k).2 h3;exact hI.dist j k h1 (((a0w hil).1 h2).resolve_left (hnbi h1)) h3 (((a0w hil).1 h4).resolve_left (hnbi h3))
  |false=>
   have hchk1:chkO T fr all (befT all.toList []) fp e1 p (hAt fp H1 p) fp all.toList=true:=by
    rcases hI.cut with rfl|⟨r,h1,h2,h3⟩
    ·exact hk0
    have:=d1j hkA r (List.mem_of_getElem? h1) h2;rw [hP.num _ _ h1]at this
    rwa [show p-1+1=p by omega]at this
   have hmay:mayO (befT all.toList []) q.i p fp=true:=by
    unfold mayO;refine List.all_eq_true.2 fun r hr=> ?_;obtain⟨j,hj⟩:=List.mem_iff_getElem?.1 hr;cases hrl:r.ld with
    |false=>rfl
    |true=>
     have hrj:=hP.num j r hj;rw [hqi,hrj];simp only [Bool.not_true,Bool.false_or];split
     ·rename_i hb;have hb:j<p:=by simpa using hb
      cases hx:bef (befT all.toList []) j i with
      |false=>rfl
      |true=>exact(hnot hx (hI.loudA j r hj hrl hb)).elim
     rename_i hb;have hb:¬j<p:=fun h=>by rw [show Nat.blt j p=true from by simpa using h]at hb;cases hb
     cases hx:bef (befT all.toList []) i j with
     |false=>rfl
     |true=>
      cases hrf:r.fr with
      |false=>exact(hb (hI.loudB j r hj hrl hrf (hbefl hx))).elim
      |true=>exact(hb (hfree j r hj hrf (e9y hS.back hx) hx)).elim
   rcases c9z hchk1 i q o hq (by simpa using ho) hld with h0|h0|h1|⟨h1,h2⟩
   ·have hHp:hAt fp H1 p=q.H:=by
     rw [<-a5p (H:=H1) hq];have hno:∀(j:Nat)r,fp[j]?=some r->((p<=j/\j<i)∨(i<=j/\j<p))->r.ld=false:=fun j r hj hb=>by
      have h5:=List.all_eq_true.1 h0 r (List.mem_of_getElem? hj);rw [hqi,hP.num j r hj]at h5;cases hl:r.ld with
      |false=>rfl
      |true=>
       rw [hl]at h5;rcases hb with⟨h6,h7⟩|⟨h6,h7⟩
       ·rw [show Nat.blt j p=false from by rw [Bool.eq_false_iff];simp;omega,show Nat.blt j i=true from by simpa using h7]at h5;cases h5
       rw [show Nat.blt j p=true from by simpa using h7,show Nat.blt j i=false from by rw [Bool.eq_false_iff];simp;omega]at h5;cases h5
     rcases Nat.le_total p i with hle|hle
     ·exact(a6t (a6a hP) hle fun j r h6 h7 hj=>hno j r hj (.inl ⟨h6,h7⟩)).symm
     exact a6t (a6a hP) hle fun j r h6 h7 hj=>hno j r hj (.inr ⟨h6,h7⟩)
    obtain⟨_,_,_,v0,hlink,hcase⟩:=hP.past i o q hq ho;rcases hcase with⟨h1,_,_⟩|⟨h1,res',r1,r2,r3,_⟩
    ·have:=c7j hE (by rw [a8r];exact h1);rw [hw]at this;cases this
    have r4:res'.H=hAt fp H1 p:=by rw [hHp,<-r2];exact hc0 hld
    refine c5e hI.rel (hO hE) (by rw [hHp];exact r1) fun u w' W' F' k1 k2 k3 kid=> ?_;rw [r4]at k1 k2 k3 kid;refine hcalm hld k1 k2 (fun s y hsd hy=> ?_) kid;obtain⟨d,hd'⟩:∃d,valU res'.v=some d:=by cases res'.v<;>exact⟨_,rfl⟩
    have h5:=hlink s;rw [hsd,r3,hd',a7e,hy]at h5;exact a3k h5 (k3 d hd')
   ·obtain⟨_,_,_,v0,hlink,hcase⟩:=hP.past i o q hq ho;rcases hcase with⟨h1,_,_⟩|⟨h1,res0,_,_,r3,hmv⟩
    ·have:=c7j hE (by rw [a8r];exact h1);rw [hw]at this;cases this
    obtain⟨res',r1,r4,r5⟩:=hmv hld (hAt fp H1 p);rw [<-r5]at r3;refine c5e hI.rel (hO hE) (by rw [h0];exact r1) fun u w' W' F' k1 k2 k3 kid=> ?_;rw [r4]at k1 k2 k3 kid;refine hcalm hld k1 k2 (fun s y hsd hy=> ?_) kid;obtain⟨d,hd'⟩:∃d,valU res'.v=some d:=by cases res'.v<;>exact⟨_,rfl⟩
    have h5:=hlink s;rw [hsd,r3,hd',a7e,hy]at h5;exact a3k h5 (k3 d hd')
   ·have:=c7j hE (by rw [a8r];exact h1);rw [hw]at this;cases this
   obtain⟨x,hx1,hx2⟩:=h2 hmay;obtain⟨res',r1,r2,r3⟩:=d9l (T:=T) (H:=hAt fp H1 p) hrc hx2;refine c5e hI.rel (hO hE) r1 fun u w' W' F' k1 k2 k3 kid=> ?_;rw [r2]at k1 k2 k3 kid;refine hcalm hld k1 k2 (fun s y hsd hy=> ?_) kid;rw [e9j,hsd]at hx1;simp only [dstA,hy,Option.some.injEq]at hx1;obtain⟨v,v1,v2⟩:=r3 y hx1.symm;exact d7x v2 (k3 v v1)
theorem e4s(hT:TyOk T)(hLib:LibOk T):DrawOk T:=by
 intro n fr id all k e H r Hr Q F0 w0 X W0 W F a w hD hp hR hE IF hk;have hS:=b4t IF hD;have h0:Past T fr all e H 0 e H []:=⟨rfl,rfl,fun j p hp=>by simp at hp,fun t=> .refl,fun j o p hp=>by simp at hp⟩
 obtain⟨m,e1,H1,fp,hm,hD1,hP,hchk⟩:=b5z IF (Nat.zero_le _) rfl h0 hD;have huni:b9a all fp all.toList=true:=by
  simp only [drwO,Bool.and_eq_true]at hchk;exact hchk.1.1.2
 have hc:=a6a hP;have hL:=b6i hP;have hg:w.grownBy {w with drawn:=w.drawn+1} none:=⟨rfl,rfl,rfl,Nat.le_refl _,fun _ _ _=>rfl⟩
 have hH0:hAt fp H1 0=H:=hP.heap;have hno:∀k,¬(Array.replicate all.size false).getD k false=true:=fun k=>by
  simp only [Array.getD_eq_getD_getElem?,Array.getElem?_replicate];split<;>simp
 refine c7q (I:=fun listed a w=>∃p W F G,Inv T F0 w0 X W0 fr all fp e1 H1 (fun j=>listed.getD j false=true) a w p W F G) hT.mix hS.back (fun listed a w i hs hI hr=> ?_) (fun listed a w hs hall hI=> ?_) ?_
 ·obtain⟨p,W,F,G,hI⟩:=hI;exact d6o hT hLib hS hP hchk hs hI hr
 ·obtain⟨p0,W0',F,G,hI0⟩:=hI;obtain⟨p,W,_,hI,hpp⟩:=hI0.adv hT hP huni all.size fun j r hj hl hjm=>hall j hjm;have hHp:hAt fp H1 p=H1:=by
   by_cases hpl:p<=all.size
   ·rw [<-a6t hc hpl fun j q h1 h2 h3=> ?_,a6s (by rw [hP.len];exact Nat.le_refl _)];cases hq:q.ld with
    |false=>rfl
    |true=>
     have:=hpp j q h3 hq h2;omega
   exact a6s (by rw [hP.len];omega)
  have h1:=hI.rel;have h2:=hI.has;rw [hHp]at h1 h2;refine hk m hm e1 H1 W F a w hD1 h1 ⟨h2.size,h2.defers,fun t d ht=>h2.get t all.size d (Nat.le_refl _) (fun k o' hk' _=>⟨fun _=>(Array.getElem?_eq_some_iff.1 hk').1,fun h=>hall k h⟩) (fun k o' hk' _ hkm⟨q,q1,q2,q3⟩=> ?_) (by rw [a8u (by rw [hP.len];exact Nat.le_refl _)];exact ht)⟩;obtain⟨_,⟨_,hfr2⟩,_⟩:=hP.past k o' q q1 hk';have:=hpp k q q1 (hfr2 q2).1 hkm;omega
 refine⟨0,W,F,fun _=>0,.inl rfl,fun j q hj hjl hj0=>by omega,fun j q hj hjl _ hjs=>(hno j hjs).elim,fun j o' hj=>(hno j hj).elim,by rw [hH0];exact hR.grow hg,⟨hE.size,hE.defers,fun t m x hm ht _ hx=> ?_⟩,fun j o' _ _ hjs=>(hno j hjs).elim,fun j k _ hjs=>(hno j hjs).elim⟩;have h1:=(hP.base t).trans (hL.go (t:=t) (m:=0) (m':=m) (Nat.zero_le _) hm fun k o' _ h2 hk hkd=>hno k ((ht k o' hk hkd).2 h2));rw [hx]at h1;obtain⟨z,hz,h2⟩:=b9l h1;obtain⟨u,g1,g2⟩:=hE.get t z hz;refine⟨u,g1,?_⟩;rw [hH0];exact a3k h2 g2
end
set_option linter.unusedVariables false
set_option linter.unusedSimpArgs false
section
variable{P:Program}
theorem b0v{t:TypeId}{k:Nat}(h:c7u P t=some k):a9f P t k:=by
 intro w;unfold c7u at h;split at h
 ·rename_i i hi;cases h;simp [sizeOf,typeInfo,hi]
 cases h
theorem c7z{fs:List Field}{ps:List (Nat×Nat)}(h:fdsT P fs=some ps)(w:World):
 (List.mapM (m:=Go.Sem) (fun f:Field=>Functor.map (Prod.mk f.offset) (sizeOf f.type)) fs).run P w= .ok ps w:=by
 induction fs generalizing ps with
 |nil=>cases h;simp
 |cons f fs ih=>
  simp only [fdsT]at h;split at h
  ·rename_i k hk;split at h
   ·rename_i r hr;cases h;have h3:=b0v hk w;have h4:=ih hr;rw [List.mapM_cons];simp [h3,h4]
   cases h
  cases h
theorem e4r{t:TypeId}{ps:List (Nat×Nat)}(h:bldT P t=some ps)(w:World)(z:Value)(vl:List (Nat×Value))(us:List Value)(hz:b2v P t z)(hf:Instr.fill (fun i=>ps[i]?) z.cells vl=some us.toArray):(Instr.build t vl.toArray).run P w= .ok (.agg us.toArray) w:=by
 unfold bldT at h;unfold Instr.build;split at h
 ·rename_i fs hu;have h4:=c7z h w;simp [hz w,underlying,hu,Array.mapM_eq_mapM_toList,h4,hf]
 ·rename_i n e hu;split at h
  ·rename_i k hk;cases h;have hs:=b0v hk w;have hf':Instr.fill (fun i=>some (i*k,k)) z.cells vl=some us.toArray:=by
    have:∀(l:List (Nat×Value))(cs cs':Array Value),Instr.fill (fun i=>((List.range n).map fun i=>(i*k,k))[i]?) cs l=some cs'->Instr.fill (fun i=>some (i*k,k)) cs l=some cs':=by
     intro l;induction l with
     |nil=>intro cs cs' h;exact h
     |cons p l ih=>
      obtain⟨j,v⟩:=p;intro cs cs' h
      by_cases hj:j<n
      ·have e1:((List.range n).map fun i=>(i*k,k))[j]?=some (j*k,k):=by simp [hj]
       simp only [Instr.fill,e1]at h⊢;split at h
       ·cases h
       rename_i hc;rw [if_neg hc];exact ih _ _ h
      have e1:((List.range n).map fun i=>(i*k,k))[j]?=none:=by simp;omega
      simp only [Instr.fill,e1]at h;cases h
    exact this _ _ _ hf
   simp [hz w,underlying,hu,hs,hf']
  cases h
 cases h
theorem b7k{t:TypeId}{z:Value}(h:e6r P t=some z):∃i,P.info? t=some i/\i.zero=some z/\z.cells.size=i.size/\z.cells.toList.all Value.oneCell'=true:=by
 unfold e6r at h;split at h
 ·rename_i i hi;split at h
  ·rename_i z' hz;split at h
   ·rename_i hc;cases h;simp only [Bool.and_eq_true]at hc;exact⟨i,hi,hz,Nat.eq_of_beq_eq_true hc.2,hc.1⟩
   cases h
  cases h
 cases h
theorem d4k{t el:TypeId}{q b:Nat}(h:appT P t=some (el,q,b)):P.underlying t=some (.slice el)/\∃i z,P.info? el=some i/\i.zero=some z/\z.cells.size=q/\i.size=q/\i.bytes=b:=by
 unfold appT at h;split at h
 ·rename_i e hu;split at h
  ·rename_i i hi;split at h
   ·rename_i z hz;split at h
    ·rename_i hc;cases h;exact⟨hu,i,z,hi,hz,Nat.eq_of_beq_eq_true hc,rfl,rfl⟩
    cases h
   cases h
  cases h
 cases h
theorem c4v{t:TypeId}{c:Nat}(h:kindC (P.underlying t)=some c){cs:Array Value}{o:Nat}{v:Value}(hv:cs[o]?=some v)(w:World):(part t cs o).run P w= .ok v w:=by
 have h1:(isAgg t).run P w= .ok false w:=by
  unfold isAgg;unfold kindC at h;split at h<;>first
   |(rename_i hu;simp [underlying,hu];done)
   |cases h
 unfold part;simp [h1,hv]
theorem d3d{t:TypeId}{c:Nat}(h:kindC (P.underlying t)=some c){x y:VT}{b:Bool}(hs:sameK c x y=some b)(d:Nat)(w:World):(Op.equalIn (d+1) t (valV x) (valV y)).run P w= .ok b w:=by
 unfold sameK at hs;split at hs
 ·rename_i k x k' y;split at hs
  ·rename_i hk;have hk:=of_decide_eq_true hk;subst hk;cases hs;unfold kindC at h;split at h<;>first
    |(rename_i hu;exact run_equalIn_int w d t k _ x y hu)
    |cases h
  cases hs
 ·cases hs;unfold kindC at h;split at h<;>first
   |(rename_i hu;exact run_equalIn_bool w d t _ _ hu)
   |cases h
 ·rename_i x y;cases hs;unfold kindC at h;split at h<;>first
   |(rename_i hu
     have:=run_equalIn_string (P:=P) w d t ⟨x.toArray⟩ ⟨y.toArray⟩ hu;rw [<-beq_toListBytes,c9w]at this;exact this)
   |cases h
 cases hs
theorem c2s{d:Nat}:∀{fs:List Field}{o:Nat}{ks:List Nat},eqFs P o fs=some ks->∀{px py xs ys:List VT}{b:Bool},px.length=o->py.length=o->sameKs ks xs ys=some b->∀w,(Op.eqFields (d+1) ((px++xs).map valV).toArray ((py++ys).map valV).toArray fs).run P w= .ok b w
 | [],o,ks,h,px,py,xs,ys,b,h1,h2,hs,w=>by
   cases h;cases xs<;>cases ys<;>simp [sameKs]at hs;subst hs;simp [Op.eqFields]
 |f::fs,o,ks,h,px,py,xs,ys,b,h1,h2,hs,w=>by
  simp only [eqFs]at h;split at h
  ·rename_i c hf hc;split at h
   ·rename_i r hr;cases h;obtain⟨ho,hn⟩:=beqT hf;have ho:=Nat.eq_of_beq_eq_true ho;have hn:f.name≠ "_" :=by simpa using hn
    cases xs with
    |nil=>simp [sameKs]at hs
    |cons x xs=>
     cases ys with
     |nil=>simp [sameKs]at hs
     |cons y ys=>
      simp only [sameKs]at hs;split at hs
      ·rename_i b1 hb1;split at hs
       ·rename_i b2 hb2;cases hs;have hx:((px++x::xs).map valV).toArray[f.offset]?=some (valV x):=by
         rw [ho,<-h1];simp
        have hy:((py++y::ys).map valV).toArray[f.offset]?=some (valV y):=by
         rw [ho,<-h2];simp
        have e1:=c4v hc hx w;have e2:=c4v hc hy w;have e3:=d3d hc hb1 d w;have e4:=c2s (d:=d) hr (px:=px++ [x]) (py:=py++ [y]) (by simp [h1]) (by simp [h2]) hb2 w;simp only [List.append_assoc,List.singleton_append]at e4;simp only [Op.eqFields,if_pos hn];generalize ((px++x::xs).map valV).toArray=X at*;generalize ((py++y::ys).map valV).toArray=Y at*;cases b1 with
        |false=>simp [e1,e2,e3]
        |true=>simp [e1,e2,e3,e4]
       cases hs
      cases hs
   cases h
  cases h
theorem e6n(hm:P.follows .mixedOrders=true){gls:List (Nat×VT)}{gis:List (Nat×IntKind)}{pass own flat nest:FuncId->Bool}{ext:FuncId->Option (List VT->Option DV)}{cv:Bool}{cl:FuncId->Bool}{sp:FuncId->Option (Bool×TypeId×TypeId)}:TyOk (tyOf P gls gis pass own flat nest ext cv cl sp)where
 und h:=h
 agg:=by
  intro t b h w;have h:aggT P t=some b:=h;unfold aggT at h;unfold isAgg;split at h<;>simp at h<;>subst h
  ·rename_i hu;simp [underlying,hu]
  ·rename_i hu;simp [underlying,hu]
  rename_i d h1 h2 hu;simp [underlying,hu]
 size h:=b0v h
 fld:=by
  intro t j o h b p w;have h:e6z P t j=some o:=h;unfold e6z at h;split at h
  ·rename_i u o' hf;split at h
   ·rename_i k hk;cases h;unfold fldT at hf;split at hf
    ·rename_i fs hu;split at hf
     ·rename_i f hg;cases hf;have hs:=b0v hk w;rw [a0j]at hg;have hg':fs[j]?=some f:=by simpa using hg
      simp [Instr.fieldAt,underlying,hu,hg',Instr.sureAddr,fieldPlace,hs,Rt.addr_add]
     cases hf
    cases hf
   cases h
  cases h
 fel:=by
  intro t j e o h;have h:fldT P t j=some (e,o):=h;unfold fldT at h;split at h
  ·rename_i fs hu;split at h
   ·rename_i f hg;cases h;rw [a0j]at hg;exact⟨fs,f,hu,by simpa using hg,rfl,rfl⟩
   cases h
  cases h
 zero:=by
  intro t z h;obtain⟨i,h1,h2,_,h4⟩:=b7k h;exact⟨fun w=>by simp [zeroValue,typeInfo,h1,h2],h4⟩
 app:=by
  intro t el q b h;obtain⟨hu,i,z,h1,h2,h3,h4,h5⟩:=d4k h;exact⟨hu,fun w=>by simp [sizeOf,typeInfo,h1,h4],fun p1 p2=>⟨hu,⟨i,z,h1,h2,h4,h5,h3⟩,p1,p2⟩⟩
 zsize:=by
  intro t el q b z h hz;obtain⟨hu,i,z',h1,h2,h3,h4,h5⟩:=d4k h;obtain⟨i',g1,g2,g3,_⟩:=b7k hz;rw [h1]at g1;cases g1;rw [g3,h4]
 bld h:=e4r h
 zinfo:=by
  intro t el q b z h hz;obtain⟨i',g1,g2,g3,_⟩:=b7k hz;rw [g1];simp [g2]
 eqs:=by
  intro t ks h xs ys b hs;have h:eqsT P t=some ks:=h;unfold eqsT at h;split at h
  ·rename_i fs hu;split at h
   ·rename_i hg;simp only [Bool.or_eq_false_iff]at hg;refine⟨hg.2,fun w=> ?_⟩;have hf:P.fieldsOf t=fs:=by unfold Program.fieldsOf;rw [hu]
    rw [run_equalIn_struct w 9999 t _ _ (by rw [hf];exact hu) hg.1,hf];exact c2s (d:=9998) h (px:= []) (py:= []) rfl rfl hs w
   cases h
  cases h
 mix:=hm
end
set_option linter.unusedVariables false
def okB(c:Bool)(r:DV):Option DV:=match c with
 |true=>some r
 |false=>none
def xIndexByte:List VT->Option DV | [.str l,.int .u8 c]=>some (.v (.int .i64 (Lib.indexByte l c.toNat.toUInt8))) |_=>none
def xItoa:List VT->Option DV | [.int .i64 n]=>okB (decide (-9223372036854775808<=n)&&decide (n<=9223372036854775807)) (.v (.str (Lib.itoa n))) |_=>none
def strs:List VT->Option (List Bs)
 | []=>some []
 | .str l::r=>match strs r with
   |some q=>some (l::q)
   |none=>none
 |_=>none
def xJoin:List VT->Option DV
 | [.sl xs,.str sep]=>match strs xs with
   |some l=>okB (decide (l.length<=140737488355328)&&decide ((Lib.join l sep).length<=140737488355328)) (.v (.str (Lib.join l sep)))
   |none=>none
 |_=>none
def xRepeat:List VT->Option DV | [.str l,.int .i64 n]=>okB (decide (0<=n)&&decide (n<=9223372036854775807)&&decide (l.length*n.toNat<=140737488355328)) (.v (.str (Lib.repeatL l n.toNat))) |_=>none
def xCutPrefix:List VT->Option DV | [.str s,.str p]=>some (.tup [.v (.str (Lib.trimPrefix s p)),.v (.bool (Lib.hasPrefix s p))]) |_=>none
def xAtoi:List VT->Option DV
 | [.str s]=>okB (decide (s.length<=281474976710656)) (match Lib.atoiAll s with
   | .ok v=> .tup [.v (.int .i64 v),.v (.val .nilIface)]
   | .range=> .tup [.v (.int .i64 (Lib.atoiSat s)),.v .ifc]
   |_=> .tup [.v (.int .i64 0),.v .ifc])
 |_=>none
def a2e(l:Bs):Bs:=Lib.itoa l.length++ [58]++l++ [44]
set_option linter.unusedVariables false
abbrev N(x:Int):VT:= .int .i64 x
abbrev I(x:Int):DV:= .v (.int .i64 x)
abbrev B(b:Bool):DV:= .v (.bool b)
abbrev S(l:Bs):DV:= .v (.str l)
abbrev L(l:List VT):DV:= .v (.sl l)
abbrev A(l:List VT):DV:= .v (.agg l)
abbrev bk(o:Ob):Blk:=⟨0,0,false,false,false,o⟩
abbrev ns(l:List Int):List VT:=l.map N
class BP (b:Bool) (p:outParam Prop):Prop where
 iff:b=true↔p
instance{p:Prop} [Decidable p]:BP (decide p) p:=⟨decide_eq_true_iff⟩
instance{x y:Int}:BP (x==y) (x=y):=⟨by simp⟩
instance{x y:Int}:BP (x !=y) (x≠y):=⟨by simp⟩
instance{x y:Bs}:BP (x==y) (x=y):=⟨by simp⟩
instance{x y:Bs}:BP (!(x==y)) (x≠y):=⟨by simp⟩
instance(priority:=low){b:Bool}:BP b (b=true):=⟨Iff.rfl⟩
instance{b c:Bool}{p q:Prop} [BP b p] [BP c q]:BP (b&&c) (p/\q):=⟨by rw [Bool.and_eq_true,BP.iff (b:=b),BP.iff (b:=c)]⟩
instance{b c:Bool}{p q:Prop} [BP b p] [BP c q]:BP (b||c) (p∨q):=⟨by rw [Bool.or_eq_true,BP.iff (b:=b),BP.iff (b:=c)]⟩
instance{b:Bool}{p:Prop} [BP b p]:BP (!b) (¬p):=⟨by rw [<-BP.iff (b:=b)];cases b<;>simp⟩
section
variable{β:Type}
def sIt:List It->(List It->β)->β | [],k=>k [] | .loop c v::l,k=>sN v fun v=>sIt l fun l=>k (.loop c v::l) | .code c::l,k=>sIt l fun l=>k (.code c::l) | .blk i::l,k=>sIt l fun l=>k (.blk i::l) | .scope::l,k=>sIt l fun l=>k (.scope::l)
theorem sIt_eq:∀(l:List It)(k:List It->β),sIt l k=k l
 | [],k=>rfl
 | .loop c v::l,k=>by simp [sIt,sN_eq,sIt_eq l]
 | .code c::l,k=>by simp [sIt,sIt_eq l]
 | .blk i::l,k=>by simp [sIt,sIt_eq l]
 | .scope::l,k=>by simp [sIt,sIt_eq l]
end
def nrm(s:St):St:=match s with
 |⟨c,its,e,H⟩=>sIt its fun its=>sE e fun e=>sH H fun H=>⟨c,its,e,H⟩
theorem c0c(s:St):nrm s=s:=by
 obtain⟨c,its,e,H⟩:=s;simp [nrm,sIt_eq,sE_eq,sH_eq]
section
variable{P:Program}{T:Ty P}
def EvH(T:Ty P)(f:FuncId)(az:List DV)(H:DH)(r:DV)(Hr:DH):Prop:=∃n,Df T n f az H=some (r,Hr)
abbrev EvF(T:Ty P)(f:FuncId)(az:List DV)(r:DV):Prop:=EvH T f az [] r []
theorem evF{f:FuncId}{az:List DV}{H:DH}{r:DV}{Hr:DH}(h:Ev T f az H fun r' H'=>r'=r/\H'=Hr):EvH T f az H r Hr:=by
 obtain⟨n,r',H',h1,rfl,rfl⟩:=h;exact⟨n,h1⟩
theorem evX{α:Type}{R:α->Prop}{en:α->DV}{f:FuncId}{az:List DV}{H Hr:DH}(h:Ev T f az H fun r' H'=>H'=Hr/\∃a,R a/\r'=en a):∃a,R a/\EvH T f az H (en a) Hr:=by
 obtain⟨n,r',H',h1,rfl,a,ha,rfl⟩:=h;exact⟨a,ha,n,h1⟩
theorem EvF.ext{f:FuncId}{az:List DV}{g:List VT->Option DV}{vs:List VT}{r:DV}(hg:T.ext f=some g)(hp:pureL az=some vs)(h:g vs=some r):EvF T f az r:=⟨0,by unfold Df dfn;rw [hg,hp];simp [extD,h,extR]⟩
section
variable(T:Ty P)
def e6d(all:Array Oper)(tab:List Nat)(fp:List FP)(p:Nat)(q:FP)(o:Oper):Bool:= !(q.ld||d9h q.i p fp||(match a5f all q.e o.guard with
 |some false=>true
 |some true=> !(mayO tab q.i p fp)
 |none=>false))
def lstO(own:Bool)(fr:Fr)(all:Array Oper)(tab:List Nat)(fp:List FP)(p:Nat)(H:DH):List FP->List Oper->List OpR
 |q::fq,o::l=>match e6d all tab fp p q o with
  |true=>opF T fr.nest true q.e (match own with|true=>q.H|false=>H) o.type o.op::lstO own fr all tab fp p H fq l
  |false=>lstO own fr all tab fp p H fq l
 |_,_=> []
def lstA(own:Bool)(fr:Fr)(all:Array Oper)(tab:List Nat)(fp:List FP)(H:DH):List FP->List (List OpR)
 | []=> []
 |q::l=>match q.ld with
  |true=>lstO T own fr all tab fp (q.i+1) (hAt fp H (q.i+1)) fp all.toList::lstA own fr all tab fp H l
  |false=>lstA own fr all tab fp H l
def lsts(own:Bool)(fr:Fr)(all:Array Oper)(tab:List Nat)(fp:List FP)(H:DH):List (List OpR):=lstO T own fr all tab fp 0 (hAt fp H 0) fp all.toList::lstA T own fr all tab fp H fp
def e7y(all:Array Oper)(tab:List Nat)(fp:List FP):Bool:=backO all.toList 0&&b4k all tab all.toList 0&&b9p tab fp&&c9d tab fp fp&&b9a all fp all.toList
end
theorem b7j{fr:Fr}{all:Array Oper}{tab:List Nat}{fp:List FP}{e:DE}{p:Nat}{H:DH}:∀{fq:List FP}{l:List Oper},lstO T false fr all tab fp p H fq l=lstO T true fr all tab fp p H fq l->chkO T fr all tab fp e p H fq l=true
 | [],_,_=>by unfold chkO;rfl
 |_::_,[],_=>by unfold chkO;rfl
 |q::fq,o::l,h=>by
  unfold chkO;rw [Bool.and_eq_true];cases hn:e6d all tab fp p q o with
  |true=>
   simp only [lstO,hn,List.cons.injEq]at h;refine⟨?_,b7j h.2⟩;rw [@decide_eq_true _ (Classical.propDecidable _) h.1];simp
  |false=>
   simp only [lstO,hn]at h;refine⟨?_,b7j h⟩;simp only [e6d,Bool.not_eq_false',Bool.or_eq_true]at hn;rcases hn with(hn|hn)|hn
   ·simp [hn]
   ·simp [hn]
   split at hn
   ·rename_i he;simp [he]
   ·rename_i he;simp [he,hn]
   cases hn
theorem c1v{fr:Fr}{all:Array Oper}{tab:List Nat}{fp:List FP}{e:DE}{H:DH}:∀{l:List FP},lstA T false fr all tab fp H l=lstA T true fr all tab fp H l->chkA T fr all tab fp e H l=true
 | [],_=>rfl
 |q::l,h=>by
  unfold chkA;rw [Bool.and_eq_true];cases hl:q.ld with
  |true=>
   simp only [lstA,hl,List.cons.injEq]at h;exact⟨by rw [b7j h.1];rfl,c1v h.2⟩
  |false=>
   simp only [lstA,hl]at h;exact⟨rfl,c1v h⟩
variable{fr:Fr}{s:St}{Q:DV->DH->Prop}
theorem eInH(p:Nat){f:FuncId}{az:List DV}{H:DH}{fn:Func}{c:Code}(hf:P.funcs[f]?=some fn)(hb:fn.body=some c)(hl:Nat.ble az.length fn.ntmps=true)(hp:H.length=p)
 (k:Tt T ⟨fn.ntmps,fn.results.toList,T.own f,T.nest f,p⟩ ⟨.code c,[],argE 0 az,H⟩ Q) (he:T.ext f=none:=by rfl):Ev T f az H Q:=by
 refine f2g he ?_ k;unfold d4r;simp only [hf,hb,a1d,id,hl,hp]
theorem eIn{f:FuncId}{az:List DV}{fn:Func}{c:Code}(hf:P.funcs[f]?=some fn)(hb:fn.body=some c)(hl:Nat.ble az.length fn.ntmps=true)
 (k:Tt T ⟨fn.ntmps,fn.results.toList,T.own f,T.nest f,0⟩ ⟨.code c,[],argE 0 az,[]⟩ Q) (he:T.ext f=none:=by rfl):Ev T f az [] Q:=eInH 0 hf hb hl rfl k he
theorem qC{b:Bool}{s1 s2:St}{p:Prop}(h:rnA T fr 2000 s= .cond b s1 s2) [hb:BP b p](k1:p->Tt T fr s1 Q)(k2:¬p->Tt T fr s2 Q):Tt T fr s Q:=
 tC h (fun e=>k1 (hb.iff.1 e)) (fun e=>k2 fun e'=>by rw [hb.iff.2 e']at e;cases e)
theorem qX{cm:Bool}{α:Type}{xs:List α}{z:Int}{k:α->St}(h:rnA T fr 2000 s= .ask cm α (ix xs z) k)(hz:0<=z/\z<xs.length)(hk:∀v,ix xs z=some v->Tt T fr (k v) Q):Tt T fr s Q:=by
 have:∃v,ix xs z=some v:=by
  unfold ix;rw [if_pos (by omega)];exact⟨xs[z.toNat]'(by omega),List.getElem?_eq_getElem _⟩
 obtain⟨v,hv⟩:=this;exact tV h v hv (hk v hv)
theorem qXm{cm:Bool}{α β:Type}{g:β->α}{l:List β}{z:Int}{k:α->St}(h:rnA T fr 2000 s= .ask cm α (ix (l.map g) z) k)(hz:0<=z/\z<l.length)(hk:∀v,l[z.toNat]?=some v->ix (l.map g) z=some (g v)->Tt T fr (k (g v)) Q):Tt T fr s Q:=by
 have h1:l[z.toNat]?=some (l[z.toNat]'(by omega)):=List.getElem?_eq_getElem _;have h3:ix (l.map g) z=some (g (l[z.toNat]'(by omega))):=by
  unfold ix;have h2:(l.map g).length=l.length:=List.length_map ..;rw [if_pos (by omega),List.getElem?_map,h1];rfl
 exact tV h (g (l[z.toNat]'(by omega))) h3 (hk _ h1 h3)
theorem qXw{cm:Bool}{α β:Type}{g:β->α}{l:List β}{n lo:Nat}{z:Int}{k:α->St}(h:rnA T fr 2000 s= .ask cm α ((idxN n z).bind fun j=>(l.map g)[lo+j]?) k)(hz:0<=z/\z<n)(hl:lo+n<=l.length)(hk:∀v,l[lo+z.toNat]?=some v->Tt T fr (k (g v)) Q):Tt T fr s Q:=by
 have h1:l[lo+z.toNat]?=some (l[lo+z.toNat]'(by omega)):=List.getElem?_eq_getElem _;refine tV h (g (l[lo+z.toNat]'(by omega))) ?_ (hk _ h1);unfold idxN;rw [if_pos hz,b_s,List.getElem?_map,h1];rfl
theorem qV{cm:Bool}{α:Type}{x:Option α}{k:α->St}{v:α}(h:rnA T fr 2000 s= .ask cm α x k)(hx:x=some v)(hk:Tt T fr (k v) Q):Tt T fr s Q:=tV h v hx hk
theorem qA{cm chk:Bool}{q by':Nat}{xs ys:List VT}{k:List VT->St}(b:Nat)(h:rnA T fr 2000 s= .ask cm (List VT) (appQ chk q by' xs ys) k)(hb:by'=b)(hl:(xs.length+ys.length)*b<=140737488355328)(hk:Tt T fr (k (xs++ys)) Q)(hs:chk=true->szOk q ys=true:=by intro h;cases h):Tt T fr s Q:=by
 subst hb;refine tV h _ ?_ hk;unfold appQ;have h1:Rt.app by' xs ys=some (xs++ys):=by unfold Rt.app;rw [if_pos hl]
 split
 ·exact h1
 rw [hs rfl];exact h1
theorem qM{cm:Bool}{by':Nat}{z:VT}{n:Int}{k:List VT->St}(b:Nat)(h:rnA T fr 2000 s= .ask cm (List VT) (mks by' z n) k)(hb:by'=b)(hn:0<=n/\n.toNat*b<=140737488355328)(hk:Tt T fr (k (List.replicate n.toNat z)) Q):Tt T fr s Q:=by
 subst hb;exact tV h _ (by unfold mks;rw [if_pos hn]) hk
theorem qU{cm chk:Bool}{q by':Nat}{ys:List VT}{k:List VT->St}(q' b:Nat)(h:rnA T fr 2000 s= .ask cm (List VT) (appQ chk q by' [] ys) k)(hq:q=q')(hb:by'=b)(hs:szOk q' ys=true)(hk:Tt T fr (k ys) Q)(hl:ys.length*b<=140737488355328:=by simp;omega):Tt T fr s Q:=by
 subst hq hb;exact qA by' h rfl (by simpa using hl) hk fun _=>hs
theorem b1h{α:Type}{g:α->VT}{q:Nat}(hg:∀x,c1k (g x)=q)(l:List α):szOk q (l.map g)=true:=by
 unfold szOk;simp only [List.all_map,List.all_eq_true,Function.comp,hg];intro _ _;simp
theorem a2r(l:List Int):szOk 1 (ns l)=true:=b1h (g:=N) (fun _=>rfl) l
theorem qT{b:Bool}{s1 s2:St}(h:rnA T fr 2000 s= .cond b s1 s2)(hb:b=true)(k:Tt T fr s1 Q):Tt T fr s Q:=tC h (fun _=>k) (fun e=>by rw [hb]at e;cases e)
theorem qN{b:Bool}{s1 s2:St}(h:rnA T fr 2000 s= .cond b s1 s2)(hb:b=false)(k:Tt T fr s2 Q):Tt T fr s Q:=tC h (fun e=>by rw [hb]at e;cases e) (fun _=>k)
theorem qSl{cm:Bool}{q:Nat}{xs:List VT}{a b:Int}{k:List VT->St}(q':Nat)(h:rnA T fr 2000 s= .ask cm (List VT) (lslQ q xs a b) k)(hq:q=q')(hs:szOk q' xs=true)(hb:0<=a/\a<=b/\b<=xs.length)(hk:Tt T fr (k ((xs.take b.toNat).drop a.toNat)) Q):Tt T fr s Q:=by
 subst hq;refine tV h _ ?_ hk;unfold lslQ lsl;rw [hs];dsimp only;rw [if_pos hb]
theorem qW{cm:Bool}{len:Nat}{a b:Int}{k:Nat×Nat->St}(h:rnA T fr 2000 s= .ask cm (Nat×Nat) (rngN len a b) k)(hb:0<=a/\a<=b/\b<=len)(hk:Tt T fr (k (a.toNat,b.toNat-a.toNat)) Q):Tt T fr s Q:=by
 refine tV h _ ?_ hk;unfold rngN;rw [if_pos hb]
theorem qE{cm:Bool}{fr':Fr}{all:Array Oper}{tab:List Nat}{fp:List FP}{e:DE}{H:DH}{k:Unit->St}(h:rnA T fr 2000 s= .ask cm Unit (drwU (drwO T fr' all tab fp e H)) k)(hs:e7y all tab fp=true)(hl:lsts T false fr' all tab fp H=lsts T true fr' all tab fp H)(hk:Tt T fr (k ()) Q):Tt T fr s Q:=by
 refine tV h () ?_ hk;simp only [lsts,List.cons.injEq]at hl;unfold drwO;unfold e7y at hs;rw [hs,b7j hl.1,c1v hl.2];rfl
theorem qK{f:FuncId}{az:List DV}{H Hr:DH}{r:DV}{k:DV->DH->Option St}{s':St}(h:rnA T fr 2000 s= .call f az H k)(hc:EvH T f az H r Hr)(hk:k r Hr=some s')(hs:Tt T fr (nrm s') Q):Tt T fr s Q:=by
 rw [c0c]at hs;obtain⟨n,hn⟩:=hc;exact tK (R:=fun r' H'=>r'=r/\H'=Hr) h ⟨n,r,Hr,hn,rfl,rfl⟩ fun r' H' e=>by obtain⟨rfl,rfl⟩:=e;exact⟨s',hk,hs⟩
theorem qR{r:DV}{H:DH}(h:rnA T fr 2000 s= .ret r H)(hQ:Q r H):Tt T fr s Q:=tR h hQ
theorem qL{σ:Type}(δ:σ->List (Nat×DV))(η:σ->List (Nat×Ob))(J:σ->Prop)(μ:σ->Nat)(x0:σ){s1:St}(h:rnA T fr 2000 s= .head s1)(h0:upS s1 (δ x0) (η x0)=s1)(j0:J x0)
 (hk:∀x,J x->(∀y,J y->μ y<μ x->Tt T fr (upS s1 (δ y) (η y)) Q)->Tt T fr (nrm (upS s1 (δ x) (η x))) Q):Tt T fr s Q:=by
 simp only [c0c]at hk;refine tH h ?_;rw [<-h0];have:∀m x,J x->μ x<m->Tt T fr (upS s1 (δ x) (η x)) Q:=by
  intro m;induction m with
  |zero=>intro x _ hx;omega
  |succ m ih=>intro x jx hx;exact hk x jx fun y jy hy=>ih y jy (by omega)
 exact this _ x0 j0 (Nat.lt_succ_self _)
theorem qI(h:Tt T fr (nrm s) Q):Tt T fr s Q:=by rw [c0c]at h;exact h
theorem qB{s':St}(hk:Tt T fr s' Q)(h:rnA T fr 2000 s= .head s'):Tt T fr s Q:=tH h hk
end
end Dp
namespace Rt
open Go
def Ev{α:Type}(f:Nat->Option α)(r:α):Prop:=∃N,∀n,N<=n->f n=some r
section
variable{α β:Type}
theorem Ev.pure(a:α):Ev (fun _=>some a) a:=⟨0,fun _ _=>rfl⟩
theorem Ev.all{f:Nat->Option α}{r:α}(h:∀n,f n=some r):Ev f r:=⟨0,fun n _=>h n⟩
theorem Ev.bind{x:Nat->Option α}{f:Nat->α->Option β}{a:α}{b:β}(hx:Ev x a)(hf:Ev (fun n=>f n a) b):Ev (fun n=>(x n).bind (f n)) b:=by
 obtain⟨N,hN⟩:=hx;obtain⟨M,hM⟩:=hf;refine⟨max N M,fun n hn=> ?_⟩;show(x n).bind (f n)=some b;rw [hN n (by omega)];exact hM n (by omega)
theorem Ev.step{x:Option α}{f:Nat->α->Option β}{a:α}{b:β}(hx:x=some a)(hf:Ev (fun n=>f n a) b):Ev (fun n=>x.bind (f n)) b:=by
 subst hx;exact hf
theorem Ev.then{x:Nat->Option α}{b:α}{c:Bool}{y:Nat->Option α}(hc:c=true)(h:Ev x b):Ev (fun n=>bif c then x n else y n) b:=by subst hc;exact h
theorem Ev.else{x:Nat->Option α}{b:α}{c:Bool}{y:Nat->Option α}(hc:c=false)(h:Ev y b):Ev (fun n=>bif c then x n else y n) b:=by subst hc;exact h
theorem Ev.from{f g:Nat->Option α}{r:α}(N:Nat)(h:∀n,N<=n->f n=g n)(hg:Ev g r):Ev f r:=by
 obtain⟨M,hM⟩:=hg;exact⟨max N M,fun n hn=>by rw [h n (by omega)];exact hM n (by omega)⟩
theorem Ev.eq{f:Nat->Option α}{r s:α}(h:Ev f r)(e:r=s):Ev f s:=e▸h
end
theorem wrap64(x:Int):IntKind.i64.wrap x=if x %18446744073709551616≥9223372036854775808 then x %18446744073709551616-18446744073709551616 else x %18446744073709551616:=by
 simp [IntKind.wrap,IntKind.bits,IntKind.signed]
theorem a0t{x:Int}(h1:-9223372036854775808<=x)(h2:x<=9223372036854775807):IntKind.i64.wrap x=x:=by
 rw [wrap64];split<;>omega
theorem a6p(x:Int):IntKind.u64.wrap x=x %18446744073709551616:=by
 simp [IntKind.wrap,IntKind.bits,IntKind.signed]
theorem c5d(x:Int):IntKind.u8.wrap x=x %256:=by
 simp [IntKind.wrap,IntKind.bits,IntKind.signed]
theorem a0e{x y:Int}(h1:-9223372036854775808<=x+y)(h2:x+y<=9223372036854775807):iadd .i64 x y=x+y:=a0t h1 h2
theorem a0c{x y:Int}(h1:-9223372036854775808<=x-y)(h2:x-y<=9223372036854775807):isub .i64 x y=x-y:=a0t h1 h2
theorem a0s{x y:Int}(h1:-9223372036854775808<=x*y)(h2:x*y<=9223372036854775807):imul .i64 x y=x*y:=a0t h1 h2
theorem b6o(k:IntKind)(x:Int)(m:Nat)(hk:k.bits=64)(hm:m<64):(BitVec.ofInt k.bits x&&&BitVec.ofInt k.bits ((2^m-1:Nat):Int)).toNat=(x %18446744073709551616).toNat %2^m:=by
 rw [BitVec.toNat_and,BitVec.toNat_ofInt,BitVec.toNat_ofInt,hk];have h2:(((2^m-1:Nat):Int) %((2^64:Nat):Int)).toNat=2^m-1:=by
  have:2^m<2^64:=Nat.pow_lt_pow_right (by omega) hm;rw [<-Int.natCast_emod,Int.toNat_natCast,Nat.mod_eq_of_lt (by omega)]
 rw [h2,Nat.and_two_pow_sub_one_eq_mod];rfl
theorem a6b(x:Int):iand .i64 x 1048575=x %1048576:=by
 have h:=b6o .i64 x 20 rfl (by omega);have e:((2^20-1:Nat):Int)=1048575:=by decide
 rw [e]at h;unfold iand;rw [h,a0t (by omega) (by omega)];omega
theorem c6u{x:Int}(h0:0<=x)(h1:x<18446744073709551616):iand .u64 x 1048575=x %1048576:=by
 have h:=b6o .u64 x 20 rfl (by omega);have e:((2^20-1:Nat):Int)=1048575:=by decide
 rw [e]at h;unfold iand;rw [h,a6p];omega
theorem d6h(x:Int):iand .i64 x 1=x %2:=by
 have h:=b6o .i64 x 1 rfl (by omega);have e:((2^1-1:Nat):Int)=1:=by decide
 rw [e]at h;unfold iand;rw [h,a0t (by omega) (by omega)];omega
theorem a5k(x:Int):shr .i64 x 20=some (x/1048576):=by
 unfold shr;rw [if_neg (by omega),Int.fdiv_eq_ediv_of_nonneg _ (by decide)];rfl
theorem e5s(x:Int):shr .u64 x 20=some (x/1048576):=by
 unfold shr;rw [if_neg (by omega),Int.fdiv_eq_ediv_of_nonneg _ (by decide)];rfl
theorem c1s{x:Int}(h0:-8796093022208<=x)(h1:x<8796093022208):shl .i64 x 20=some (x*1048576):=by
 unfold shl;rw [if_neg (by omega),show(2:Int)^(min (20:Int).toNat IntKind.i64.bits)=1048576 from by decide,a0t (by omega) (by omega)]
theorem c0l{x y:Int}(h0:0<=x)(h1:x<8796093022208)(h2:0<=y)(h3:y<1048576):ior .i64 (x*1048576) y=x*1048576+y:=by
 obtain⟨p,rfl⟩:=Int.eq_ofNat_of_zero_le h0;obtain⟨q,rfl⟩:=Int.eq_ofNat_of_zero_le h2;unfold ior;rw [BitVec.toNat_or,BitVec.toNat_ofInt,BitVec.toNat_ofInt,show IntKind.i64.bits=64 from rfl];have e1:(((p:Int)*1048576) %((2^64:Nat):Int)).toNat=2^20*p:=by omega
 have e2:((q:Int) %((2^64:Nat):Int)).toNat=q:=by omega
 rw [e1,e2,<-Nat.two_pow_add_eq_or_of_lt (by omega),a0t (by omega) (by omega)];omega
theorem a8a{x y:Int}(h0:0<=x)(h1:x<=9223372036854775807)(h2:0<y):quo .i64 x y=some (x/y):=by
 unfold quo;have h3:=Int.ediv_nonneg h0 (Int.le_of_lt h2);have h4:=Int.ediv_le_self y h0;rw [if_neg (by omega),Int.tdiv_eq_ediv_of_nonneg h0,a0t (by omega) (by omega)]
theorem a9u{x y:Int}(h0:0<=x)(h2:0<y):rem x y=some (x %y):=by
 unfold rem;rw [if_neg (by omega),Int.tmod_eq_emod_of_nonneg h0]
section
variable{α:Type}
theorem d0w(l:List α)(i:Nat):ix l (i:Int)=l[i]?:=by simp [ix]
theorem c4g{b:Nat}{l m:List α}(h:(l.length+m.length)*b<=140737488355328):app b l m=some (l++m):=by unfold app;rw [if_pos h]
end
end Rt
namespace D
def val:List Int->Int | []=>0 |d::l=>d+1048576*val l
def valc:List Int->Int->Int | [],c=>c |d::l,c=>d+1048576*valc l c
def pw:Nat->Int |0=>1 |k+1=>1048576*pw k
def InR(l:List Int):Prop:=∀d∈l,0<=d/\d<1048576
theorem InR.nil:InR []:=by intro d hd;simp at hd
theorem InR.cons{d:Int}{l:List Int}(h0:0<=d)(h1:d<1048576)(h:InR l):InR (d::l):=by
 intro e he;rcases List.mem_cons.1 he with rfl|he
 ·exact⟨h0,h1⟩
 exact h e he
theorem InR.head{d:Int}{l:List Int}(h:InR (d::l)):0<=d/\d<1048576:=h d (by simp)
theorem InR.tail{d:Int}{l:List Int}(h:InR (d::l)):InR l:=fun e he=>h e (by simp [he])
theorem InR.append{a b:List Int}(h:InR a)(k:InR b):InR (a++b):=by
 intro e he;rcases List.mem_append.1 he with he|he
 ·exact h e he
 exact k e he
theorem InR.left{a b:List Int}(h:InR (a++b)):InR a:=fun e he=>h e (by simp [he])
theorem InR.right{a b:List Int}(h:InR (a++b)):InR b:=fun e he=>h e (by simp [he])
theorem InR.rep(k:Nat):InR (List.replicate k 0):=by
 intro e he;rw [(List.mem_replicate.1 he).2];decide
theorem InR.headD{l:List Int}(h:InR l):0<=l.headD 0/\l.headD 0<1048576:=by
 cases l with
 |nil=>simp
 |cons d l=>simpa using h.head
theorem InR.tail'{l:List Int}(h:InR l):InR l.tail:=by
 cases l with
 |nil=>exact h
 |cons d l=>exact h.tail
theorem pw_pos:∀k,0<pw k
 |0=>by decide
 |k+1=>by have:=pw_pos k;simp only [pw];omega
theorem valc_eq:∀(l:List Int)(c:Int),valc l c=val l+pw l.length*c
 | [],c=>by simp [valc,val,pw]
 |d::l,c=>by simp only [valc,val,pw,List.length_cons,valc_eq l c];grind
theorem val_append:∀(a b:List Int),val (a++b)=val a+pw a.length*val b
 | [],b=>by simp [val,pw]
 |d::a,b=>by simp only [List.cons_append,val,pw,List.length_cons,val_append a b];grind
theorem a7z(a b:List Int):valc a (val b)=val (a++b):=by rw [valc_eq,val_append]
theorem val_nonneg:∀{l:List Int},InR l->0<=val l
 | [],_=>by simp [val]
 |d::l,h=>by have:=val_nonneg h.tail;have:=h.head;simp only [val];omega
theorem val_lt:∀{l:List Int},InR l->val l<pw l.length
 | [],_=>by simp [val,pw]
 |d::l,h=>by have:=val_lt h.tail;have:=h.head;simp only [val,pw,List.length_cons];omega
theorem val_rep:∀k,val (List.replicate k 0)=0
 |0=>rfl
 |k+1=>by rw [List.replicate_succ];simp only [val,val_rep k];rfl
def dig(v:Nat):List Int:=if v=0 then []else((v %1048576:Nat):Int)::dig (v/1048576)
 termination_by v
 decreasing_by omega
theorem dig_zero:dig 0= []:=by rw [dig];simp
theorem a3o{v:Nat}(h:v≠0):dig v=((v %1048576:Nat):Int)::dig (v/1048576):=by rw [dig];simp [h]
theorem a0h(v:Nat):val (dig v)=v:=by
 induction v using Nat.strongRecOn with
 |ind v ih=>
  by_cases h:v=0
  ·subst h;rw [dig_zero];rfl
  rw [a3o h];simp only [val];rw [ih (v/1048576) (by omega)];omega
theorem a0i(v:Nat):InR (dig v):=by
 induction v using Nat.strongRecOn with
 |ind v ih=>
  by_cases h:v=0
  ·subst h;rw [dig_zero];exact InR.nil
  rw [a3o h];exact InR.cons (by omega) (by omega) (ih _ (by omega))
theorem a7k{v:Nat}(h:v≠0):dig v≠ []:=by rw [a3o h];simp
theorem a5a{v:Nat}:dig v= []↔v=0:=⟨fun h=>Classical.byContradiction fun k=>a7k k h,fun h=>by rw [h,dig_zero]⟩
theorem a5t(v:Nat):(dig v).getLast?≠some 0:=by
 induction v using Nat.strongRecOn with
 |ind v ih=>
  by_cases h:v=0
  ·subst h;rw [dig_zero];simp
  rw [a3o h]
  by_cases h2:v/1048576=0
  ·rw [h2,dig_zero];simp;omega
  have:=ih _ (show v/1048576<v by omega);rw [List.getLast?_cons];have h3:=a7k h2;cases hg:(dig (v/1048576)).getLast? with
  |none=>rw [List.getLast?_eq_none_iff]at hg;exact absurd hg h3
  |some z=>simp [hg]at this⊢;exact this
def Canon(l:List Int):Prop:=InR l/\l.getLast?≠some 0
theorem Canon.tail{d:Int}{l:List Int}(h:Canon (d::l)):Canon l:=by
 refine⟨h.1.tail,?_⟩;cases l with
 |nil=>simp
 |cons e l=>have:=h.2;rw [List.getLast?_cons_cons]at this;exact this
theorem a3s(v:Nat):Canon (dig v):=⟨a0i v,a5t v⟩
theorem dig_val:∀{l:List Int},Canon l->dig (val l).toNat=l
 | [],_=>by simp [val,dig_zero]
 |d::l,h=>by
  have ih:=dig_val h.tail;have h0:=h.1.head;have h1:=val_nonneg h.1.tail;simp only [val];have hne:(d+1048576*val l).toNat≠0:=by
   intro e;have e1:val l=0:=by omega
   have e2:d=0:=by omega
   rw [e1]at ih;simp only [Int.toNat_zero,dig_zero]at ih;subst ih e2;exact h.2 rfl
  rw [a3o hne];have e1:(((d+1048576*val l).toNat %1048576:Nat):Int)=d:=by omega
  have e2:(d+1048576*val l).toNat/1048576=(val l).toNat:=by omega
  rw [e1,e2,ih]
theorem e1z{u v:Nat}(h:dig u=dig v):u=v:=by
 have h1:=a0h u;rw [h,a0h]at h1;omega
theorem split_dig:∀{l:List Int},InR l->∃r,l=dig (val l).toNat++List.replicate r 0
 | [],_=>⟨0,by simp [val,dig_zero]⟩
 |d::l,h=>by
  obtain⟨r,hr⟩:=split_dig h.tail;have h0:=h.head;have h1:=val_nonneg h.tail;simp only [val]
  by_cases hz:(d+1048576*val l).toNat=0
  ·have e1:val l=0:=by omega
   have e2:d=0:=by omega
   rw [e1]at hr;simp only [Int.toNat_zero,dig_zero,List.nil_append]at hr;refine⟨r+1,?_⟩;rw [hz,dig_zero,e2,hr,List.replicate_succ];simp
  refine⟨r,?_⟩;rw [a3o hz];have e1:(((d+1048576*val l).toNat %1048576:Nat):Int)=d:=by omega
  have e2:(d+1048576*val l).toNat/1048576=(val l).toNat:=by omega
  rw [e1,e2]
  conv=>lhs;rw [hr]
  simp
theorem a9r{l:List Int}(h:InR l):(dig (val l).toNat).length<=l.length:=by
 obtain⟨r,hr⟩:=split_dig h
 conv=>rhs;rw [hr]
 simp
theorem val_lt_of_len:∀{a b:List Int},InR a->Canon b->a.length<b.length->val a<val b
 | [],[],_,_,h=>by simp at h
 | [],d::l,_,hb,_=>by
   have h1:=val_nonneg hb.1;have h2:val (d::l)≠0:=by
    intro e;have:=dig_val hb;rw [e]at this;simp [dig_zero]at this
   simp only [val]at*;omega
 |x::xs,[],_,_,h=>by simp at h
 |x::xs,y::ys,ha,hb,h=>by
  have:=val_lt_of_len ha.tail hb.tail (by simpa using h);have:=ha.head;have:=hb.1.head;simp only [val];omega
theorem a0m{u v:Nat}(h:u<=v):(dig u).length<=(dig v).length:=by
 rcases Nat.lt_or_ge (dig v).length (dig u).length with h1|h1
 ·have:=val_lt_of_len (a0i v) (a3s u) h1;rw [a0h,a0h]at this;omega
 exact h1
def addD:Int->List Int->List Int->List Int×Int |c,[],_=>([],c) |c,x::xs,ys=>((c+x+ys.headD 0) %1048576::(addD ((c+x+ys.headD 0)/1048576) xs ys.tail).1,(addD ((c+x+ys.headD 0)/1048576) xs ys.tail).2)
theorem addD_val:∀(xs ys:List Int)(c:Int),ys.length<=xs.length->valc (addD c xs ys).1 (addD c xs ys).2=c+val xs+val ys
 | [],ys,c,h=>by
   have:ys= []:=List.eq_nil_of_length_eq_zero (by simpa using h);subst this;simp [addD,valc,val]
 |x::xs,ys,c,h=>by
  have ih:=addD_val xs ys.tail ((c+x+ys.headD 0)/1048576) (by simp at h⊢;omega);simp only [addD,valc,ih,val];cases ys with
  |nil=>simp [val];omega
  |cons y ys=>simp [val];omega
theorem addD_len:∀(xs ys:List Int)(c:Int),(addD c xs ys).1.length=xs.length
 | [],_,_=>rfl
 |x::xs,ys,c=>by simp [addD,addD_len xs]
theorem addD_in:∀(xs ys:List Int)(c:Int),InR (addD c xs ys).1
 | [],_,_=>InR.nil
 |x::xs,ys,c=>InR.cons (by omega) (by omega) (addD_in xs _ _)
theorem addD_carry:∀(xs ys:List Int)(c:Int),InR xs->InR ys->0<=c->c<=1->0<=(addD c xs ys).2/\(addD c xs ys).2<=1
 | [],_,c,_,_,h0,h1=>⟨h0,h1⟩
 |x::xs,ys,c,hx,hy,h0,h1=>by
  have:=hx.head;have:=hy.headD;exact addD_carry xs ys.tail _ hx.tail hy.tail' (by omega) (by omega)
def setD(g:Int):Int->List Int->List Int->List Int×Int |b,[],_=>([],b) |b,u::us,vs=>((u-b-g*vs.headD 0) %1048576::(setD g (-((u-b-g*vs.headD 0)/1048576)) us vs.tail).1,(setD g (-((u-b-g*vs.headD 0)/1048576)) us vs.tail).2)
theorem b6t(g:Int):∀(us vs:List Int)(b:Int),vs.length<=us.length->valc (setD g b us vs).1 (-(setD g b us vs).2)=val us-b-g*val vs
 | [],vs,b,h=>by
   have:vs= []:=List.eq_nil_of_length_eq_zero (by simpa using h);subst this;simp [setD,valc,val]
 |u::us,vs,b,h=>by
  have ih:=b6t g us vs.tail (-((u-b-g*vs.headD 0)/1048576)) (by simp at h⊢;omega);simp only [setD,valc,ih,val];cases vs with
  |nil=>simp [val];omega
  |cons v vs=>
   simp only [List.headD_cons,List.tail_cons,val];rw [show g*(v+1048576*val vs)=g*v+1048576*(g*val vs) by grind];generalize g*v=p;generalize g*val vs=q;omega
theorem b1m(g:Int):∀(us vs:List Int)(b:Int),(setD g b us vs).1.length=us.length
 | [],_,_=>rfl
 |x::xs,ys,c=>by simp [setD,b1m g xs]
theorem a6m(g:Int):∀(us vs:List Int)(b:Int),InR (setD g b us vs).1
 | [],_,_=>InR.nil
 |x::xs,ys,c=>InR.cons (by omega) (by omega) (a6m g xs _ _)
theorem b3t{g v:Int}(hg:0<=g)(h0:0<=v)(h1:v<1048576):0<=g*v/\g*v<=g*1048576-g:=by
 have h2:=Int.mul_nonneg hg h0;have h3:=Int.mul_le_mul_of_nonneg_left (show v<=1048575 by omega) hg;omega
theorem a7w{g:Int}(hg:0<=g):∀(us vs:List Int)(b:Int),InR us->InR vs->0<=b->b<=g->0<=(setD g b us vs).2/\(setD g b us vs).2<=g
 | [],_,b,_,_,h0,h1=>⟨h0,h1⟩
 |u::us,vs,b,hu,hv,h0,h1=>by
  have:=hu.head;have:=hv.headD;have:=b3t (g:=g) hg this.1 this.2;exact a7w hg us vs.tail _ hu.tail hv.tail' (by omega) (by omega)
def mulD(x:Int):Int->List Int->List Int->List Int×Int |c,[],_=>([],c) |c,y::ys,ws=>((ws.headD 0+x*y+c) %1048576::(mulD x ((ws.headD 0+x*y+c)/1048576) ys ws.tail).1,(mulD x ((ws.headD 0+x*y+c)/1048576) ys ws.tail).2)
theorem c3z(x:Int):∀(ys ws:List Int)(c:Int),ws.length=ys.length->valc (mulD x c ys ws).1 (mulD x c ys ws).2=val ws+x*val ys+c
 | [],ws,c,h=>by
   have:ws= []:=List.eq_nil_of_length_eq_zero (by simpa using h);subst this;simp [mulD,valc,val]
 |y::ys,[],c,h=>by simp at h
 |y::ys,w::ws,c,h=>by
  have ih:=c3z x ys ws ((w+x*y+c)/1048576) (by simpa using h);simp only [mulD,List.headD_cons,List.tail_cons,valc,ih,val];rw [show x*(y+1048576*val ys)=x*y+1048576*(x*val ys) by grind];generalize x*y=p;generalize x*val ys=q;omega
theorem b5f(x:Int):∀(ys ws:List Int)(c:Int),(mulD x c ys ws).1.length=ys.length
 | [],_,_=>rfl
 |y::ys,ws,c=>by simp [mulD,b5f x ys]
theorem c2d(x:Int):∀(ys ws:List Int)(c:Int),InR (mulD x c ys ws).1
 | [],_,_=>InR.nil
 |y::ys,ws,c=>InR.cons (by omega) (by omega) (c2d x ys _ _)
theorem b1v{x y:Int}(h0:0<=x)(h1:x<1048576)(h2:0<=y)(h3:y<1048576):0<=x*y/\x*y<=1099509530625:=by
 have h4:=b3t h0 h2 h3;omega
theorem a9z{x:Int}(h0:0<=x)(h1:x<1048576):∀(ys ws:List Int)(c:Int),InR ys->InR ws->0<=c->c<1048576->0<=(mulD x c ys ws).2/\(mulD x c ys ws).2<1048576
 | [],_,c,_,_,h2,h3=>⟨h2,h3⟩
 |y::ys,ws,c,hy,hw,h2,h3=>by
  have e1:=hy.head;have e2:=hw.headD;have e3:=b1v h0 h1 e1.1 e1.2;exact a9z h0 h1 ys ws.tail _ hy.tail hw.tail' (by omega) (by omega)
def mulF(b:List Int):List Int->List Int->List Int | [],w=>w |x::xs,w=>((mulD x 0 b w).1++ [(mulD x 0 b w).2]).headD 0::mulF b xs (((mulD x 0 b w).1++ [(mulD x 0 b w).2]).tail)
theorem d3l{l:List Int}(h:l≠ []):l.headD 0+1048576*val l.tail=val l:=by
 cases l with
 |nil=>exact absurd rfl h
 |cons d l=>rfl
theorem b6p(b:List Int):∀(xs w:List Int),w.length=b.length->val (mulF b xs w)=val w+val xs*val b
 | [],w,_=>by simp [mulF,val]
 |x::xs,w,h=>by
  have e1:=c3z x b w 0 h;have e2:=b6p b xs (((mulD x 0 b w).1++ [(mulD x 0 b w).2]).tail) (by simp [b5f]);have e3:=d3l (l:=(mulD x 0 b w).1++ [(mulD x 0 b w).2]) (by simp);have e4:val ((mulD x 0 b w).1++ [(mulD x 0 b w).2])=valc (mulD x 0 b w).1 (mulD x 0 b w).2:=by
   rw [<-a7z];simp [val]
  simp only [mulF,val,e2];rw [show(x+1048576*val xs)*val b=x*val b+1048576*(val xs*val b) by grind];generalize x*val b=p at*;generalize val xs*val b=q at*;omega
theorem b6f(b:List Int):∀(xs w:List Int),w.length=b.length->(mulF b xs w).length=xs.length+b.length
 | [],w,h=>by simp [mulF,h]
 |x::xs,w,h=>by simp [mulF,b6f b xs _ (show(((mulD x 0 b w).1++ [(mulD x 0 b w).2]).tail).length=b.length by simp [b5f])];omega
theorem c0h{b:List Int}(hb:InR b):∀(xs w:List Int),InR xs->InR w->InR (mulF b xs w)
 | [],w,_,hw=>hw
 |x::xs,w,hx,hw=>by
  have h0:=hx.head;have e1:=a9z h0.1 h0.2 b w 0 hb hw (by decide) (by decide);have e2:InR ((mulD x 0 b w).1++ [(mulD x 0 b w).2]):=(c2d x b w 0).append (InR.cons e1.1 e1.2 InR.nil);simp only [mulF];exact InR.cons e2.headD.1 e2.headD.2 (c0h hb xs _ hx.tail e2.tail')
def a0z(V:Int):List Int->Int->List Int×Int | [],r=>([],r) |x::xs,r=>(((a0z V xs r).2*1048576+x)/V::(a0z V xs r).1,((a0z V xs r).2*1048576+x) %V)
theorem b2u{V:Int}:∀(l:List Int)(r:Int),val (a0z V l r).1*V+(a0z V l r).2=valc l r
 | [],r=>by simp [a0z,val,valc]
 |x::xs,r=>by
  have ih:=b2u (V:=V) xs r;simp only [a0z,val,valc];have h1:=Int.mul_ediv_add_emod ((a0z V xs r).2*1048576+x) V;rw [Int.add_mul,Int.mul_assoc];rw [Int.mul_comm V]at h1;generalize ((a0z V xs r).2*1048576+x)/V*V=p at*;generalize val (a0z V xs r).1*V=q at*;omega
theorem b1u(V:Int):∀(l:List Int)(r:Int),(a0z V l r).1.length=l.length
 | [],_=>rfl
 |x::xs,r=>by simp [a0z,b1u V xs]
theorem a8h{V:Int}(hV:0<V):∀(l:List Int)(r:Int),0<=r->r<V->0<=(a0z V l r).2/\(a0z V l r).2<V
 | [],r,h0,h1=>⟨h0,h1⟩
 |x::xs,r,_,_=>⟨Int.emod_nonneg _ (by omega),Int.emod_lt_of_pos _ hV⟩
theorem b6g{V:Int}(hV:0<V):∀(l:List Int)(r:Int),InR l->0<=r->r<V->InR (a0z V l r).1
 | [],_,_,_,_=>InR.nil
 |x::xs,r,hl,h0,h1=>by
  have h2:=a8h hV xs r h0 h1;have h3:=hl.head;refine InR.cons (Int.ediv_nonneg (by omega) (by omega)) (Int.ediv_lt_of_lt_mul hV ?_) (b6g hV xs r hl.tail h0 h1);omega
def sg(x:Int):Int:=if x<0 then-1 else if 0<x then 1 else 0
def cmpD:List Int->List Int->Int |x::xs,y::ys=>if cmpD xs ys=0 then sg (x-y)else cmpD xs ys |_,_=>0
theorem cmpD_val:∀{a b:List Int},InR a->InR b->a.length=b.length->cmpD a b=sg (val a-val b)
 | [],[],_,_,_=>by simp [cmpD,sg,val]
 | [],_::_,_,_,h=>by simp at h
 |_::_,[],_,_,h=>by simp at h
 |x::xs,y::ys,ha,hb,h=>by
  have ih:=cmpD_val ha.tail hb.tail (by simpa using h);have h1:=ha.head;have h2:=hb.head;simp only [cmpD,val,ih];unfold sg;split<;>split<;>(try split)<;>(try split)<;>(try split)<;>omega
theorem cmpD_drop:∀(k:Nat)(a b:List Int),cmpD (a.drop k) (b.drop k)≠0->cmpD a b=cmpD (a.drop k) (b.drop k)
 |0,_,_,_=>by simp
 |k+1,[],b,h=>by simp [cmpD]at h
 |k+1,_::_,[],h=>by simp [cmpD]at h
 |k+1,x::xs,y::ys,h=>by
  simp only [List.drop_succ_cons]at h⊢;have ih:=cmpD_drop k xs ys h;simp only [cmpD,ih,if_neg h]
theorem b0i(V:Int):∀(a b:List Int)(r:Int),a0z V (a++b) r=((a0z V a (a0z V b r).2).1++(a0z V b r).1,(a0z V a (a0z V b r).2).2)
 | [],b,r=>rfl
 |x::xs,b,r=>by
  simp only [List.cons_append,a0z,b0i V xs b r]
theorem pw_mono:∀{a b:Nat},a<=b->pw a<=pw b
 |0,0,_=>Int.le_refl _
 |0,b+1,_=>by have:=pw_pos b;have:=pw_mono (Nat.zero_le b);simp only [pw]at*;omega
 |a+1,0,h=>by omega
 |a+1,b+1,h=>by have:=pw_mono (show a<=b by omega);simp only [pw];omega
theorem c7p{V1 V2 Vl P g rest T u2 Ul B:Int}(hB:B=1048576)(hT:g*V1+rest=T)(hV:0<=Vl)(hU:Ul<P)(hg:0<=g)(hbig:rest*B+u2<g*V2)(hP:0<P):
 Ul+P*(u2+B*T)<g*(Vl+P*(V2+B*V1)):=by
 have h1:Ul+P*(u2+B*T)-g*(Vl+P*(V2+B*V1))=Ul-g*Vl+P*(u2+rest*B-g*V2):=by grind
 have h2:=Int.mul_nonneg hg hV;have h3:P*(u2+rest*B-g*V2)<=P*(-1):=Int.mul_le_mul_of_nonneg_left (by omega) (by omega);omega
theorem c9i{V1 V2 Vl P g rest T u2 Ul B:Int}(hB:B=1048576)(hT:g*V1+rest=T)(hV:0<=Vl)(hVP:Vl<=P)(hU:0<=Ul)(hgB:g<=B)(hsm:g*V2<=rest*B+u2)(hP:0<P)(h1:1<=V1)(h2:0<=V2):
 (g-1)*(Vl+P*(V2+B*V1))<=Ul+P*(u2+B*T):=by
 have e1:Ul+P*(u2+B*T)-(g-1)*(Vl+P*(V2+B*V1))=Ul-g*Vl+P*(u2+rest*B-g*V2)+Vl+P*V2+P*B*V1:=by grind
 have e2:0<=P*(u2+rest*B-g*V2):=Int.mul_nonneg (by omega) (by omega);have e3:g*Vl<=B*P:=Int.mul_le_mul hgB hVP hV (by omega);have e4:P*B*1<=P*B*V1:=Int.mul_le_mul_of_nonneg_left h1 (Int.mul_nonneg (by omega) (by omega));have e5:0<=P*V2:=Int.mul_nonneg (by omega) h2;have e6:B*P=P*B:=Int.mul_comm _ _;omega
theorem c1r{U V q:Int}(hV:0<V)(h0:q*V<=U)(h1:U<(q+1)*V):U/V=q/\U %V=U-q*V:=by
 have h2:(q+1)*V=q*V+V:=by grind
 have h3:=Int.ediv_emod_unique (a:=U) (b:=V) (r:=U-q*V) (q:=q) hV;have h4:=h3.2 ⟨by rw [Int.mul_comm V q];omega,by omega,by omega⟩;exact h4
end D
end Go.Proofs.YtjegnogjkddnbaaGreatDoor
namespace Go.Proofs
open Go.Shelf
def Tryz.lays169_ren:Go.Shelf.Ren:=⟨fun|169=>134|n=>n,fun|70=>174|9=>9|0=>0|72=>176|37=>165|127=>219|3=>3|5=>5|n=>n,fun|n=>n⟩
theorem Tryz.lays169:Go.Proofs.Lays.n169 Tryz.prog Tryz.lays169_ren:={
 mixed:=by kernel_rfl
 f169:=Tryz.func134.trans (congrArg some (by kernel_rfl))
 t0:=Tryz.underlying0
 a0:=Tryz.isAgg0
 z0:=Tryz.sizeOf0
 v0:=Tryz.zeroValue0
 t3:=Tryz.underlying3
 a3:=Tryz.isAgg3
 z3:=Tryz.sizeOf3
 v3:=Tryz.zeroValue3
 t9:=Tryz.underlying9
 a9:=Tryz.isAgg9
 z9:=Tryz.sizeOf9
 v9:=Tryz.zeroValue9
 t37:=Tryz.underlying165
 a37:=Tryz.isAgg165
 z37:=Tryz.sizeOf165
 v37:=Tryz.zeroValue165
 t70:=Tryz.underlying174
 a70:=Tryz.isAgg174
 z70:=Tryz.sizeOf174
 v70:=Tryz.zeroValue174
 t72:=Tryz.underlying176
 a72:=Tryz.isAgg176
 z72:=Tryz.sizeOf176
 v72:=Tryz.zeroValue176
 t127:=Tryz.underlying219
 a127:=Tryz.isAgg219
 z127:=Tryz.sizeOf219
 v127:=Tryz.zeroValue219}
theorem Tryz.Builder_Extra_169:Builder.Extra Tryz.prog Tryz.lays169_ren:={
 sizeBuilder:=by kernel_rfl
 liesBuilder:=by kernel_rfl
 t5:=Tryz.underlying5
 a5:=Tryz.isAgg5
 z5:=Tryz.sizeOf5
 v5:=Tryz.zeroValue5
 infoByte:=by kernel_rfl
 cellsByte:=by kernel_rfl
 sizeByte:=by kernel_rfl
 neB5:=by decide}
def Tryz.lays156_ren:Go.Shelf.Ren:=⟨fun|156=>132|165=>195|166=>133|169=>134|240=>197|241=>246|276=>247|277=>289|n=>n,fun|31=>70|9=>9|3=>3|4=>4|0=>0|20=>20|72=>176|76=>179|70=>174|37=>165|75=>178|127=>219|164=>251|5=>5|80=>105|n=>n,fun|n=>n⟩
theorem Tryz.lays156:Go.Proofs.Lays.n156 Tryz.prog Tryz.lays156_ren:={
 mixed:=by kernel_rfl
 f156:=Tryz.func132.trans (congrArg some (by kernel_rfl))
 f165:=Tryz.func195.trans (congrArg some (by kernel_rfl))
 f166:=Tryz.func133.trans (congrArg some (by kernel_rfl))
 f169:=Tryz.func134.trans (congrArg some (by kernel_rfl))
 f240:=Tryz.func197.trans (congrArg some (by kernel_rfl))
 f241:=Tryz.func246.trans (congrArg some (by kernel_rfl))
 f276:=Tryz.func247.trans (congrArg some (by kernel_rfl))
 f277:=Tryz.func289.trans (congrArg some (by kernel_rfl))
 t0:=Tryz.underlying0
 a0:=Tryz.isAgg0
 z0:=Tryz.sizeOf0
 v0:=Tryz.zeroValue0
 t3:=Tryz.underlying3
 a3:=Tryz.isAgg3
 z3:=Tryz.sizeOf3
 v3:=Tryz.zeroValue3
 t4:=Tryz.underlying4
 a4:=Tryz.isAgg4
 z4:=Tryz.sizeOf4
 v4:=Tryz.zeroValue4
 t9:=Tryz.underlying9
 a9:=Tryz.isAgg9
 z9:=Tryz.sizeOf9
 v9:=Tryz.zeroValue9
 t20:=Tryz.underlying20
 a20:=Tryz.isAgg20
 z20:=Tryz.sizeOf20
 v20:=Tryz.zeroValue20
 t31:=Tryz.underlying70
 a31:=Tryz.isAgg70
 z31:=Tryz.sizeOf70
 v31:=Tryz.zeroValue70
 t37:=Tryz.underlying165
 a37:=Tryz.isAgg165
 z37:=Tryz.sizeOf165
 v37:=Tryz.zeroValue165
 t70:=Tryz.underlying174
 a70:=Tryz.isAgg174
 z70:=Tryz.sizeOf174
 v70:=Tryz.zeroValue174
 t72:=Tryz.underlying176
 a72:=Tryz.isAgg176
 z72:=Tryz.sizeOf176
 v72:=Tryz.zeroValue176
 t75:=Tryz.underlying178
 a75:=Tryz.isAgg178
 z75:=Tryz.sizeOf178
 v75:=Tryz.zeroValue178
 t76:=Tryz.underlying179
 a76:=Tryz.isAgg179
 z76:=Tryz.sizeOf179
 v76:=Tryz.zeroValue179
 t127:=Tryz.underlying219
 a127:=Tryz.isAgg219
 z127:=Tryz.sizeOf219
 v127:=Tryz.zeroValue219
 t164:=Tryz.underlying251
 a164:=Tryz.isAgg251
 z164:=Tryz.sizeOf251
 v164:=Tryz.zeroValue251}
theorem Tryz.Builder_Extra_156:Builder.Extra Tryz.prog Tryz.lays156_ren:={
 sizeBuilder:=by kernel_rfl
 liesBuilder:=by kernel_rfl
 t5:=Tryz.underlying5
 a5:=Tryz.isAgg5
 z5:=Tryz.sizeOf5
 v5:=Tryz.zeroValue5
 infoByte:=by kernel_rfl
 cellsByte:=by kernel_rfl
 sizeByte:=by kernel_rfl
 neB5:=by decide}
open Go.RowKit in
theorem Tryz.strings_Join_none(a:Option Addr)(c:Nat)(sep:ByteArray)(w:World):
 Calls Tryz.prog 132 #[.slice a 0 c,.string sep] w fun e w'=>e= .returned (.string ⟨#[]⟩)/\w'=w:=Any.strings_Join_none Tryz.lays156 Tryz.Builder_Extra_156 a c sep w
open Go.RowKit in
theorem Tryz.strings_Join(bk o c:Nat)(xs:List ByteArray)(sep:ByteArray)(w:World)(hcells:∀(j:Nat)x,xs[j]?=some x->w.cell? ⟨bk,o+j,none⟩=some (.string x))(hbk:bk<w.heap.size)(hN:xs.length<=140737488355328)(hcap:xs.length<=c)(hlen:(Lib.join (xs.map (·.data.toList)) sep.data.toList).length<=140737488355328):
 Calls Tryz.prog 132 #[.slice (some ⟨bk,o,none⟩) xs.length c,.string sep] w fun e w'=>e= .returned (.string ⟨(Lib.join (xs.map (·.data.toList)) sep.data.toList).toArray⟩)/\Below w.heap.size w w':=Any.strings_Join Tryz.lays156 Tryz.Builder_Extra_156 bk o c xs sep w hcells hbk hN hcap hlen
def Tryz.lays137_ren:Go.Shelf.Ren:=⟨fun|137=>178|217=>231|266=>275|n=>n,fun|9=>9|5=>5|3=>3|n=>n,fun|n=>n⟩
theorem Tryz.lays137:Go.Proofs.Lays.n137 Tryz.prog Tryz.lays137_ren:={
 mixed:=by kernel_rfl
 f137:=Tryz.func178.trans (congrArg some (by kernel_rfl))
 f217:=Tryz.func231.trans (congrArg some (by kernel_rfl))
 f266:=Tryz.func275.trans (congrArg some (by kernel_rfl))
 t3:=Tryz.underlying3
 a3:=Tryz.isAgg3
 z3:=Tryz.sizeOf3
 v3:=Tryz.zeroValue3
 t5:=Tryz.underlying5
 a5:=Tryz.isAgg5
 z5:=Tryz.sizeOf5
 v5:=Tryz.zeroValue5
 t9:=Tryz.underlying9
 a9:=Tryz.isAgg9
 z9:=Tryz.sizeOf9
 v9:=Tryz.zeroValue9}
open Go.RowKit in
theorem Tryz.strings_IndexByte(s:ByteArray)(c:Int)(w:World):
 Calls Tryz.prog 178 #[.string s,.int .u8 c] w fun e w'=>e= .returned (.int .i64 (Lib.indexByte s.data.toList c.toNat.toUInt8))/\w'=w:=Any.strings_IndexByte Tryz.lays137 s c w
def Tryz.lays103_ren:Go.Shelf.Ren:=⟨fun|103=>116|210=>181|206=>237|n=>n,fun|9=>9|4=>4|24=>162|3=>3|n=>n,fun|n=>n⟩
theorem Tryz.lays103:Go.Proofs.Lays.n103 Tryz.prog Tryz.lays103_ren:={
 mixed:=by kernel_rfl
 f103:=Tryz.func116.trans (congrArg some (by kernel_rfl))
 f206:=Tryz.func237.trans (congrArg some (by kernel_rfl))
 f210:=Tryz.func181.trans (congrArg some (by kernel_rfl))
 t3:=Tryz.underlying3
 a3:=Tryz.isAgg3
 z3:=Tryz.sizeOf3
 v3:=Tryz.zeroValue3
 t4:=Tryz.underlying4
 a4:=Tryz.isAgg4
 z4:=Tryz.sizeOf4
 v4:=Tryz.zeroValue4
 t9:=Tryz.underlying9
 a9:=Tryz.isAgg9
 z9:=Tryz.sizeOf9
 v9:=Tryz.zeroValue9
 t24:=Tryz.underlying162
 a24:=Tryz.isAgg162
 z24:=Tryz.sizeOf162
 v24:=Tryz.zeroValue162}
open Go.RowKit in
theorem Tryz.strings_CutPrefix(s p:ByteArray)(w:World):
 Calls Tryz.prog 116 #[.string s,.string p] w fun e w'=>e= .returned (.tuple #[.string ⟨(Lib.trimPrefix s.data.toList p.data.toList).toArray⟩,.bool (Lib.hasPrefix s.data.toList p.data.toList)])/\w'=w:=Any.strings_CutPrefix Tryz.lays103 s p w
def Tryz.lays172_ren:Go.Shelf.Ren:=⟨fun|172=>179|244=>232|245=>233|247=>276|279=>277|280=>278|281=>279|282=>280|287=>303|316=>304|171=>129|205=>305|321=>315|322=>316|243=>192|246=>243|283=>285|284=>286|285=>287|286=>288|129=>264|317=>307|318=>308|319=>309|320=>310|337=>317|338=>318|n=>n,fun|9=>9|3=>3|75=>178|76=>179|4=>4|5=>5|167=>267|37=>165|0=>0|85=>268|2=>2|168=>270|53=>157|175=>292|46=>158|210=>295|127=>219|145=>313|143=>311|21=>21|171=>275|173=>277|212=>303|51=>246|20=>20|213=>304|232=>314|233=>315|80=>105|n=>n,fun|15=>1|16=>2|17=>5|18=>6|19=>7|n=>n⟩
theorem Tryz.lays172:Go.Proofs.Lays.n172 Tryz.prog Tryz.lays172_ren:={
 mixed:=by kernel_rfl
 f129:=Tryz.func264.trans (congrArg some (by kernel_rfl))
 f171:=Tryz.func129.trans (congrArg some (by kernel_rfl))
 f172:=Tryz.func179.trans (congrArg some (by kernel_rfl))
 f205:=Tryz.func305.trans (congrArg some (by kernel_rfl))
 f243:=Tryz.func192.trans (congrArg some (by kernel_rfl))
 f244:=Tryz.func232.trans (congrArg some (by kernel_rfl))
 f245:=Tryz.func233.trans (congrArg some (by kernel_rfl))
 f246:=Tryz.func243.trans (congrArg some (by kernel_rfl))
 f247:=Tryz.func276.trans (congrArg some (by kernel_rfl))
 f279:=Tryz.func277.trans (congrArg some (by kernel_rfl))
 f280:=Tryz.func278.trans (congrArg some (by kernel_rfl))
 f281:=Tryz.func279.trans (congrArg some (by kernel_rfl))
 f282:=Tryz.func280.trans (congrArg some (by kernel_rfl))
 f283:=Tryz.func285.trans (congrArg some (by kernel_rfl))
 f284:=Tryz.func286.trans (congrArg some (by kernel_rfl))
 f285:=Tryz.func287.trans (congrArg some (by kernel_rfl))
 f286:=Tryz.func288.trans (congrArg some (by kernel_rfl))
 f287:=Tryz.func303.trans (congrArg some (by kernel_rfl))
 f316:=Tryz.func304.trans (congrArg some (by kernel_rfl))
 f317:=Tryz.func307.trans (congrArg some (by kernel_rfl))
 f318:=Tryz.func308.trans (congrArg some (by kernel_rfl))
 f319:=Tryz.func309.trans (congrArg some (by kernel_rfl))
 f320:=Tryz.func310.trans (congrArg some (by kernel_rfl))
 f321:=Tryz.func315.trans (congrArg some (by kernel_rfl))
 f322:=Tryz.func316.trans (congrArg some (by kernel_rfl))
 f337:=Tryz.func317.trans (congrArg some (by kernel_rfl))
 f338:=Tryz.func318.trans (congrArg some (by kernel_rfl))
 t0:=Tryz.underlying0
 a0:=Tryz.isAgg0
 z0:=Tryz.sizeOf0
 v0:=Tryz.zeroValue0
 t2:=Tryz.underlying2
 a2:=Tryz.isAgg2
 z2:=Tryz.sizeOf2
 v2:=Tryz.zeroValue2
 t3:=Tryz.underlying3
 a3:=Tryz.isAgg3
 z3:=Tryz.sizeOf3
 v3:=Tryz.zeroValue3
 t4:=Tryz.underlying4
 a4:=Tryz.isAgg4
 z4:=Tryz.sizeOf4
 v4:=Tryz.zeroValue4
 t5:=Tryz.underlying5
 a5:=Tryz.isAgg5
 z5:=Tryz.sizeOf5
 v5:=Tryz.zeroValue5
 t9:=Tryz.underlying9
 a9:=Tryz.isAgg9
 z9:=Tryz.sizeOf9
 v9:=Tryz.zeroValue9
 t20:=Tryz.underlying20
 a20:=Tryz.isAgg20
 z20:=Tryz.sizeOf20
 v20:=Tryz.zeroValue20
 t21:=Tryz.underlying21
 a21:=Tryz.isAgg21
 z21:=Tryz.sizeOf21
 v21:=Tryz.zeroValue21
 t37:=Tryz.underlying165
 a37:=Tryz.isAgg165
 z37:=Tryz.sizeOf165
 v37:=Tryz.zeroValue165
 t46:=Tryz.underlying158
 a46:=Tryz.isAgg158
 z46:=Tryz.sizeOf158
 v46:=Tryz.zeroValue158
 t51:=Tryz.underlying246
 a51:=Tryz.isAgg246
 z51:=Tryz.sizeOf246
 v51:=Tryz.zeroValue246
 t53:=Tryz.underlying157
 a53:=Tryz.isAgg157
 z53:=Tryz.sizeOf157
 v53:=Tryz.zeroValue157
 t75:=Tryz.underlying178
 a75:=Tryz.isAgg178
 z75:=Tryz.sizeOf178
 v75:=Tryz.zeroValue178
 t76:=Tryz.underlying179
 a76:=Tryz.isAgg179
 z76:=Tryz.sizeOf179
 v76:=Tryz.zeroValue179
 t85:=Tryz.underlying268
 a85:=Tryz.isAgg268
 z85:=Tryz.sizeOf268
 v85:=Tryz.zeroValue268
 t127:=Tryz.underlying219
 a127:=Tryz.isAgg219
 z127:=Tryz.sizeOf219
 v127:=Tryz.zeroValue219
 t143:=Tryz.underlying311
 a143:=Tryz.isAgg311
 z143:=Tryz.sizeOf311
 v143:=Tryz.zeroValue311
 t145:=Tryz.underlying313
 a145:=Tryz.isAgg313
 z145:=Tryz.sizeOf313
 v145:=Tryz.zeroValue313
 t167:=Tryz.underlying267
 a167:=Tryz.isAgg267
 z167:=Tryz.sizeOf267
 v167:=Tryz.zeroValue267
 t168:=Tryz.underlying270
 a168:=Tryz.isAgg270
 z168:=Tryz.sizeOf270
 v168:=Tryz.zeroValue270
 t171:=Tryz.underlying275
 a171:=Tryz.isAgg275
 z171:=Tryz.sizeOf275
 v171:=Tryz.zeroValue275
 t173:=Tryz.underlying277
 a173:=Tryz.isAgg277
 z173:=Tryz.sizeOf277
 v173:=Tryz.zeroValue277
 t175:=Tryz.underlying292
 a175:=Tryz.isAgg292
 z175:=Tryz.sizeOf292
 v175:=Tryz.zeroValue292
 t210:=Tryz.underlying295
 a210:=Tryz.isAgg295
 z210:=Tryz.sizeOf295
 v210:=Tryz.zeroValue295
 t212:=Tryz.underlying303
 a212:=Tryz.isAgg303
 z212:=Tryz.sizeOf303
 v212:=Tryz.zeroValue303
 t213:=Tryz.underlying304
 a213:=Tryz.isAgg304
 z213:=Tryz.sizeOf304
 t232:=Tryz.underlying314
 a232:=Tryz.isAgg314
 z232:=Tryz.sizeOf314
 v232:=Tryz.zeroValue314
 t233:=Tryz.underlying315
 a233:=Tryz.isAgg315
 z233:=Tryz.sizeOf315
 v233:=Tryz.zeroValue315
 g15:=by kernel_rfl
 g16:=by kernel_rfl
 g17:=by kernel_rfl
 g18:=by kernel_rfl
 g19:=by kernel_rfl}
def Tryz.laysM246_ren:Go.Shelf.Ren:=⟨fun|246=>243|283=>285|284=>286|285=>287|286=>288|129=>264|317=>307|318=>308|319=>309|320=>310|337=>317|338=>318|n=>n,fun|2=>2|3=>3|9=>9|4=>4|171=>275|0=>0|53=>157|37=>165|5=>5|173=>277|212=>303|51=>246|20=>20|213=>304|46=>158|232=>314|233=>315|n=>n,fun|17=>5|18=>6|19=>7|n=>n⟩
def Tryz.laysM243_ren:Go.Shelf.Ren:=⟨fun|243=>192|246=>243|283=>285|284=>286|285=>287|286=>288|129=>264|317=>307|318=>308|319=>309|320=>310|337=>317|338=>318|n=>n,fun|3=>3|9=>9|2=>2|4=>4|171=>275|0=>0|53=>157|37=>165|5=>5|173=>277|212=>303|51=>246|20=>20|213=>304|46=>158|232=>314|233=>315|n=>n,fun|17=>5|18=>6|19=>7|n=>n⟩
def Tryz.laysM171_ren:Go.Shelf.Ren:=⟨fun|171=>129|243=>192|246=>243|283=>285|284=>286|285=>287|286=>288|129=>264|317=>307|318=>308|319=>309|320=>310|337=>317|338=>318|n=>n,fun|3=>3|9=>9|2=>2|4=>4|171=>275|0=>0|53=>157|37=>165|5=>5|173=>277|212=>303|51=>246|20=>20|213=>304|46=>158|232=>314|233=>315|n=>n,fun|17=>5|18=>6|19=>7|n=>n⟩
theorem Tryz.laysM171:Go.Proofs.LaysM.n171 Tryz.prog Tryz.laysM171_ren:={
 mixed:=by kernel_rfl
 f129:=Tryz.func264.trans (congrArg some (by kernel_rfl))
 f171:=Tryz.func129.trans (congrArg some (by kernel_rfl))
 f243:=Tryz.func192.trans (congrArg some (by kernel_rfl))
 f246:=Tryz.func243.trans (congrArg some (by kernel_rfl))
 f283:=Tryz.func285.trans (congrArg some (by kernel_rfl))
 f284:=Tryz.func286.trans (congrArg some (by kernel_rfl))
 f285:=Tryz.func287.trans (congrArg some (by kernel_rfl))
 f286:=Tryz.func288.trans (congrArg some (by kernel_rfl))
 f317:=Tryz.func307.trans (congrArg some (by kernel_rfl))
 f318:=Tryz.func308.trans (congrArg some (by kernel_rfl))
 f319:=Tryz.func309.trans (congrArg some (by kernel_rfl))
 f320:=Tryz.func310.trans (congrArg some (by kernel_rfl))
 f337:=Tryz.func317.trans (congrArg some (by kernel_rfl))
 f338:=Tryz.func318.trans (congrArg some (by kernel_rfl))
 t0:=Tryz.underlying0
 a0:=Tryz.isAgg0
 z0:=Tryz.sizeOf0
 v0:=Tryz.zeroValue0
 t2:=Tryz.underlying2
 a2:=Tryz.isAgg2
 z2:=Tryz.sizeOf2
 v2:=Tryz.zeroValue2
 t3:=Tryz.underlying3
 a3:=Tryz.isAgg3
 z3:=Tryz.sizeOf3
 v3:=Tryz.zeroValue3
 t4:=Tryz.underlying4
 a4:=Tryz.isAgg4
 z4:=Tryz.sizeOf4
 v4:=Tryz.zeroValue4
 t5:=Tryz.underlying5
 a5:=Tryz.isAgg5
 z5:=Tryz.sizeOf5
 v5:=Tryz.zeroValue5
 t9:=Tryz.underlying9
 a9:=Tryz.isAgg9
 z9:=Tryz.sizeOf9
 v9:=Tryz.zeroValue9
 t20:=Tryz.underlying20
 a20:=Tryz.isAgg20
 z20:=Tryz.sizeOf20
 v20:=Tryz.zeroValue20
 t37:=Tryz.underlying165
 a37:=Tryz.isAgg165
 z37:=Tryz.sizeOf165
 v37:=Tryz.zeroValue165
 t46:=Tryz.underlying158
 a46:=Tryz.isAgg158
 z46:=Tryz.sizeOf158
 v46:=Tryz.zeroValue158
 t51:=Tryz.underlying246
 a51:=Tryz.isAgg246
 z51:=Tryz.sizeOf246
 v51:=Tryz.zeroValue246
 t53:=Tryz.underlying157
 a53:=Tryz.isAgg157
 z53:=Tryz.sizeOf157
 v53:=Tryz.zeroValue157
 t171:=Tryz.underlying275
 a171:=Tryz.isAgg275
 z171:=Tryz.sizeOf275
 v171:=Tryz.zeroValue275
 t173:=Tryz.underlying277
 a173:=Tryz.isAgg277
 z173:=Tryz.sizeOf277
 v173:=Tryz.zeroValue277
 t212:=Tryz.underlying303
 a212:=Tryz.isAgg303
 z212:=Tryz.sizeOf303
 v212:=Tryz.zeroValue303
 t213:=Tryz.underlying304
 a213:=Tryz.isAgg304
 z213:=Tryz.sizeOf304
 t232:=Tryz.underlying314
 a232:=Tryz.isAgg314
 z232:=Tryz.sizeOf314
 v232:=Tryz.zeroValue314
 t233:=Tryz.underlying315
 a233:=Tryz.isAgg315
 z233:=Tryz.sizeOf315
 v233:=Tryz.zeroValue315
 g17:=by kernel_rfl
 g18:=by kernel_rfl
 g19:=by kernel_rfl
 i0:=by kernel_rfl
 i2:=by kernel_rfl
 i3:=by kernel_rfl
 i4:=by kernel_rfl
 i5:=by kernel_rfl
 i9:=by kernel_rfl
 i20:=by kernel_rfl
 i37:=by kernel_rfl
 i46:=by kernel_rfl
 i51:=by kernel_rfl
 i53:=by kernel_rfl
 i171:=by kernel_rfl
 i173:=by kernel_rfl
 i212:=by kernel_rfl
 i232:=by kernel_rfl
 i233:=by kernel_rfl
 m17:=by kernel_rfl
 m18:=by kernel_rfl
 m19:=by kernel_rfl}
open Go.RowKit Go.Sort Go.Lib in
theorem Tryz.strconv_Itoa(n:Int)(h0:-9223372036854775808<=n)(h1:n<=9223372036854775807)(w:World)(htab:Lib.TabIs Tryz.prog w "internal/strconv.uint64pow10" .u64 Lib.pow10Tab):
 Calls Tryz.prog 129 #[.int .i64 n] w fun e w'=>e= .returned (.string ⟨(Lib.itoa n).toArray⟩)/\∃k os,w'=grow (w.drewN k) os:=Any.strconv_Itoa Tryz.laysM171 n h0 h1 w htab
def Tryz.laysC172_ren:Go.Shelf.Ren:=⟨fun|172=>179|244=>232|245=>233|247=>276|279=>277|280=>278|281=>279|282=>280|287=>303|316=>304|171=>129|205=>305|321=>315|322=>316|243=>192|246=>243|283=>285|284=>286|285=>287|286=>288|129=>264|317=>307|318=>308|319=>309|320=>310|337=>317|338=>318|n=>n,fun|9=>9|3=>3|75=>178|76=>179|4=>4|5=>5|167=>267|37=>165|0=>0|85=>268|2=>2|168=>270|53=>157|175=>292|46=>158|210=>295|127=>219|145=>313|143=>311|21=>21|171=>275|173=>277|212=>303|51=>246|20=>20|213=>304|232=>314|233=>315|80=>105|n=>n,fun|15=>1|16=>2|17=>5|18=>6|19=>7|n=>n⟩
theorem Tryz.laysC172:Go.Proofs.LaysC.n172 Tryz.prog Tryz.laysC172_ren:={
 mixed:=by kernel_rfl
 f129:=Tryz.func264.trans (congrArg some (by kernel_rfl))
 f171:=Tryz.func129.trans (congrArg some (by kernel_rfl))
 f172:=Tryz.func179.trans (congrArg some (by kernel_rfl))
 f205:=Tryz.func305.trans (congrArg some (by kernel_rfl))
 f243:=Tryz.func192.trans (congrArg some (by kernel_rfl))
 f244:=Tryz.func232.trans (congrArg some (by kernel_rfl))
 f245:=Tryz.func233.trans (congrArg some (by kernel_rfl))
 f246:=Tryz.func243.trans (congrArg some (by kernel_rfl))
 f247:=Tryz.func276.trans (congrArg some (by kernel_rfl))
 f279:=Tryz.func277.trans (congrArg some (by kernel_rfl))
 f280:=Tryz.func278.trans (congrArg some (by kernel_rfl))
 f281:=Tryz.func279.trans (congrArg some (by kernel_rfl))
 f282:=Tryz.func280.trans (congrArg some (by kernel_rfl))
 f283:=Tryz.func285.trans (congrArg some (by kernel_rfl))
 f284:=Tryz.func286.trans (congrArg some (by kernel_rfl))
 f285:=Tryz.func287.trans (congrArg some (by kernel_rfl))
 f286:=Tryz.func288.trans (congrArg some (by kernel_rfl))
 f287:=Tryz.func303.trans (congrArg some (by kernel_rfl))
 f316:=Tryz.func304.trans (congrArg some (by kernel_rfl))
 f317:=Tryz.func307.trans (congrArg some (by kernel_rfl))
 f318:=Tryz.func308.trans (congrArg some (by kernel_rfl))
 f319:=Tryz.func309.trans (congrArg some (by kernel_rfl))
 f320:=Tryz.func310.trans (congrArg some (by kernel_rfl))
 f321:=Tryz.func315.trans (congrArg some (by kernel_rfl))
 f322:=Tryz.func316.trans (congrArg some (by kernel_rfl))
 f337:=Tryz.func317.trans (congrArg some (by kernel_rfl))
 f338:=Tryz.func318.trans (congrArg some (by kernel_rfl))
 t0:=Tryz.underlying0
 a0:=Tryz.isAgg0
 z0:=Tryz.sizeOf0
 v0:=Tryz.zeroValue0
 t2:=Tryz.underlying2
 a2:=Tryz.isAgg2
 z2:=Tryz.sizeOf2
 v2:=Tryz.zeroValue2
 t3:=Tryz.underlying3
 a3:=Tryz.isAgg3
 z3:=Tryz.sizeOf3
 v3:=Tryz.zeroValue3
 t4:=Tryz.underlying4
 a4:=Tryz.isAgg4
 z4:=Tryz.sizeOf4
 v4:=Tryz.zeroValue4
 t5:=Tryz.underlying5
 a5:=Tryz.isAgg5
 z5:=Tryz.sizeOf5
 v5:=Tryz.zeroValue5
 t9:=Tryz.underlying9
 a9:=Tryz.isAgg9
 z9:=Tryz.sizeOf9
 v9:=Tryz.zeroValue9
 t20:=Tryz.underlying20
 a20:=Tryz.isAgg20
 z20:=Tryz.sizeOf20
 v20:=Tryz.zeroValue20
 t21:=Tryz.underlying21
 a21:=Tryz.isAgg21
 z21:=Tryz.sizeOf21
 v21:=Tryz.zeroValue21
 t37:=Tryz.underlying165
 a37:=Tryz.isAgg165
 z37:=Tryz.sizeOf165
 v37:=Tryz.zeroValue165
 t46:=Tryz.underlying158
 a46:=Tryz.isAgg158
 z46:=Tryz.sizeOf158
 v46:=Tryz.zeroValue158
 t51:=Tryz.underlying246
 a51:=Tryz.isAgg246
 z51:=Tryz.sizeOf246
 v51:=Tryz.zeroValue246
 t53:=Tryz.underlying157
 a53:=Tryz.isAgg157
 z53:=Tryz.sizeOf157
 v53:=Tryz.zeroValue157
 t75:=Tryz.underlying178
 a75:=Tryz.isAgg178
 z75:=Tryz.sizeOf178
 v75:=Tryz.zeroValue178
 t76:=Tryz.underlying179
 a76:=Tryz.isAgg179
 z76:=Tryz.sizeOf179
 v76:=Tryz.zeroValue179
 t85:=Tryz.underlying268
 a85:=Tryz.isAgg268
 z85:=Tryz.sizeOf268
 v85:=Tryz.zeroValue268
 t127:=Tryz.underlying219
 a127:=Tryz.isAgg219
 z127:=Tryz.sizeOf219
 v127:=Tryz.zeroValue219
 t143:=Tryz.underlying311
 a143:=Tryz.isAgg311
 z143:=Tryz.sizeOf311
 v143:=Tryz.zeroValue311
 t145:=Tryz.underlying313
 a145:=Tryz.isAgg313
 z145:=Tryz.sizeOf313
 v145:=Tryz.zeroValue313
 t167:=Tryz.underlying267
 a167:=Tryz.isAgg267
 z167:=Tryz.sizeOf267
 v167:=Tryz.zeroValue267
 t168:=Tryz.underlying270
 a168:=Tryz.isAgg270
 z168:=Tryz.sizeOf270
 v168:=Tryz.zeroValue270
 t171:=Tryz.underlying275
 a171:=Tryz.isAgg275
 z171:=Tryz.sizeOf275
 v171:=Tryz.zeroValue275
 t173:=Tryz.underlying277
 a173:=Tryz.isAgg277
 z173:=Tryz.sizeOf277
 v173:=Tryz.zeroValue277
 t175:=Tryz.underlying292
 a175:=Tryz.isAgg292
 z175:=Tryz.sizeOf292
 v175:=Tryz.zeroValue292
 t210:=Tryz.underlying295
 a210:=Tryz.isAgg295
 z210:=Tryz.sizeOf295
 v210:=Tryz.zeroValue295
 t212:=Tryz.underlying303
 a212:=Tryz.isAgg303
 z212:=Tryz.sizeOf303
 v212:=Tryz.zeroValue303
 t213:=Tryz.underlying304
 a213:=Tryz.isAgg304
 z213:=Tryz.sizeOf304
 t232:=Tryz.underlying314
 a232:=Tryz.isAgg314
 z232:=Tryz.sizeOf314
 v232:=Tryz.zeroValue314
 t233:=Tryz.underlying315
 a233:=Tryz.isAgg315
 z233:=Tryz.sizeOf315
 v233:=Tryz.zeroValue315
 g15:=by kernel_rfl
 g16:=by kernel_rfl
 g17:=by kernel_rfl
 g18:=by kernel_rfl
 g19:=by kernel_rfl
 t80:=Tryz.underlying105
 a80:=Tryz.isAgg105
 z80:=Tryz.sizeOf105
 v80:=Tryz.zeroValue105
 i0:=by kernel_rfl
 i2:=by kernel_rfl
 i3:=by kernel_rfl
 i4:=by kernel_rfl
 i5:=by kernel_rfl
 i9:=by kernel_rfl
 i20:=by kernel_rfl
 i21:=by kernel_rfl
 i37:=by kernel_rfl
 i46:=by kernel_rfl
 i51:=by kernel_rfl
 i53:=by kernel_rfl
 i75:=by kernel_rfl
 i76:=by kernel_rfl
 i80:=by kernel_rfl
 i85:=by kernel_rfl
 i127:=by kernel_rfl
 i143:=by kernel_rfl
 i145:=by kernel_rfl
 i167:=by kernel_rfl
 i168:=by kernel_rfl
 i171:=by kernel_rfl
 i173:=by kernel_rfl
 i175:=by kernel_rfl
 i210:=by kernel_rfl
 i212:=by kernel_rfl
 i232:=by kernel_rfl
 i233:=by kernel_rfl
 m15:=by kernel_rfl
 m16:=by kernel_rfl
 m17:=by kernel_rfl
 m18:=by kernel_rfl
 m19:=by kernel_rfl
 c0:=by kernel_rfl
 c2:=by kernel_rfl
 c3:=by kernel_rfl
 c4:=by kernel_rfl
 c5:=by kernel_rfl
 c9:=by kernel_rfl
 c20:=by kernel_rfl
 c21:=by kernel_rfl
 c37:=by kernel_rfl
 c46:=by kernel_rfl
 c51:=by kernel_rfl
 c53:=by kernel_rfl
 c75:=by kernel_rfl
 c76:=by kernel_rfl
 c80:=by kernel_rfl
 c85:=by kernel_rfl
 c127:=by kernel_rfl
 c143:=by kernel_rfl
 c145:=by kernel_rfl
 c167:=by kernel_rfl
 c168:=by kernel_rfl
 c171:=by kernel_rfl
 c173:=by kernel_rfl
 c175:=by kernel_rfl
 c210:=by kernel_rfl
 c212:=by kernel_rfl
 c213:=by kernel_rfl
 c232:=by kernel_rfl
 c233:=by kernel_rfl}
open Go.RowKit in
theorem Tryz.strconv_Atoi_ok(s:ByteArray)(hmax:s.size<=9223372036854775806)(v:Int)(h:Lib.atoiAll s.data.toList= .ok v)(w:World):
 Calls Tryz.prog 179 #[.string s] w fun e w'=>e= .returned (.tuple #[.int .i64 v,.nilIface])/\(w'=w∨∃t,w'=Lib.bytesWorld w 5 t):=Any.strconv_Atoi_ok Tryz.laysC172 s hmax v h w
open Go.RowKit in
theorem Tryz.strconv_Atoi_range(s:ByteArray)(hlim:s.size<=281474976710656)(h:Lib.atoiAll s.data.toList= .range)(ev:Value)(w:World)(hv:w.cell? ⟨2,0,none⟩=some ev)(hev:ev= .nilIface∨∃te pe,ev= .iface te pe):
 Calls Tryz.prog 179 #[.string s] w fun e w'=>∃N,e= .returned (.tuple #[.int .i64 (Lib.atoiSat s.data.toList),.iface 270 (.pointer (some ⟨N,0,none⟩))])/\w.heap.size<=N/\w'.heap[N]?=some (.cells #[.string ⟨#[65,116,111,105]⟩,.string s,ev] 295 (0,0))/\Below w.heap.size w w':=Any.strconv_Atoi_range Tryz.laysC172 s hlim h ev w hv hev
def Tryz.lays217_ren:Go.Shelf.Ren:=⟨fun|217=>231|266=>275|n=>n,fun|9=>9|5=>5|3=>3|n=>n,fun|n=>n⟩
theorem Tryz.lays217:Go.Proofs.Lays.n217 Tryz.prog Tryz.lays217_ren:={
 mixed:=by kernel_rfl
 f217:=Tryz.func231.trans (congrArg some (by kernel_rfl))
 f266:=Tryz.func275.trans (congrArg some (by kernel_rfl))
 t3:=Tryz.underlying3
 a3:=Tryz.isAgg3
 z3:=Tryz.sizeOf3
 v3:=Tryz.zeroValue3
 t5:=Tryz.underlying5
 a5:=Tryz.isAgg5
 z5:=Tryz.sizeOf5
 v5:=Tryz.zeroValue5
 t9:=Tryz.underlying9
 a9:=Tryz.isAgg9
 z9:=Tryz.sizeOf9
 v9:=Tryz.zeroValue9}
open Go.RowKit Go.Lib in
theorem Tryz.stringslite_IndexByte(s:ByteArray)(c:Int)(w:World):
 Calls Tryz.prog 231 #[.string s,.int .u8 c] w fun e w'=>e= .returned (.int .i64 (Lib.indexByte s.data.toList c.toNat.toUInt8))/\w'=w:=Any.stringslite_IndexByte Tryz.lays217 s c w
def Tryz.lays227_ren:Go.Shelf.Ren:=⟨fun|227=>184|n=>n,fun|9=>9|116=>207|4=>4|0=>0|3=>3|5=>5|n=>n,fun|n=>n⟩
theorem Tryz.lays227:Go.Proofs.Lays.n227 Tryz.prog Tryz.lays227_ren:={
 mixed:=by kernel_rfl
 f227:=Tryz.func184.trans (congrArg some (by kernel_rfl))
 t0:=Tryz.underlying0
 a0:=Tryz.isAgg0
 z0:=Tryz.sizeOf0
 v0:=Tryz.zeroValue0
 t3:=Tryz.underlying3
 a3:=Tryz.isAgg3
 z3:=Tryz.sizeOf3
 v3:=Tryz.zeroValue3
 t4:=Tryz.underlying4
 a4:=Tryz.isAgg4
 z4:=Tryz.sizeOf4
 v4:=Tryz.zeroValue4
 t5:=Tryz.underlying5
 a5:=Tryz.isAgg5
 z5:=Tryz.sizeOf5
 v5:=Tryz.zeroValue5
 t9:=Tryz.underlying9
 a9:=Tryz.isAgg9
 z9:=Tryz.sizeOf9
 v9:=Tryz.zeroValue9
 t116:=Tryz.underlying207
 a116:=Tryz.isAgg207
 z116:=Tryz.sizeOf207}
open Go.RowKit Go.Lib in
theorem Tryz.strings_makeASCIISet(hv116:∀w,(zeroValue 207).run Tryz.prog w= .ok (.agg (Array.replicate 256 (.bool false))) w)(chars:ByteArray)(w:World)(hs:chars.size<4294967281)(hascii:∀(j:Nat)b,chars.data.toList[j]?=some b->b.toNat<128):
 Calls Tryz.prog 184 #[.string chars] w fun e w'=>e= .returned (.tuple #[.agg (Lib.setCells chars.data.toList),.bool true])/\w'=w.alloc (.cells (Lib.setCells chars.data.toList) 207):=Any.strings_makeASCIISet Tryz.lays227 hv116 (by kernel_rfl) chars w hs hascii
def Tryz.lays228_ren:Go.Shelf.Ren:=⟨fun|228=>238|n=>n,fun|124=>211|5=>5|4=>4|0=>0|116=>207|n=>n,fun|n=>n⟩
theorem Tryz.lays228:Go.Proofs.Lays.n228 Tryz.prog Tryz.lays228_ren:={
 mixed:=by kernel_rfl
 f228:=Tryz.func238.trans (congrArg some (by kernel_rfl))
 t0:=Tryz.underlying0
 a0:=Tryz.isAgg0
 z0:=Tryz.sizeOf0
 v0:=Tryz.zeroValue0
 t4:=Tryz.underlying4
 a4:=Tryz.isAgg4
 z4:=Tryz.sizeOf4
 v4:=Tryz.zeroValue4
 t5:=Tryz.underlying5
 a5:=Tryz.isAgg5
 z5:=Tryz.sizeOf5
 v5:=Tryz.zeroValue5
 t116:=Tryz.underlying207
 a116:=Tryz.isAgg207
 z116:=Tryz.sizeOf207
 t124:=Tryz.underlying211
 a124:=Tryz.isAgg211
 z124:=Tryz.sizeOf211
 v124:=Tryz.zeroValue211}
open Go.RowKit Go.Lib in
theorem Tryz.asciiSet_contains(b:Nat)(x:UInt8)(v:Bool)(w:World)(hc:w.cell? ⟨b,x.toNat,none⟩=some (.bool v)):
 Calls Tryz.prog 238 #[.pointer (some ⟨b,0,none⟩),.int .u8 x.toNat] w fun e w'=>e= .returned (.bool v)/\w'=w:=Any.asciiSet_contains Tryz.lays228 b x v w hc
def Tryz.lays105_ren:Go.Shelf.Ren:=⟨fun|105=>130|212=>193|99=>194|165=>195|166=>133|170=>196|169=>134|263=>244|264=>245|206=>237|240=>197|241=>246|276=>247|277=>289|n=>n,fun|9=>9|3=>3|4=>4|20=>20|0=>0|46=>158|109=>216|5=>5|72=>176|76=>179|51=>246|146=>247|53=>157|148=>249|70=>174|37=>165|75=>178|127=>219|164=>251|80=>105|n=>n,fun|n=>n⟩
theorem Tryz.lays105:Go.Proofs.Lays.n105 Tryz.prog Tryz.lays105_ren:={
 mixed:=by kernel_rfl
 f99:=Tryz.func194.trans (congrArg some (by kernel_rfl))
 f105:=Tryz.func130.trans (congrArg some (by kernel_rfl))
 f165:=Tryz.func195.trans (congrArg some (by kernel_rfl))
 f166:=Tryz.func133.trans (congrArg some (by kernel_rfl))
 f169:=Tryz.func134.trans (congrArg some (by kernel_rfl))
 f170:=Tryz.func196.trans (congrArg some (by kernel_rfl))
 f206:=Tryz.func237.trans (congrArg some (by kernel_rfl))
 f212:=Tryz.func193.trans (congrArg some (by kernel_rfl))
 f240:=Tryz.func197.trans (congrArg some (by kernel_rfl))
 f241:=Tryz.func246.trans (congrArg some (by kernel_rfl))
 f263:=Tryz.func244.trans (congrArg some (by kernel_rfl))
 f264:=Tryz.func245.trans (congrArg some (by kernel_rfl))
 f276:=Tryz.func247.trans (congrArg some (by kernel_rfl))
 f277:=Tryz.func289.trans (congrArg some (by kernel_rfl))
 t0:=Tryz.underlying0
 a0:=Tryz.isAgg0
 z0:=Tryz.sizeOf0
 v0:=Tryz.zeroValue0
 t3:=Tryz.underlying3
 a3:=Tryz.isAgg3
 z3:=Tryz.sizeOf3
 v3:=Tryz.zeroValue3
 t4:=Tryz.underlying4
 a4:=Tryz.isAgg4
 z4:=Tryz.sizeOf4
 v4:=Tryz.zeroValue4
 t5:=Tryz.underlying5
 a5:=Tryz.isAgg5
 z5:=Tryz.sizeOf5
 v5:=Tryz.zeroValue5
 t9:=Tryz.underlying9
 a9:=Tryz.isAgg9
 z9:=Tryz.sizeOf9
 v9:=Tryz.zeroValue9
 t20:=Tryz.underlying20
 a20:=Tryz.isAgg20
 z20:=Tryz.sizeOf20
 v20:=Tryz.zeroValue20
 t37:=Tryz.underlying165
 a37:=Tryz.isAgg165
 z37:=Tryz.sizeOf165
 v37:=Tryz.zeroValue165
 t46:=Tryz.underlying158
 a46:=Tryz.isAgg158
 z46:=Tryz.sizeOf158
 v46:=Tryz.zeroValue158
 t51:=Tryz.underlying246
 a51:=Tryz.isAgg246
 z51:=Tryz.sizeOf246
 v51:=Tryz.zeroValue246
 t53:=Tryz.underlying157
 a53:=Tryz.isAgg157
 z53:=Tryz.sizeOf157
 v53:=Tryz.zeroValue157
 t70:=Tryz.underlying174
 a70:=Tryz.isAgg174
 z70:=Tryz.sizeOf174
 v70:=Tryz.zeroValue174
 t72:=Tryz.underlying176
 a72:=Tryz.isAgg176
 z72:=Tryz.sizeOf176
 v72:=Tryz.zeroValue176
 t75:=Tryz.underlying178
 a75:=Tryz.isAgg178
 z75:=Tryz.sizeOf178
 v75:=Tryz.zeroValue178
 t76:=Tryz.underlying179
 a76:=Tryz.isAgg179
 z76:=Tryz.sizeOf179
 v76:=Tryz.zeroValue179
 t109:=Tryz.underlying216
 a109:=Tryz.isAgg216
 z109:=Tryz.sizeOf216
 v109:=Tryz.zeroValue216
 t127:=Tryz.underlying219
 a127:=Tryz.isAgg219
 z127:=Tryz.sizeOf219
 v127:=Tryz.zeroValue219
 t146:=Tryz.underlying247
 a146:=Tryz.isAgg247
 z146:=Tryz.sizeOf247
 v146:=Tryz.zeroValue247
 t148:=Tryz.underlying249
 a148:=Tryz.isAgg249
 z148:=Tryz.sizeOf249
 v148:=Tryz.zeroValue249
 t164:=Tryz.underlying251
 a164:=Tryz.isAgg251
 z164:=Tryz.sizeOf251
 v164:=Tryz.zeroValue251}
theorem Tryz.Builder_Extra_105:Builder.Extra Tryz.prog Tryz.lays105_ren:={
 sizeBuilder:=by kernel_rfl
 liesBuilder:=by kernel_rfl
 t5:=Tryz.underlying5
 a5:=Tryz.isAgg5
 z5:=Tryz.sizeOf5
 v5:=Tryz.zeroValue5
 infoByte:=by kernel_rfl
 cellsByte:=by kernel_rfl
 sizeByte:=by kernel_rfl
 neB5:=by decide}
open Go.RowKit Go.Lib in
theorem Tryz.strings_Repeat(s:ByteArray)(c:Nat)(w:World)(hc:c<=9223372036854775807)(hlen:s.size*c<=140737488355328):
 Calls Tryz.prog 130 #[.string s,.int .i64 c] w fun e w'=>e= .returned (.string ⟨(Lib.repeatL s.data.toList c).toArray⟩)/\Below w.heap.size w w':=Any.strings_Repeat Tryz.lays105 Tryz.Builder_Extra_105 s c w hc hlen
def Tryz.laysSlE041_f174_ren:Go.Shelf.Ren:=⟨fun|41=>174|n=>n,fun|22=>30|23=>3|4=>4|n=>n,fun|n=>n⟩
theorem Tryz.laysSlE041_f174:Go.Proofs.SlLaysE0.n41 Tryz.prog Tryz.laysSlE041_f174_ren:={
 mixed:=by kernel_rfl
 f41:=⟨Tryz.f174.name,by decide,Tryz.func174.trans (congrArg some (by kernel_rfl))⟩
 t4:=Tryz.underlying4
 a4:=Tryz.isAgg4
 z4:=Tryz.sizeOf4
 v4:=Tryz.zeroValue4
 t22:=Tryz.underlying30
 a22:=Tryz.isAgg30
 z22:=Tryz.sizeOf30
 v22:=Tryz.zeroValue30}
open Go.RowKit Go.Lib in
theorem Tryz.slices_Clone_nil(n c:Nat)(w:World):
 Calls Tryz.prog 174 #[.slice none n c] w fun e w'=>e= .returned (.slice none 0 0)/\w'=w:=AnyE.slices_Clone_nil Tryz.laysSlE041_f174 n c w
def Tryz.laysSlM5_f147_ren:Go.Shelf.Ren:=⟨fun|5=>147|8=>207|7=>206|19=>263|20=>264|10=>254|11=>255|12=>256|13=>257|14=>258|15=>259|16=>260|17=>261|18=>262|30=>295|31=>296|32=>297|33=>298|34=>299|35=>274|40=>314|n=>n,fun|23=>30|25=>3|3=>3|32=>158|22=>30|0=>0|44=>246|46=>157|4=>4|36=>258|35=>257|41=>212|5=>5|9=>9|53=>284|57=>288|63=>306|64=>307|n=>n,fun|n=>n⟩
theorem Tryz.laysSlM5_f147:Go.Proofs.SlLaysM.n5 Tryz.prog Tryz.laysSlM5_f147_ren:={
 mixed:=by kernel_rfl
 f5:=⟨Tryz.f147.name,by decide,Tryz.func147.trans (congrArg some (by kernel_rfl))⟩
 f7:=⟨Tryz.f206.name,by decide,Tryz.func206.trans (congrArg some (by kernel_rfl))⟩
 f8:=Tryz.func207.trans (congrArg some (by kernel_rfl))
 f10:=⟨Tryz.f254.name,by decide,Tryz.func254.trans (congrArg some (by kernel_rfl))⟩
 f11:=⟨Tryz.f255.name,by decide,Tryz.func255.trans (congrArg some (by kernel_rfl))⟩
 f12:=⟨Tryz.f256.name,by decide,Tryz.func256.trans (congrArg some (by kernel_rfl))⟩
 f13:=⟨Tryz.f257.name,by decide,Tryz.func257.trans (congrArg some (by kernel_rfl))⟩
 f14:=⟨Tryz.f258.name,by decide,Tryz.func258.trans (congrArg some (by kernel_rfl))⟩
 f15:=⟨Tryz.f259.name,by decide,Tryz.func259.trans (congrArg some (by kernel_rfl))⟩
 f16:=⟨Tryz.f260.name,by decide,Tryz.func260.trans (congrArg some (by kernel_rfl))⟩
 f17:=⟨Tryz.f261.name,by decide,Tryz.func261.trans (congrArg some (by kernel_rfl))⟩
 f18:=⟨Tryz.f262.name,by decide,Tryz.func262.trans (congrArg some (by kernel_rfl))⟩
 f19:=Tryz.func263.trans (congrArg some (by kernel_rfl))
 f20:=Tryz.func264.trans (congrArg some (by kernel_rfl))
 f30:=⟨Tryz.f295.name,by decide,Tryz.func295.trans (congrArg some (by kernel_rfl))⟩
 f31:=Tryz.func296.trans (congrArg some (by kernel_rfl))
 f32:=Tryz.func297.trans (congrArg some (by kernel_rfl))
 f33:=⟨Tryz.f298.name,by decide,Tryz.func298.trans (congrArg some (by kernel_rfl))⟩
 f34:=⟨Tryz.f299.name,by decide,Tryz.func299.trans (congrArg some (by kernel_rfl))⟩
 f35:=⟨Tryz.f274.name,by decide,Tryz.func274.trans (congrArg some (by kernel_rfl))⟩
 f40:=⟨Tryz.f314.name,by decide,Tryz.func314.trans (congrArg some (by kernel_rfl))⟩
 t0:=Tryz.underlying0
 a0:=Tryz.isAgg0
 z0:=Tryz.sizeOf0
 v0:=Tryz.zeroValue0
 t3:=Tryz.underlying3
 a3:=Tryz.isAgg3
 z3:=Tryz.sizeOf3
 v3:=Tryz.zeroValue3
 t4:=Tryz.underlying4
 a4:=Tryz.isAgg4
 z4:=Tryz.sizeOf4
 v4:=Tryz.zeroValue4
 t5:=Tryz.underlying5
 a5:=Tryz.isAgg5
 z5:=Tryz.sizeOf5
 v5:=Tryz.zeroValue5
 t9:=Tryz.underlying9
 a9:=Tryz.isAgg9
 z9:=Tryz.sizeOf9
 v9:=Tryz.zeroValue9
 t22:=Tryz.underlying30
 a22:=Tryz.isAgg30
 z22:=Tryz.sizeOf30
 v22:=Tryz.zeroValue30
 t23:=Tryz.underlying30
 a23:=Tryz.isAgg30
 z23:=Tryz.sizeOf30
 v23:=Tryz.zeroValue30
 t25:=Tryz.underlying3
 a25:=Tryz.isAgg3
 z25:=Tryz.sizeOf3
 v25:=Tryz.zeroValue3
 t32:=Tryz.underlying158
 a32:=Tryz.isAgg158
 z32:=Tryz.sizeOf158
 v32:=Tryz.zeroValue158
 t35:=Tryz.underlying257
 a35:=Tryz.isAgg257
 z35:=Tryz.sizeOf257
 v35:=Tryz.zeroValue257
 t36:=Tryz.underlying258
 a36:=Tryz.isAgg258
 z36:=Tryz.sizeOf258
 v36:=Tryz.zeroValue258
 t41:=Tryz.underlying212
 a41:=Tryz.isAgg212
 z41:=Tryz.sizeOf212
 v41:=Tryz.zeroValue212
 t44:=Tryz.underlying246
 a44:=Tryz.isAgg246
 z44:=Tryz.sizeOf246
 v44:=Tryz.zeroValue246
 t46:=Tryz.underlying157
 a46:=Tryz.isAgg157
 z46:=Tryz.sizeOf157
 v46:=Tryz.zeroValue157
 t53:=Tryz.underlying284
 a53:=Tryz.isAgg284
 z53:=Tryz.sizeOf284
 v53:=Tryz.zeroValue284
 t57:=Tryz.underlying288
 a57:=Tryz.isAgg288
 z57:=Tryz.sizeOf288
 v57:=Tryz.zeroValue288
 t63:=Tryz.underlying306
 a63:=Tryz.isAgg306
 z63:=Tryz.sizeOf306
 v63:=Tryz.zeroValue306
 t64:=Tryz.underlying307
 a64:=Tryz.isAgg307
 z64:=Tryz.sizeOf307
 v64:=Tryz.zeroValue307}
open Go.Sort Go.RowKit in
theorem Tryz.slices_Sort_int(blk off cap:Nat)(zs:List Int)(w:World)(hH:Holds (Value.int .i64) w blk off zs.toArray)(hblk:blk<w.heap.size)(hsz:zs.length<4611686018427387904):
 Calls Tryz.prog 147 #[.slice (some ⟨blk,off,none⟩) zs.length cap] w fun e w'=>
  e= .returned (.tuple #[])/\∃n os,w'=grow (putRow (Value.int .i64) (Sort.ahead w n) blk off (zs.mergeSort fun x y=>decide (x<=y)).toArray) os:=AnyM.slices_Sort_int Tryz.laysSlM5_f147 blk off cap zs w hH hblk hsz
open Go.RowKit Go.Sort in
theorem Tryz.slices_Sort_int_none(p:Option Addr)(cap:Nat)(w:World):
 Calls Tryz.prog 147 #[.slice p 0 cap] w fun e w'=>e= .returned (.tuple #[])/\w'=w:=AnyM.slices_Sort_int_none Tryz.laysSlM5_f147 p cap w
end Go.Proofs
namespace Go.Proofs.YtjegnogjkddnbaaGreatDoor
namespace M
open Go Go.RowKit Rt
def strings_Join(_n:Nat)(l:List Rt.Bs)(sep:Rt.Bs):Option Rt.Bs:=if l.length<=140737488355328/\(Lib.join l sep).length<=140737488355328 then some (Lib.join l sep)else none
def strings_Repeat(_n:Nat)(s:Rt.Bs)(c:Int):Option Rt.Bs:=if 0<=c/\c<=9223372036854775807/\s.length*c.toNat<=140737488355328 then some (Lib.repeatL s c.toNat)else none
def strconv_Itoa(_n:Nat)(x:Int):Option Rt.Bs:=if-9223372036854775808<=x/\x<=9223372036854775807 then some (Lib.itoa x)else none
def AsciiAt(F:Frz)(b:Nat)(set:Rt.Bs):Prop:=FC F b 0 (Lib.setCells set).toList
theorem AsciiAt.mono{F F':Frz}{b:Nat}{set:Rt.Bs}(hF:F.le F')(h:AsciiAt F b set):AsciiAt F' b set:=FC.mono hF h
def asciiSet_contains(_n:Nat)(set:Rt.Bs)(c:Int):Option Bool:=if 0<=c/\c<256 then some (set.contains (UInt8.ofNat c.toNat))else none
theorem a3f(n:Nat)(set:Rt.Bs)(c:Int)(r:Bool)(hm:asciiSet_contains n set c=some r){w:World}{F:Frz}(hs:Sat F w){b:Nat}(ho:AsciiAt F b set):
 Calls Tryz.prog 238 #[.pointer (some ⟨b,0,none⟩),.int .u8 c] w fun e w'=>e= .returned (.bool r)/\w'=w:=by
 unfold asciiSet_contains at hm;split at hm
 ·rename_i h;cases hm;obtain⟨p,rfl⟩:=Int.eq_ofNat_of_zero_le h.1;have hp:p<256:=by omega
  have e:(UInt8.ofNat p).toNat=p:=by simp;omega
  have hcell:(Lib.setCells set).toList[p]?=some (.bool (set.contains (UInt8.ofNat p))):=by
   have:=Lib.setCells_at set (UInt8.ofNat p);rw [e]at this;rw [Array.getElem?_toList];exact this
  have h2:=Tryz.asciiSet_contains b (UInt8.ofNat p) (set.contains (UInt8.ofNat p)) w (by
   rw [e];have:=ho.cell hs hcell;simpa using this)
  rw [e]at h2;simpa using h2
 cases hm
end M
namespace MT
open Go Go.RowKit Rt M
theorem u9:Tryz.prog.underlying 9=some .string:=by kernel_rfl
theorem ent238:Ent Tryz.prog 238:=fun _ _=>by kernel_rfl
def strings_trimLeftASCII_L1(n:Nat)(asx1:Rt.Bs)(kq1:Bs->Option Bs):Nat->Bs->Option Bs |0,_=>none |mx1+1,s2=> bif decide (0<(s2.length:Int))then (sidx s2 0).bind fun c1=> (asciiSet_contains n asx1 c1).bind fun v1=> bif !v1 then kq1 s2 else (ssl s2 1 s2.length).bind fun t1=> strings_trimLeftASCII_L1 n asx1 kq1 mx1 t1 else kq1 s2
theorem strings_trimLeftASCII_L1_s:type_of% @strings_trimLeftASCII_L1.eq_2:= @strings_trimLeftASCII_L1.eq_2
def strings_trimLeftASCII(n:Nat)(s1:Bs)(asx1:Rt.Bs):Option Bs:= strings_trimLeftASCII_L1 n asx1 (fun(s3:Bs)=> some s3) n s1
set_option maxHeartbeats 1000000 in
set_option maxRecDepth 1000000 in
theorem strings_trimLeftASCII_ok(n:Nat)(s1:Bs)(asx1:Rt.Bs)(r:Bs)(hm:strings_trimLeftASCII n s1 asx1=some r){w:World}{F:Frz}(hs:Sat F w){basx1:Nat}(hoasx1:AsciiAt F basx1 asx1):
 Calls Tryz.prog 185 #[vs s1,.pointer (some ⟨basx1,0,none⟩)] w fun e w'=>e= .returned (vs r)/\w'=w:=by
 unfold strings_trimLeftASCII at hm;have h:=HS.init hs;refine b7e (args:= [vs s1,.pointer (some ⟨basx1,0,none⟩)]) 16 Tryz.func185 rfl rfl rfl ?_;refine a3x (a1k (a3h rfl rfl rfl (a7h (a1z (a3x (b7d ?_))))));intro a hax3;obtain⟨kq1,hkont1⟩:∃kq1:Bs->Option Bs,kq1=(fun(s3:Bs)=>
  some s3):=⟨_,rfl⟩
 replace hm:(fun m(s:Bs)=>strings_trimLeftASCII_L1 n asx1 kq1 m s) n s1=some r:=by rw [hkont1];exact hm
 refine e9o (id:=0) (fun m(s:Bs)=>strings_trimLeftASCII_L1 n asx1 kq1 m s) (fun(y:Bs)=>kq1 y) r (fun(s:Bs)a w'=>w=w'/\Has 16 a [(0,vs s),(1,.pointer (some ⟨basx1,0,none⟩))]) (fun(y:Bs)a w'=>w=w'/\Has 16 a [(0,vs y)]) (fun _=>rfl) ?_ ?_ hm ⟨rfl,hax3.cut (l:= [0,1]) rfl⟩
 ·clear hm;rintro s3 a wx1 hm ⟨rfl,hax1⟩;rw [hkont1]at hm
  replace hm:=hm
  refine c4w (e:= .exit 0) hax1 ?_;refine b2k (a1z (a3x (a1k (a2a rfl rfl rfl (a3h rfl rfl rfl (a7h (a1z (e5t ?_))))))));refine d0s rfl rfl ?_;obtain rfl:=Option.some.inj hm;exact⟨rfl,rfl⟩
 clear hm hkont1;intro hk1 mx1 K ihx1;rintro s2 a wx2 hm ⟨rfl,hax2⟩;simp only [strings_trimLeftASCII_L1_s]at hm;refine c3d hax2 ?_;refine a3x (a3x (a1k (a2a rfl rfl rfl ?_)));refine b9v u9 rfl rfl rfl ?_;refine d0h rfl rfl rfl rfl rfl ?_;refine a7h (a1z ?_);rcases a6j hm with⟨hb1,hm⟩|⟨hb1,hm⟩
 ·refine b6k 7 rfl hb1 ?_;refine b8f rfl (b4f (a1z (b7d (a3x (a3x (a1k (a2a rfl rfl rfl (a2a rfl rfl rfl ?_))))))));obtain⟨c1,hc1,hm⟩:=bind_some hm;refine d9u u9 rfl rfl rfl rfl hc1 ?_;obtain⟨v1,hv1,hm⟩:=bind_some hm;refine b1c ent238 rfl rfl rfl rfl (a3f _ _ _ _ hv1 h.sat hoasx1) ?_;refine f0j rfl rfl rfl (a7h (a1z ?_));rcases a6j hm with⟨hb2,hm⟩|⟨hb2,hm⟩
  ·refine b6k 12 rfl hb2 ?_;refine b8f rfl (c4u (a1v ?_));refine b0e (by decide) ?_;refine a1v ?_;refine fun a ha=>hk1 s2 a _ hm ?_;exact⟨rfl,ha.cut (l:= [0]) rfl⟩
  refine b6k 12 rfl hb2 ?_;refine a9p rfl (b4f (a1z (a1k (a2a rfl rfl rfl ?_))));obtain⟨t1,hc2,hm⟩:=bind_some hm;refine e2a u9 rfl rfl rfl rfl hc2 ?_;refine a3h rfl rfl rfl (a7h (d3r ?_));refine e0y (fun a ha=>ihx1 t1 a _ hm ?_);exact⟨rfl,ha.cut (l:= [0,1]) rfl⟩
 refine b6k 7 rfl hb1 ?_;refine a9p rfl (c4u (a1v (a1v ?_)));refine fun a ha=>hk1 s2 a _ hm ?_;exact⟨rfl,ha.cut (l:= [0]) rfl⟩
def strings_trimRightASCII_L1(n:Nat)(asx1:Rt.Bs)(kq1:Bs->Option Bs):Nat->Bs->Option Bs |0,_=>none |mx1+1,s2=> bif decide (0<(s2.length:Int))then (sidx s2 (isub .i64 (s2.length:Int) 1)).bind fun c1=> (asciiSet_contains n asx1 c1).bind fun v1=> bif !v1 then kq1 s2 else (ssl s2 0 (isub .i64 (s2.length:Int) 1)).bind fun t1=> strings_trimRightASCII_L1 n asx1 kq1 mx1 t1 else kq1 s2
theorem strings_trimRightASCII_L1_s:type_of% @strings_trimRightASCII_L1.eq_2:= @strings_trimRightASCII_L1.eq_2
def strings_trimRightASCII(n:Nat)(s1:Bs)(asx1:Rt.Bs):Option Bs:= strings_trimRightASCII_L1 n asx1 (fun(s3:Bs)=> some s3) n s1
set_option maxHeartbeats 1000000 in
set_option maxRecDepth 1000000 in
theorem strings_trimRightASCII_ok(n:Nat)(s1:Bs)(asx1:Rt.Bs)(r:Bs)(hm:strings_trimRightASCII n s1 asx1=some r){w:World}{F:Frz}(hs:Sat F w){basx1:Nat}(hoasx1:AsciiAt F basx1 asx1):
 Calls Tryz.prog 186 #[vs s1,.pointer (some ⟨basx1,0,none⟩)] w fun e w'=>e= .returned (vs r)/\w'=w:=by
 unfold strings_trimRightASCII at hm;have h:=HS.init hs;refine b7e (args:= [vs s1,.pointer (some ⟨basx1,0,none⟩)]) 22 Tryz.func186 rfl rfl rfl ?_;refine a3x (a1k (a3h rfl rfl rfl (a7h (a1z (a3x (b7d ?_))))));intro a hax3;obtain⟨kq1,hkont1⟩:∃kq1:Bs->Option Bs,kq1=(fun(s3:Bs)=>
  some s3):=⟨_,rfl⟩
 replace hm:(fun m(s:Bs)=>strings_trimRightASCII_L1 n asx1 kq1 m s) n s1=some r:=by rw [hkont1];exact hm
 refine e9o (id:=0) (fun m(s:Bs)=>strings_trimRightASCII_L1 n asx1 kq1 m s) (fun(y:Bs)=>kq1 y) r (fun(s:Bs)a w'=>w=w'/\Has 22 a [(0,vs s),(1,.pointer (some ⟨basx1,0,none⟩))]) (fun(y:Bs)a w'=>w=w'/\Has 22 a [(0,vs y)]) (fun _=>rfl) ?_ ?_ hm ⟨rfl,hax3.cut (l:= [0,1]) rfl⟩
 ·clear hm;rintro s3 a wx1 hm ⟨rfl,hax1⟩;rw [hkont1]at hm
  replace hm:=hm
  refine c4w (e:= .exit 0) hax1 ?_;refine b2k (a1z (a3x (a1k (a2a rfl rfl rfl (a3h rfl rfl rfl (a7h (a1z (e5t ?_))))))));refine d0s rfl rfl ?_;obtain rfl:=Option.some.inj hm;exact⟨rfl,rfl⟩
 clear hm hkont1;intro hk1 mx1 K ihx1;rintro s2 a wx2 hm ⟨rfl,hax2⟩;simp only [strings_trimRightASCII_L1_s]at hm;refine c3d hax2 ?_;refine a3x (a3x (a1k (a2a rfl rfl rfl ?_)));refine b9v u9 rfl rfl rfl ?_;refine d0h rfl rfl rfl rfl rfl ?_;refine a7h (a1z ?_);rcases a6j hm with⟨hb1,hm⟩|⟨hb1,hm⟩
 ·refine b6k 7 rfl hb1 ?_;refine b8f rfl (b4f (a1z (b7d (a3x (a3x (a1k (a2a rfl rfl rfl (a2a rfl rfl rfl (a2a rfl rfl rfl ?_)))))))));refine b9v u9 rfl rfl rfl ?_;refine d0h rfl rfl rfl rfl rfl ?_;obtain⟨c1,hc1,hm⟩:=bind_some hm;refine d9u u9 rfl rfl rfl rfl hc1 ?_;obtain⟨v1,hv1,hm⟩:=bind_some hm;refine b1c ent238 rfl rfl rfl rfl (a3f _ _ _ _ hv1 h.sat hoasx1) ?_;refine f0j rfl rfl rfl (a7h (a1z ?_));rcases a6j hm with⟨hb2,hm⟩|⟨hb2,hm⟩
  ·refine b6k 15 rfl hb2 ?_;refine b8f rfl (c4u (a1v ?_));refine b0e (by decide) ?_;refine a1v ?_;refine fun a ha=>hk1 s2 a _ hm ?_;exact⟨rfl,ha.cut (l:= [0]) rfl⟩
  refine b6k 15 rfl hb2 ?_;refine a9p rfl (b4f (a1z (a1k (a2a rfl rfl rfl (a2a rfl rfl rfl ?_)))));refine b9v u9 rfl rfl rfl ?_;refine d0h rfl rfl rfl rfl rfl ?_;obtain⟨t1,hc2,hm⟩:=bind_some hm;refine e6a u9 rfl rfl rfl rfl hc2 ?_;refine a3h rfl rfl rfl (a7h (d3r ?_));refine e0y (fun a ha=>ihx1 t1 a _ hm ?_);exact⟨rfl,ha.cut (l:= [0,1]) rfl⟩
 refine b6k 7 rfl hb1 ?_;refine a9p rfl (c4u (a1v (a1v ?_)));refine fun a ha=>hk1 s2 a _ hm ?_;exact⟨rfl,ha.cut (l:= [0]) rfl⟩
end MT
namespace M
open Go Go.RowKit Rt
theorem zeroSet:b2v Tryz.prog 207 (.agg (Array.replicate 256 (.bool false))):=fun _=>by kernel_rfl
theorem sizeSet:a9f Tryz.prog 207 256:=fun _=>by kernel_rfl
theorem entSet:Ent Tryz.prog 184:=fun _ _=>by kernel_rfl
theorem entL:Ent Tryz.prog 185:=fun _ _=>by kernel_rfl
theorem entR:Ent Tryz.prog 186:=fun _ _=>by kernel_rfl
theorem uStr:Tryz.prog.underlying 9=some .string:=by kernel_rfl
def strings_Trim(n:Nat)(s1:Rt.Bs)(cutset1:Rt.Bs):Option Rt.Bs:= bif !(s1== [])&&(decide (2<=cutset1.length)&&(decide (cutset1.length<4294967281)&&cutset1.all fun b=>decide (b.toNat<128)))then (MT.strings_trimRightASCII n s1 cutset1).bind fun v1=> (MT.strings_trimLeftASCII n v1 cutset1).bind fun v2=> some v2 else none
set_option maxHeartbeats 1000000 in
set_option maxRecDepth 1000000 in
theorem strings_Trim_ok(n:Nat)(s1:Rt.Bs)(cutset1:Rt.Bs)(r:Rt.Bs)(hm:strings_Trim n s1 cutset1=some r){w:World}{F:Frz}(hs:Sat F w):
 Calls Tryz.prog 117 #[vs s1,vs cutset1] w fun e w'=>∃v F' O',e= .returned v/\HS F w [] F' O' w'/\(v=vs r/\O'= []):=by
 unfold strings_Trim at hm;rcases a6j hm with⟨hb,hm⟩|⟨_,hm⟩
 ·simp only [Bool.and_eq_true,Bool.not_eq_true',decide_eq_true_eq,List.all_eq_true]at hb;obtain⟨hs0,hc2,hc3,hc4⟩:=hb;have hc0:(cutset1== [])=false:=by cases cutset1 with
   |nil=>simp at hc2
   |cons=>rfl
  have hl1:((cutset1.length:Int)==1)=false:=by
   have:(cutset1.length:Int)≠1:=by omega
   simpa using this
  have h:=HS.init hs;refine b7e (args:= [vs s1,vs cutset1]) 43 Tryz.func117 rfl rfl rfl ?_;refine a3x ?_;refine a1k ?_;refine a3h rfl rfl rfl ?_;refine a7h ?_;refine a1z ?_;refine a3x ?_;refine a3x ?_;refine a1k ?_;refine a2a rfl rfl rfl ?_;refine f0a rfl rfl rfl rfl rfl ?_;refine a2a rfl rfl rfl ?_;refine f0b 9 rfl hs0 ?_;refine a2a rfl rfl rfl ?_;refine f0a rfl rfl rfl rfl rfl ?_;refine b0k rfl rfl rfl rfl ?_;refine a7h ?_;refine a1z ?_;refine b6k 12 rfl hc0 ?_;refine a9p rfl ?_;refine b4f ?_;refine a1z ?_;refine a3x ?_;refine a3x ?_;refine a1k ?_;refine a2a rfl rfl rfl ?_;refine b9v uStr rfl rfl rfl ?_;refine d0h rfl rfl rfl rfl rfl ?_;refine a2a rfl rfl rfl ?_;refine f0b 17 rfl hl1 ?_;refine e5b rfl (by decide) rfl ?_;refine e5b rfl (by decide) rfl ?_;refine e5b rfl (by decide) rfl ?_;refine b0k rfl rfl rfl rfl ?_;refine a7h ?_;refine a1z ?_;refine a9p rfl ?_;refine b4f ?_;refine a1z ?_;refine a3x ?_;refine a3x ?_;refine a1k ?_;refine a2a rfl rfl rfl ?_;refine d9m (first:= #[]) (cap:= #[]) (R:=fun v w'=>v= .tuple #[.agg (Lib.setCells cutset1),.bool true]/\w'=w.alloc (.cells (Lib.setCells cutset1) 207)) entSet rfl rfl rfl rfl ?_ ?_
  ·have h0:=Tryz.strings_makeASCIISet (fun w=>by kernel_rfl) ⟨cutset1.toArray⟩ w (by rw [a2k];exact hc3) (fun j b hj=>hc4 b (List.mem_of_getElem? (by simpa using hj)));simp only []at h0;refine Calls.mono (by simpa [vs]using h0) ?_;rintro e w' ⟨h1,h2⟩;exact⟨_,h1,rfl,h2⟩
  rintro v w1 ⟨rfl,rfl⟩;have h1:=h.grow (World.grownBy_alloc w (.cells (Lib.setCells cutset1) 207) none);refine a2a rfl rfl rfl ?_;refine b9d rfl rfl rfl rfl ?_;refine b9d rfl rfl rfl rfl ?_;refine e4u zeroSet rfl rfl rfl h1 ?_;intro b w2 h2;refine e4l (cs':=(Lib.setCells cutset1).toList) sizeSet rfl h2 rfl rfl (by simp [Value.cells,Lib.setCells_size]) (by have:=Lib.setCells_one cutset1;simpa [Value.cells,<-Array.all_toList]using this) (i:=0) rfl (by simp [Value.cells]) (by simp [Value.cells]) rfl ?_;intro w3 h3;refine a3h rfl rfl rfl ?_;refine a7h ?_;refine a1z ?_;refine a3x ?_;refine a1k ?_;refine a2a rfl rfl rfl ?_;refine a7h ?_;refine a1z ?_;refine b8f rfl ?_;have hA:AsciiAt (allF w3) b cutset1:=⟨_,_,_,h3.get (i:=0) rfl,by simp⟩
  obtain⟨v1,hv1,hm⟩:=bind_some hm;obtain⟨v2,hv2,hm⟩:=bind_some hm;refine a3x ?_;refine a1k ?_;refine a2a rfl rfl rfl ?_;refine b1c entR rfl rfl rfl rfl (MT.strings_trimRightASCII_ok _ _ _ _ hv1 (c3c _) hA) ?_;refine b1c entL rfl rfl rfl rfl (MT.strings_trimLeftASCII_ok _ _ _ _ hv2 (c3c _) hA) ?_;refine a3h rfl rfl rfl ?_;refine a7h ?_;refine a1z ?_;refine e5t ?_;refine c7l ?_;refine d0s rfl rfl ?_;obtain rfl:=Option.some.inj hm;exact⟨_,_,_,rfl,h3.pick [] (by decide) rfl,rfl,rfl⟩
 cases hm
end M
namespace Dp
open Go Go.RowKit Go.Proofs.YtjegnogjkddnbaaGreatDoor.Rt Go.Proofs
set_option linter.unusedVariables false
def xTrim:List VT->Option DV
 | [.str s,.str c]=>match M.strings_Trim (s.length+2) s c with
   |some r=>some (.v (.str r))
   |none=>none
 |_=>none
def intsQ:List VT->Option (List Int)
 | []=>some []
 | .int .i64 x::l=>match intsQ l with
   |some r=>some (x::r)
   |none=>none
 |_=>none
def xValues:List VT->Option DV | [.sl xs]=>some (.v (.clo 148 [] [.el (.agg [.sl xs]) 0])) |_=>none
def xSorted:List VT->Option DV
 | [.clo f [] [.el (.agg [.sl xs]) 0]]=>match Nat.beq f 148,intsQ xs with
   |true,some l=>okB (decide (l.length<1000000)) (.v (.sl ((l.mergeSort (fun x y=>decide (x<=y))).map (VT.int .i64))))
   |_,_=>none
 |_=>none
def extL:List (Nat×(List VT->Option DV)):= [(129,xItoa),(132,xJoin),(130,xRepeat),(178,xIndexByte),(116,xCutPrefix),(231,xIndexByte),(179,xAtoi),(117,xTrim),(79,xValues),(78,xSorted)]
def glL:List (Nat×VT):= [(5,.agg (Lib.pow10Tab.map (VT.int .u64))),(1,.ifc),(2,.ifc)]
def giL:List (Nat×IntKind):= []
def passL:List Nat:= [120,230,131]
def ownL:List Nat:= [120,119]
def clL:List Nat:= [174]
def spL(f:Nat):Option (Bool×TypeId×TypeId):=match Nat.beq f 197 with
 |true=>some (false,176,5)
 |false=>match Nat.beq f 134 with
  |true=>some (true,176,5)
  |false=>none
def cmpL:List (Nat×List Nat):= [(86,[0,0])]
theorem cmpL_ok:∀{t:Nat}{ks:List Nat},a0l t cmpL=some ks->eqsT Tryz.prog t=some ks:=fun{t ks}h=>by
 unfold cmpL a0l at h;cases ht:Nat.beq t 86 with
 |true=>
  rw [ht]at h;obtain rfl:=Nat.eq_of_beq_eq_true ht;cases h
  kernel_rfl
 |false=>rw [ht]at h;cases h
noncomputable def tt0:Ty Tryz.prog:=tyOf Tryz.prog glL giL (fun f=>memN f passL) (fun f=>memN f ownL) (fun f=>f1p Tryz.prog f) (fun _=>false) (fun f=>a0l f extL) true (fun f=>memN f clL) spL
noncomputable def tt:Ty Tryz.prog:={tt0 with eqs:=fun t=>a0l t cmpL}
structure Big where
 Sign:Int
 Digits:List Int
 deriving DecidableEq
structure Frac where
 P:Big
 Q:Big
 deriving DecidableEq
def eB(b:Big):VT:= .agg [N b.Sign,.sl (ns b.Digits)]
def eF(f:Frac):VT:= .agg [N f.P.Sign,.sl (ns f.P.Digits),N f.Q.Sign,.sl (ns f.Q.Digits)]
set_option linter.unusedVariables false
set_option maxHeartbeats 1000000 in
set_option maxRecDepth 100000 in
theorem b3u(b:Nat)(w:World)(h0:w.cell? ⟨b,0,none⟩=some (.pointer (some ⟨b,0,none⟩))):
 Calls Tryz.prog 197 #[.pointer (some ⟨b,0,none⟩)] w fun e w'=>e= .returned (.tuple #[])/\w'=w:=by
 obtain⟨j,hj,_⟩:=Option.map_eq_some_iff.1 (show(Tryz.prog.info? 176).map (·.size)=some 2 from by kernel_rfl)
 go_enter Tryz.func197,Tryz.ntmps197
 go_wp2
 rw [Lib.run_neq_ptr_same w _ (by kernel_rfl) hj]
 go_wp2
 go_end0
 exact⟨rfl,rfl⟩
set_option maxHeartbeats 1000000 in
set_option maxRecDepth 100000 in
theorem b2b(b:Nat)(w:World)(h0:w.cell? ⟨b,0,none⟩=some (.pointer none))(hsh:w.shape? b=some (176,2))(hfz:w.frozen? ⟨b,0,none⟩=false):
 Calls Tryz.prog 197 #[.pointer (some ⟨b,0,none⟩)] w fun e w'=>e= .returned (.tuple #[])/\w'=w.setCell ⟨b,0,none⟩ (.pointer (some ⟨b,0,none⟩)):=by
 obtain⟨j,hj,hjs⟩:=Option.map_eq_some_iff.1 (show(Tryz.prog.info? 176).map (·.size)=some 2 from by kernel_rfl)
 go_enter Tryz.func197,Tryz.ntmps197
 go_wp2
 rw [Lib.run_to_unsafe w ⟨b,0,none⟩ (by kernel_rfl) (by kernel_rfl) hj (by rw [hjs];decide) hsh (Nat.zero_lt_succ 1)];simp only [Result.andThen];rw [Oper.upon_value]
 go_wp2
 rw [run_callFunc_extern Tryz.func247 (by kernel_rfl) (by kernel_rfl) (by kernel_rfl) (e:=Extern.AbiNoEscape.same) (by kernel_rfl)];rw [Lib.run_noEscape];simp only [Result.andThen];rw [Oper.upon_value]
 go_wp2
 rw [Lib.run_from_unsafe w ⟨b,0,none⟩ (by kernel_rfl) (by kernel_rfl) hj hsh (by kernel_rfl)];simp only [Result.andThen];rw [Oper.upon_value]
 go_wp2
 go_end0
 exact⟨rfl,rfl⟩
set_option maxHeartbeats 1000000 in
set_option maxRecDepth 100000 in
theorem c7t{P:Program}{ρ:Go.Shelf.Ren}(L:Lays.n169 P ρ)(X:Builder.Extra P ρ)(b:Nat)(p:Value)(l:List UInt8)(w:World)(g cap:Nat)(cur:Array Value)(h0:l≠ [])
 (hbk:w.heap[b]?=some (.cells #[p,.slice (some ⟨g,0,none⟩) l.length cap] (ρ.t 72) (0,0))) (hg:w.heap[g]?=some (.cells cur (ρ.t 5) (0,0))) (hnc:l.length<=cap) (hcm:cap<=maxLen) (hcs:cur.size=cap*1) (htake:cur.toList.take l.length=Lib.byteCells l):
 Calls P (ρ.f 169) #[.pointer (some ⟨b,0,none⟩)] w fun e w'=>e= .returned (.string ⟨l.toArray⟩)/\w'=w.drew.freeze ⟨g,0,none⟩ l.length:=by
 have hl0:l.length≠0:=by simpa using h0
 have c1:w.drew.cell? ⟨b,1,none⟩=some (.slice (some ⟨g,0,none⟩) l.length cap):=by
  have:w.drew.heap[b]?=some (.cells #[p,.slice (some ⟨g,0,none⟩) l.length cap] (ρ.t 72) (0,0)):=hbk;rw [Lib.cell_of_heap this];rfl
 have hSD:(Builtin.unsafeSliceData_ #[(ρ.t 37)] (ρ.t 127) #[.slice (some ⟨g,0,none⟩) l.length cap]).run P w.drew= .ok (.pointer (some ⟨g,0,none⟩)) w.drew:=
  Lib.run_unsafeSliceData_row _ _ _ _ _ _ (by omega)
 have hUS:(Builtin.unsafeString_ #[(ρ.t 127),(ρ.t 3)] (ρ.t 9) #[.pointer (some ⟨g,0,none⟩),.int .i64 l.length]).run P w.drew= .ok (.string ⟨l.toArray⟩) (w.drew.freeze ⟨g,0,none⟩ l.length):=by
  refine Lib.run_unsafeString_row w.drew (ρ.t 127) (ρ.t 3) (ρ.t 9) (ρ.t 5) L.t127 X.cellsByte g cur.size (by have hg':w.drew.heap[g]?=some (.cells cur (ρ.t 5) (0,0)):=hg;simp [World.shape?,hg']) l h0 (by omega) (by unfold maxLen at hcm;omega) ?_;intro j x hx;have hj:j<l.length:=(List.getElem?_eq_some_iff.1 hx).1;have h1:(cur.toList.take l.length)[j]?=some (.int .u8 x.toNat):=by rw [htake];simp [Lib.byteCells,hx]
  rw [List.getElem?_take_of_lt hj,Array.getElem?_toList]at h1;have hg':w.drew.heap[g]?=some (.cells cur (ρ.t 5) (0,0)):=hg;rw [addr_add,Nat.zero_add,Lib.cell_of_heap hg'];exact h1
 have mixed:=L.mixed;have t72:=L.t72;have a72:=L.a72;have z72:=L.z72;have v72:=L.v72;have u72:=run_underlying L.t72;have t70:=L.t70;have a70:=L.a70;have z70:=L.z70;have v70:=L.v70;have u70:=run_underlying L.t70;have t37:=L.t37;have a37:=L.a37;have z37:=L.z37;have v37:=L.v37;have u37:=run_underlying L.t37;have t127:=L.t127;have a127:=L.a127;have z127:=L.z127;have v127:=L.v127;have u127:=run_underlying L.t127;have t3:=L.t3;have a3:=L.a3;have z3:=L.z3;have v3:=L.v3;have u3:=run_underlying L.t3;have t9:=L.t9;have a9:=L.a9;have z9:=L.z9;have v9:=L.v9;have u9:=run_underlying L.t9;have t5:=X.t5;have a5:=X.a5;have z5:=X.z5;have v5:=X.v5;have u5:=run_underlying X.t5
 go_enter L.f169,Body.n169_ntmps ρ
 go_wp2
 go_region_o
 all_goals (go_wp2;go_ret;exact⟨rfl,rfl⟩)
section
variable{P:Program}{T:Ty P}{F0:Frz}{w0:World}{X:List Nat}{W0 W:List OE}{H:DH}{F:Frz}{w:World}
theorem Rel.frzW(h:Rel T F0 w0 X W0 W H F w){i:Nat}{b:Blk}{o:OE}(h1:H[i]?=some b)(h2:W[i]?=some o){F':Frz}{w':World}(hle:F.le F')(hd:HD F0 w0 X F' ((ownW H W).set i OE.dum) w')(hz:FzE F' o):
 Rel T F0 w0 X W0 W (H.set i {b with fz:=true}) F' w'/\Ext W H F W (H.set i {b with fz:=true}) F':=by
 have hi:=(List.getElem?_eq_some_iff.1 h1).1;have hW:W.set i o=W:=by
  apply List.ext_getElem?;intro j;rw [List.getElem?_set];split
  ·rename_i hij;subst hij;rw [if_pos (List.getElem?_eq_some_iff.1 h2).1];exact h2.symm
  rfl
 have hx:Ext W H F W (H.set i {b with fz:=true}) F':=by
  refine⟨hle,fun j b0 e0 g1 g2=> ?_,fun j e0 g=>h.atW g⟩;have hp:=a0k (h.plain g2)
  by_cases hij:i=j
  ·subst hij;rw [h1]at g1;cases g1;exact⟨_,e0,List.getElem?_set_self hi,g2,Nat.le_refl _,fun _=>⟨hp,Nat.le_refl _,fun _ _=>rfl⟩,fun _ _ _ _=>hp,fun _ _ _ _=>hp⟩
  exact⟨b0,e0,by rw [List.getElem?_set_ne hij];exact g1,g2,Nat.le_refl _,fun _=>⟨hp,Nat.le_refl _,fun _ _=>rfl⟩,fun _ _ _ _=>hp,fun _ _ _ _=>hp⟩
 refine⟨⟨by simp [h.len],fun j b0 e0 g1 g2=> ?_,?_,h.gl.mono T hle,fun j e0 g=> ?_⟩,hx⟩
 ·by_cases hij:i=j
  ·subst hij;rw [List.getElem?_set_self hi]at g1;rw [h2]at g2;cases g1;cases g2;exact⟨(h.blk i b o h1 h2).1.ext hx,fun _=>hz⟩
  rw [List.getElem?_set_ne hij]at g1;obtain⟨k1,k2⟩:=h.blk j b0 e0 g1 g2;exact⟨k1.ext hx,fun hb=>(k2 hb).mono hle⟩
 ·have:=ownW_set (H:=H) (W:=W) i {b with fz:=true} o;rw [hW]at this;rw [this];exact hd
 obtain⟨b0,e1,g1,g2,g3,g4⟩:=h.lent j e0 g
 by_cases hij:i=j
 ·subst hij;rw [h1]at g1;cases g1;exact⟨_,e1,List.getElem?_set_self hi,g2,g3,g4⟩
 exact⟨b0,e1,by rw [List.getElem?_set_ne hij];exact g1,g2,g3,g4⟩
theorem HD.addF{O:List OE}(h:HD F0 w0 X F O w){b:Nat}{o:Obj}(hf:F b=none)(hn:∀e∈O,e.blk≠some b)(hb:w0.heap.size<=b∨b∈X)(ho:w.heap[b]?=some o):HD F0 w0 X (fun k=>if k=b then some o else F k) O w:=by
 refine⟨fun k o' hk=> ?_,fun k o' hk=> ?_,fun k hk=> ?_,h.own,fun e he k hk=> ?_,h.dis,h.os,h.tape,h.output,h.size,h.old⟩
 ·replace hk:(if k=b then some o else F k)=some o':=hk
  split at hk
  ·rename_i e1;subst e1;cases hk;exact ho
  exact h.sat k o' hk
 ·have:=h.le k o' hk;show(if k=b then some o else F k)=some o';split
  ·rename_i e1;subst e1;rw [hf]at this;cases this
  exact this
 ·by_cases e1:k=b
  ·subst e1;exact .inr hb
  exact h.new k (by simpa [e1]using hk)
 have h3:=h.sep e he k hk;have:k≠b:=fun e1=>hn e he (e1▸hk);exact⟨by simpa [this]using h3.1,h3.2⟩
theorem e7j{O:List OE}(h:HD F0 w0 X F O w){i:Nat}{e:OE}(hi:O[i]?=some e){b:Nat}(hb:e.blk=some b):∀x∈O.set i OE.dum,x.blk≠some b:=by
 intro x hx hk;obtain⟨j,hj⟩:=List.mem_iff_getElem?.1 hx;rw [List.getElem?_set]at hj;split at hj
 ·simp only [(List.getElem?_eq_some_iff.1 hi).1,if_true,Option.some.injEq]at hj;subst hj;simp [dum_blk]at hk
 rename_i hne;exact b0j h.dis hi hj hne hb hk
theorem b9u{F:Frz}:∀{xs:List VT}{l:Bs}{us:List Value},bytesV xs=some l->RowR (rpV 1) F us xs->us=Lib.byteCells l/\xs.length=l.length
 | [],l,us,h,hr=>by cases h;cases hr;exact⟨rfl,rfl⟩
 |x::xs,l,us,h,hr=>by
  obtain⟨cs,r,rfl,⟨u,rfl,⟨h1,h2⟩,h3⟩,h4⟩:=hr;unfold bytesV at h;split at h
  ·rename_i he;cases he
  ·rename_i y l' he;cases he;split at h
   ·rename_i hd;split at h
    ·rename_i q hq;cases h;obtain⟨rfl,k2⟩:=b9u hq h4;cases h3;have hd:=of_decide_eq_true hd;refine⟨?_,by simp [k2]⟩;unfold Lib.byteCells;rw [List.map_cons,<-hd];rfl
    cases h
   cases h
  cases h
theorem d6n{f:FuncId}{az:List DV}{us:List Value}(hf:f=197){T:Ty Tryz.prog}(hR:Rel T F0 w0 X W0 W H F w)(hc:ConcL W H F az us):a3p T F0 w0 X W0 W H F w f us (spO false 176 5 H az):=by
 subst hf;unfold spO;split
 ·rename_i i;obtain⟨u,r,rfl,⟨g,t,us0,hw,rfl⟩,rfl⟩:=hc;rw [a0j];unfold spB;split
  ·rename_i b hb;split
   ·rename_i t' c0 c1 hfz hob;split
    ·rename_i ht;obtain rfl:=Nat.eq_of_beq_eq_true ht;have hrel:=(hR.blk i b _ hb hw).1;rw [hob]at hrel;obtain⟨g',us,e1,e2,e3⟩:=hrel;cases e1;obtain⟨v0,r,rfl,k0,v1,r,rfl,k1,rfl⟩:=e2;have hown:=ownW_get hb hw;rw [hfz]at hown;have hg:w.heap[g]?=some (.cells [v0,v1].toArray 176 (0,0)):=hR.hd.get hown;have hent:Ent Tryz.prog 197:=fun _ _=>by kernel_rfl
     unfold spC;dsimp only;split
     ·obtain⟨rfl,_⟩:=k0;refine⟨hent,(b2b g w (by simp [World.cell?,hg]) (by simp [World.shape?,hg]) (by simp [World.frozen?,hg])).mono ?_⟩;rintro x w' ⟨rfl,rfl⟩;have hset:(w.setCell ⟨g,0,none⟩ (.pointer (some ⟨g,0,none⟩))).heap[g]?=some (.cells [.pointer (some ⟨g,0,none⟩),v1].toArray 176 (0,0)):=by
       simp [World.setCell,Array.getElem?_modify,hg]
      have hgr:w.grownBy (w.setCell ⟨g,0,none⟩ (.pointer (some ⟨g,0,none⟩))) (some g):=⟨rfl,rfl,rfl,by simp [World.setCell],fun k _ hk=>Below.heap_setCell _ _ _ _ (fun e=>hk (by simp [e]))⟩
      obtain⟨r1,r2⟩:=hR.set (i:=i) (b:=b) (b':={b with dr:=true,ob:= .box 176 [.bp i 0,c1]}) (e:= .box g 176 [.pointer none,v1]) (e':= .box g 176 [.pointer (some ⟨g,0,none⟩),v1]) hb hw hfz hfz (Nat.le_refl _)
       (fun _=>⟨⟨_,rfl⟩,Nat.le_refl _,fun _ k=>by rw [hob];rfl⟩) (fun _=>⟨_,rfl⟩) (fun h=>⟨h,⟨_,rfl⟩⟩) hgr hset (fun k hk=> .inl hk) (fun hx=>⟨g,_,rfl,⟨_,_,rfl,⟨g,_,_,List.getElem?_set_self (List.getElem?_eq_some_iff.1 hw).1,rfl⟩,_,_,rfl,k1.ext hx,rfl⟩,by simpa [Value.oneCell']using e3⟩)
      refine⟨_,rfl,W.set i (.box g 176 [.pointer (some ⟨g,0,none⟩),v1]),F,?_,?_,_,rfl,[],rfl,rfl⟩
      ·show Rel T F0 w0 X W0 _ (setN H i _) F _;rw [a1a];exact r1
      show Ext W H F _ (setN H i _) F;rw [a1a];exact r2
     ·rename_i j;cases hij:Nat.beq i j with
      |false=>trivial
      |true=>
       obtain rfl:=Nat.eq_of_beq_eq_true hij;obtain⟨g',t2,us2,h1,rfl⟩:=k0;rw [hw]at h1;cases h1;refine⟨hent,(b3u g w (by simp [World.cell?,hg])).mono ?_⟩;rintro x w' ⟨rfl,rfl⟩;exact⟨_,rfl,W,F,hR,hR.refl,_,rfl,[],rfl,rfl⟩
     trivial
    trivial
   trivial
  trivial
 trivial
theorem d1s{ρ:Go.Shelf.Ren}{P:Program}{T:Ty P}(L:Lays.n169 P ρ)(X':Builder.Extra P ρ)(hent:Ent P (ρ.f 169)){az:List DV}{us:List Value}(hR:Rel T F0 w0 X W0 W H F w)(hc:ConcL W H F az us):a3p T F0 w0 X W0 W H F w (ρ.f 169) us (spO true (ρ.t 72) (ρ.t 5) H az):=by
 unfold spO;split
 ·rename_i i;obtain⟨u,r,rfl,⟨g,t,us0,hw,rfl⟩,rfl⟩:=hc;rw [a0j];unfold spB;split
  ·rename_i b hb;split
   ·rename_i t' c0 c1 hfz hob;split
    ·rename_i ht;obtain rfl:=Nat.eq_of_beq_eq_true ht;have hrel:=(hR.blk i b _ hb hw).1;rw [hob]at hrel;obtain⟨g',us,e1,e2,e3⟩:=hrel;cases e1;obtain⟨v0,r,rfl,k0,v1,r,rfl,k1,rfl⟩:=e2;have hown:=ownW_get hb hw;rw [hfz]at hown;have hg:w.heap[g]?=some (.cells [v0,v1].toArray (ρ.t 72) (0,0)):=hR.hd.get hown;dsimp only;split
     ·rename_i j v;unfold spS1;split
      ·rename_i b2 hb2;obtain⟨q1,q2,q3⟩:=a5j hb2;split
       ·rename_i el q xs hob2;split
        ·rename_i hq;obtain⟨hq,hte⟩:=beqT hq;obtain rfl:=Nat.eq_of_beq_eq_true hq;obtain rfl:=Nat.eq_of_beq_eq_true hte;intro l hl;obtain⟨ad,m,n,rfl,b3,e3',p1,p2,p3,p4⟩:=k1;rw [q1]at p1;cases p1;obtain⟨el',q',us',rfl⟩:=p4 q2.symm;have hrel2:=(hR.blk j b2 _ q1 p2).1;rw [hob2]at hrel2;obtain⟨_,_,_,_,e4,hml,hrow⟩:=hrel2;cases e4;have hown2:=ownW_get q1 p2;rw [q3]at hown2;have hok:w.ownsRow 0 (ρ.t 5) 1 (.slice ad m n) m us':=hR.hd.get hown2;obtain⟨hl1,hl2⟩:bytesV xs=some l/\l≠ []:=by
          unfold c4d at hl;split at hl
          ·rename_i hb;cases hl;exact⟨hb,by simp⟩
          cases hl
         obtain⟨rfl,hll⟩:=b9u hl1 hrow;have hm:m=l.length:=by omega
         have hl0:l.length≠0:=by simpa using hl2
         rcases hok.2 with⟨_,hz⟩|⟨g2,cap,cur,e1,_,hg2,e5,e6,e7,e8⟩
         ·omega
         simp only [Value.slice.injEq]at e1;obtain⟨rfl,_,rfl⟩:=e1;subst hm;have hs:=hR.hd.sep _ (List.mem_of_getElem? hown2) g2 rfl;refine⟨hent,(c7t L X' g v0 l w g2 n cur hl2 hg hg2 e5 e6 e7 (by simpa using e8)).mono ?_⟩;rintro x w' ⟨rfl,rfl⟩;have hgr:w.grownBy (w.drew.freeze ⟨g2,0,none⟩ l.length) (some g2):=by
          unfold World.freeze;rw [if_neg hl0];refine⟨rfl,rfl,rfl,by show _<=(Array.modify _ _ _).size;rw [Array.size_modify];exact Nat.le_refl _,fun k _ hk=> ?_⟩;have:g2≠k:=fun e=>hk (by rw [e]);show(Array.modify _ _ _)[k]?=_;rw [Array.getElem?_modify,if_neg this];rfl
         have hnew:(w.drew.freeze ⟨g2,0,none⟩ l.length).heap[g2]?=some (.cells cur (ρ.t 5) (0,l.length)):=by
          unfold World.freeze;rw [if_neg hl0];have hg3:w.drew.heap[g2]?=some (.cells cur (ρ.t 5) (0,0)):=hg2;show(Array.modify _ _ _)[g2]?=_;rw [Array.getElem?_modify,if_pos rfl,hg3];show some (Obj.cells _ _ (0,0+l.length))=_;rw [Nat.zero_add]
         have hd1:=hR.hd.upd hown2 (e':=OE.dum) hgr (c3m _) (by simp [dum_blk]);have hd2:=hd1.addF (b:=g2) hs.1 (e7j hR.hd hown2 rfl) hs.2 hnew;obtain⟨r1,r2⟩:=hR.frzW q1 p2 (a8w hs.1) hd2 ⟨e5,e6,by simp [Lib.byteCells],.inr ⟨g2,rfl,cur,ρ.t 5,(0,l.length),by simp,by rw [List.drop_zero,<-e8];exact List.take_prefix _ _⟩⟩;have hmk:markZ [j] H=H.set j {b2 with fz:=true}:=by
          unfold markZ;rw [a0j,q1];simp only [markZ,a1a]
         refine⟨_,rfl,W,fun k=>if k=g2 then some (.cells cur (ρ.t 5) (0,l.length))else F k,?_,?_,_,rfl,rfl⟩
         ·show Rel T F0 w0 X W0 W (markZ [j] H) _ _;rw [hmk];exact r1
         show Ext W H F W (markZ [j] H) _;rw [hmk];exact r2
        trivial
       trivial
      trivial
     trivial
    trivial
   trivial
  trivial
 trivial
end
end Dp
end Go.Proofs.YtjegnogjkddnbaaGreatDoor
namespace Go.Proofs
open Go.Shelf
def Tryz.sortedA_ren:Go.Shelf.Ren:=⟨fun|6=>78|8=>146|9=>147|11=>205|13=>207|12=>206|23=>263|24=>264|14=>254|15=>255|16=>256|17=>257|18=>258|19=>259|20=>260|21=>261|22=>262|25=>295|26=>296|27=>297|28=>298|29=>299|30=>274|31=>314|n=>n,fun|26=>3|28=>128|24=>30|0=>0|3=>3|37=>158|48=>246|50=>157|4=>4|40=>258|39=>257|45=>212|5=>5|9=>9|51=>284|55=>288|57=>306|58=>307|33=>185|n=>n,fun|n=>n⟩
theorem Tryz.sortedA:Go.Proofs.SlLaysZI.n6 Tryz.prog Tryz.sortedA_ren:={
 mixed:=by kernel_rfl
 f6:=⟨Tryz.f78.name,by decide,Tryz.func78.trans (congrArg some (by kernel_rfl))⟩
 f8:=⟨Tryz.f146.name,by decide,Tryz.func146.trans (congrArg some (by kernel_rfl))⟩
 f11:=⟨Tryz.f205.name,by decide,Tryz.func205.trans (congrArg some (by kernel_rfl))⟩
 t0:=Tryz.underlying0
 a0:=Tryz.isAgg0
 z0:=Tryz.sizeOf0
 v0:=Tryz.zeroValue0
 t24:=Tryz.underlying30
 a24:=Tryz.isAgg30
 z24:=Tryz.sizeOf30
 v24:=Tryz.zeroValue30
 t26:=Tryz.underlying3
 a26:=Tryz.isAgg3
 z26:=Tryz.sizeOf3
 v26:=Tryz.zeroValue3
 t28:=Tryz.underlying128
 a28:=Tryz.isAgg128
 z28:=Tryz.sizeOf128
 v28:=Tryz.zeroValue128
 i26:=by kernel_rfl}
def Tryz.sortA_ren:Go.Shelf.Ren:=⟨fun|5=>147|8=>207|7=>206|19=>263|20=>264|10=>254|11=>255|12=>256|13=>257|14=>258|15=>259|16=>260|17=>261|18=>262|30=>295|31=>296|32=>297|33=>298|34=>299|35=>274|40=>314|n=>n,fun|23=>30|25=>3|3=>3|32=>158|22=>30|0=>0|44=>246|46=>157|4=>4|36=>258|35=>257|41=>212|5=>5|9=>9|53=>284|57=>288|63=>306|64=>307|n=>n,fun|n=>n⟩
theorem Tryz.sortA:Go.Proofs.SlLaysM.n5 Tryz.prog Tryz.sortA_ren:={
 mixed:=by kernel_rfl
 f5:=⟨Tryz.f147.name,by decide,Tryz.func147.trans (congrArg some (by kernel_rfl))⟩
 f7:=⟨Tryz.f206.name,by decide,Tryz.func206.trans (congrArg some (by kernel_rfl))⟩
 f8:=Tryz.func207.trans (congrArg some (by kernel_rfl))
 f10:=⟨Tryz.f254.name,by decide,Tryz.func254.trans (congrArg some (by kernel_rfl))⟩
 f11:=⟨Tryz.f255.name,by decide,Tryz.func255.trans (congrArg some (by kernel_rfl))⟩
 f12:=⟨Tryz.f256.name,by decide,Tryz.func256.trans (congrArg some (by kernel_rfl))⟩
 f13:=⟨Tryz.f257.name,by decide,Tryz.func257.trans (congrArg some (by kernel_rfl))⟩
 f14:=⟨Tryz.f258.name,by decide,Tryz.func258.trans (congrArg some (by kernel_rfl))⟩
 f15:=⟨Tryz.f259.name,by decide,Tryz.func259.trans (congrArg some (by kernel_rfl))⟩
 f16:=⟨Tryz.f260.name,by decide,Tryz.func260.trans (congrArg some (by kernel_rfl))⟩
 f17:=⟨Tryz.f261.name,by decide,Tryz.func261.trans (congrArg some (by kernel_rfl))⟩
 f18:=⟨Tryz.f262.name,by decide,Tryz.func262.trans (congrArg some (by kernel_rfl))⟩
 f19:=Tryz.func263.trans (congrArg some (by kernel_rfl))
 f20:=Tryz.func264.trans (congrArg some (by kernel_rfl))
 f30:=⟨Tryz.f295.name,by decide,Tryz.func295.trans (congrArg some (by kernel_rfl))⟩
 f31:=Tryz.func296.trans (congrArg some (by kernel_rfl))
 f32:=Tryz.func297.trans (congrArg some (by kernel_rfl))
 f33:=⟨Tryz.f298.name,by decide,Tryz.func298.trans (congrArg some (by kernel_rfl))⟩
 f34:=⟨Tryz.f299.name,by decide,Tryz.func299.trans (congrArg some (by kernel_rfl))⟩
 f35:=⟨Tryz.f274.name,by decide,Tryz.func274.trans (congrArg some (by kernel_rfl))⟩
 f40:=⟨Tryz.f314.name,by decide,Tryz.func314.trans (congrArg some (by kernel_rfl))⟩
 t0:=Tryz.underlying0
 a0:=Tryz.isAgg0
 z0:=Tryz.sizeOf0
 v0:=Tryz.zeroValue0
 t3:=Tryz.underlying3
 a3:=Tryz.isAgg3
 z3:=Tryz.sizeOf3
 v3:=Tryz.zeroValue3
 t4:=Tryz.underlying4
 a4:=Tryz.isAgg4
 z4:=Tryz.sizeOf4
 v4:=Tryz.zeroValue4
 t5:=Tryz.underlying5
 a5:=Tryz.isAgg5
 z5:=Tryz.sizeOf5
 v5:=Tryz.zeroValue5
 t9:=Tryz.underlying9
 a9:=Tryz.isAgg9
 z9:=Tryz.sizeOf9
 v9:=Tryz.zeroValue9
 t22:=Tryz.underlying30
 a22:=Tryz.isAgg30
 z22:=Tryz.sizeOf30
 v22:=Tryz.zeroValue30
 t23:=Tryz.underlying30
 a23:=Tryz.isAgg30
 z23:=Tryz.sizeOf30
 v23:=Tryz.zeroValue30
 t25:=Tryz.underlying3
 a25:=Tryz.isAgg3
 z25:=Tryz.sizeOf3
 v25:=Tryz.zeroValue3
 t32:=Tryz.underlying158
 a32:=Tryz.isAgg158
 z32:=Tryz.sizeOf158
 v32:=Tryz.zeroValue158
 t35:=Tryz.underlying257
 a35:=Tryz.isAgg257
 z35:=Tryz.sizeOf257
 v35:=Tryz.zeroValue257
 t36:=Tryz.underlying258
 a36:=Tryz.isAgg258
 z36:=Tryz.sizeOf258
 v36:=Tryz.zeroValue258
 t41:=Tryz.underlying212
 a41:=Tryz.isAgg212
 z41:=Tryz.sizeOf212
 v41:=Tryz.zeroValue212
 t44:=Tryz.underlying246
 a44:=Tryz.isAgg246
 z44:=Tryz.sizeOf246
 v44:=Tryz.zeroValue246
 t46:=Tryz.underlying157
 a46:=Tryz.isAgg157
 z46:=Tryz.sizeOf157
 v46:=Tryz.zeroValue157
 t53:=Tryz.underlying284
 a53:=Tryz.isAgg284
 z53:=Tryz.sizeOf284
 v53:=Tryz.zeroValue284
 t57:=Tryz.underlying288
 a57:=Tryz.isAgg288
 z57:=Tryz.sizeOf288
 v57:=Tryz.zeroValue288
 t63:=Tryz.underlying306
 a63:=Tryz.isAgg306
 z63:=Tryz.sizeOf306
 v63:=Tryz.zeroValue306
 t64:=Tryz.underlying307
 a64:=Tryz.isAgg307
 z64:=Tryz.sizeOf307
 v64:=Tryz.zeroValue307}
end Go.Proofs
namespace Go.Proofs
open Go.RowKit Go.Maps Go.Sort Go.Shelf
set_option linter.unusedVariables false
set_option maxRecDepth 100000
set_option maxHeartbeats 2000000
set_option linter.unusedSimpArgs false
theorem Tryz.vals_in(F:Fence)(n:Nat)(hf:F.fn 148)(hro:F.round=none)(hn:1<=n)(l cap:Nat)(q:Addr)(p:Option Addr)(xs:List Int)(hlen:xs.length<1000000)(J:List Int->World->Prop)
 (hC:∀ss W,J ss W->W.cell? q=some (.slice p xs.length cap)/\∀i x,xs[i]?=some x->∃a,p=some a/\W.cell? (a.add i)=some (.int .i64 x))
 (hY:∀pre x W,J pre W->pre.length<xs.length->YieldAt F (n-1) Tryz.prog l #[encZ x] W fun e W'=>e= .returned (.bool true)/\J (pre++ [x]) W'/\KeepsWalks W W')
 (W:World) (hJ:AbidesFrom W.heap.size J) (h0:J [] W):
 CallsIn F n Tryz.prog 148 #[.func (.yield l) #[] #[],.pointer (some q)] W fun e W'=>(∃v,e= .returned v)/\J xs W':=by
 refine callsIn_of_wp Tryz.func148 rfl hf ?_ hro;obtain⟨c0,c1⟩:=hC [] W h0;simp only [Tryz.ntmps148,List.size_toArray,List.length_cons,List.length_nil,Nat.reduceAdd,Nat.reduceSub,Array.replicate_succ,Array.replicate_zero,List.push_toArray,List.append_toArray,List.nil_append,List.cons_append]
 gi_wp2
 gi_loopw [7] (fun vi wr=>∃i:Nat,vi= .int .i64 i/\i<=xs.length/\J (xs.take i) wr) (fun vi _=>xs.length-(match vi with| .int _ z=>z.toNat|_=>0))
 case atStart=>
  exact⟨0,rfl,Nat.zero_le _,h0⟩
 case round=>
  obtain⟨i,rfl,hi,hJi⟩:=hrel;obtain⟨d0,d1⟩:=hC _ _ hJi
  by_cases hlt:i<xs.length
  ·have hx:=List.getElem?_eq_getElem hlt;generalize xs[i]=x at hx;obtain⟨a,rfl,ha⟩:=d1 i x hx;obtain⟨fn,tmps,assign,body,hy,hR⟩:=hY (xs.take i) x wr hJi (by simp;omega);have ht:xs.take (i+1)=xs.take i++ [x]:=by rw [List.take_add_one,hx];rfl
   gi_wp2
   refine hR.mono ?_;rintro e W3 ⟨rfl,hJ3,hk3⟩
   gi_wp2
   go_roundw
   case rel=>exact⟨i+1,by simp,hlt,by rw [ht];exact hJ3⟩
   case measure=>
    show xs.length-((i:Int)+1).toNat<xs.length-(i:Int).toNat;omega
  gi_wp2
  go_end0
  obtain rfl:i=xs.length:=by omega
  exact⟨⟨_,rfl⟩,by rwa [List.take_length]at hJi⟩
structure Tryz.AtBox(q:Addr)(cap:Nat)(p:Option Addr)(xs:List Int)(w:World):Prop where
 lt:q.block<w.heap.size
 box:w.cell? q=some (.slice p xs.length cap)
 el:∀i x,xs[i]?=some x->∃a,p=some a/\(a.add i).block<w.heap.size/\w.cell? (a.add i)=some (.int .i64 x)
 len:xs.length<1000000
theorem Tryz.AtBox.later{q:Addr}{cap:Nat}{p:Option Addr}{xs:List Int}{w W:World}(h:Tryz.AtBox q cap p xs w)(hb:Below w.heap.size w W):Tryz.AtBox q cap p xs W:=
 ⟨Nat.lt_of_lt_of_le h.lt hb.size,(hb.cell (p:=q) h.lt).trans h.box,fun i x hx=>by
   obtain⟨a,h1,h2,h3⟩:=h.el i x hx;exact⟨a,h1,Nat.lt_of_lt_of_le h2 hb.size,(hb.cell (p:=a.add i) h2).trans h3⟩,h.len⟩
theorem Tryz.append_in(F:Fence)(n:Nat)(h11:F.fn 205)(hFg:F.fn 148)(hro:F.round=none)(hn:2<=n)(q:Addr)(cap:Nat)(p:Option Addr)(xs:List Int)(w:World)(hA:Tryz.AtBox q cap p xs w):
 CallsIn F n Tryz.prog 205 #[.slice none 0 0,.func (.func 148) #[] #[.pointer (some q)]] w fun e w'=>∃v,e= .returned v/\w'.ownsRow w.heap.size 3 1 v xs.length (xs.map encZ)/\(v= .slice none 0 0↔xs= [])/\Below w.heap.size w w':=by
 have L:SlLaysZI.n11 Tryz.prog Tryz.sortedA_ren:={Tryz.sortedA with}
 have eg:∀args w,(callFunc 148 args).run Tryz.prog w= .ok (.enter 148 args) w:=enters_of Tryz.func148 (by kernel_rfl) rfl;have hlen:=hA.len;refine callsIn_of_wp_marks Tryz.func205 rfl h11 ?_ hro;simp only [Tryz.ntmps205,List.size_toArray,List.length_cons,List.length_nil,Nat.reduceAdd,Nat.reduceSub,Array.replicate_succ,Array.replicate_zero,List.push_toArray,List.append_toArray,List.nil_append,List.cons_append]
 gi_wp2
 refine wpIn_rangeFunc ?_;intro fn hfn;rw [hro];obtain⟨W0,hW0⟩:∃W0,w.alloc (.cells #[.slice none 0 0] 30)=W0:=⟨_,rfl⟩
 have s0:W0.heap.size=w.heap.size+1:=by rw [<-hW0];simp
 have v0:W0.heap[w.heap.size]?=some (.cells #[.slice none 0 0] 30 (0,0)):=by rw [<-hW0];exact World.alloc_heap_new w _
 have b0:Below w.heap.size w W0:=by rw [<-hW0];exact(Below.refl _ w).alloc (Nat.le_refl _) _
 rw [hW0]
 let rc:Obj:= .loop (AnyZI.apRec Tryz.sortedA_ren fn (.func (.func 148) #[] #[.pointer (some q)]) w.heap.size W0.heap.size .ready none)
 obtain⟨W1,hW1⟩:∃W1,(W0.alloc (.deferred (some []))).alloc rc=W1:=⟨_,rfl⟩
 have keep:∀k,k<W0.heap.size->W1.heap[k]?=W0.heap[k]?:=fun k hk=>by
  rw [<-hW1];exact(Below.heap_alloc _ _ k (by simp;omega)).trans (Below.heap_alloc _ _ k hk)
 have b1:Below w.heap.size w W1:=by rw [<-hW1];exact(b0.alloc b0.size _).alloc (by have:=b0.size;simp;omega) _
 have hl1:W1.heap[W0.heap.size+1]?=some rc:=by
  rw [<-hW1];have:=World.alloc_heap_new (W0.alloc (.deferred (some []))) rc
  rwa [World.size_alloc]at this
 have hd1:W1.heap[W0.heap.size]?=some (.deferred (some [])):=by rw [<-hW1];exact(Below.heap_alloc _ _ _ (by simp)).trans (World.alloc_heap_new W0 _)
 have hM:AnyZI.ApAt Tryz.sortedA_ren w fn (.func (.func 148) #[] #[.pointer (some q)]) w.heap.size (W0.heap.size+1) W0.heap.size [] W1:=
  ⟨⟨_,(keep w.heap.size (by omega)).trans v0,⟨rfl,.inl ⟨rfl,rfl⟩⟩,by simp⟩,hl1,hd1,b1⟩
 refine⟨W0.heap.size+1,[{target:= .collected W0.heap.size,args:= #[]}],W1,{target:= .fn (.func 148) #[.pointer (some q)],args:= #[.func (.yield (W0.heap.size+1)) #[] #[]]},W1,148,
  #[.func (.yield (W0.heap.size+1)) #[] #[],.pointer (some q)],W1,?_,?_,?_,?_,fun _=>by omega,?_⟩
 ·rw [<-hW1];exact run_enterLoop_outer _ _ _ _ _
 ·simp [resolve,go_sem]
 ·intro f' hf';simp [Target.leads]at hf';subst hf';exact hFg
 ·simp [invoke,go_sem,eg]
 have hyl:=fun pre x W hJ hl=>AnyZI.apYield L F (n-1-1) w fn hfn (.func (.func 148) #[] #[.pointer (some q)]) w.heap.size (W0.heap.size+1) W0.heap.size (by omega) (by omega) (by omega) (Nat.le_refl _) (by omega) xs.length (by unfold maxLen;omega) (by omega) pre x W hJ hl;refine(Tryz.vals_in F (n-1) hFg hro (by omega) (W0.heap.size+1) cap q p xs hlen _ (fun ss W hJ=>⟨(hA.later hJ.below).box,fun i x hx=> ?_⟩) hyl W1 (AnyZI.ap_abides _ _ _ _ _ _ _ _ b1.size) hM).mono ?_
 ·obtain⟨a,h1,_,h3⟩:=(hA.later hJ.below).el i x hx;exact⟨a,h1,h3⟩
 rintro e W2 ⟨⟨v',rfl⟩,h2⟩;obtain⟨v,hv,hrow,hnil⟩:=h2.box;have hend:=run_endLoop (P:=Tryz.prog) h2.L (by simp [AnyZI.apRec]);obtain⟨W3,hW3⟩:∃W3,W2.putObj (W0.heap.size+1) (.loop {AnyZI.apRec Tryz.sortedA_ren fn (.func (.func 148) #[] #[.pointer (some q)]) w.heap.size W0.heap.size .ready none with state:= .exhausted})=W3:=⟨_,rfl⟩
 rw [hW3]at hend;have g3:W2.grownBy W3 (some (W0.heap.size+1)):=by rw [<-hW3];exact grownBy_putObj_a _ _ _
 have v3:W3.heap[w.heap.size]?=some (.cells #[v] 30 (0,0)):=by rw [<-hW3];exact(World.putObj_heap_other (by omega)).trans hv
 have k3:W3.heap[W0.heap.size]?=some (.deferred (some [])):=by rw [<-hW3];exact(World.putObj_heap_other (by omega)).trans h2.K
 have r3:=hrow.kept g3 (ownsRow_ne_a hrow h2.L (fun cur e=>by cases e));have b3:Below w.heap.size w W3:=h2.below.grown g3 h2.below.size (fun k e=>by cases e;omega);obtain⟨hc3,hf3⟩:=cell_of_box_a v3;clear hW3;refine⟨none,W3,hend,?_⟩
 gi_wp2
 rw [<-s0];refine⟨by simp,.inl ⟨_,_,rfl,run_takeDeferred k3,?_⟩⟩;exact⟨_,results_tmp rfl _ _ _,v,rfl,r3.kept (grownBy_putObj_a _ _ _) (ownsRow_ne_a r3 k3 (fun cur e=>by cases e)),hnil,b3.grown (grownBy_putObj_a _ _ _) b3.size (fun k e=>by cases e;omega)⟩
theorem Tryz.collect_in(F:Fence)(n:Nat)(h8:F.fn 146)(h11:F.fn 205)(hFg:F.fn 148)(hro:F.round=none)(hn:3<=n)(q:Addr)(cap:Nat)(p:Option Addr)(xs:List Int)(w:World)(hA:Tryz.AtBox q cap p xs w):
 CallsIn F n Tryz.prog 146 #[.func (.func 148) #[] #[.pointer (some q)]] w fun e w'=>∃v,e= .returned v/\w'.ownsRow w.heap.size 3 1 v xs.length (xs.map encZ)/\(v= .slice none 0 0↔xs= [])/\Below w.heap.size w w':=by
 have h1:1<=n:=by omega
 have e11:∀args w,(callFunc 205 args).run Tryz.prog w= .ok (.enter 205 args) w:=enters_of Tryz.func205 (by kernel_rfl) rfl;refine callsIn_of_wp Tryz.func146 rfl h8 ?_ hro;simp only [Tryz.ntmps146,List.size_toArray,List.length_cons,List.length_nil,Nat.reduceAdd,Nat.reduceSub,Array.replicate_succ,Array.replicate_zero,List.push_toArray,List.append_toArray,List.nil_append,List.cons_append]
 gi_wp2_with (gi_at_call 205;refine(Tryz.append_in F (n-1) h11 hFg hro (by omega) q cap p xs _ hA).mono ?_;rintro e w' ⟨v,rfl,hrow,hnil,hb⟩)
 go_ret
 exact⟨v,rfl,hrow,hnil,hb⟩
theorem Tryz.sorted_calls(q:Addr)(cap:Nat)(p:Option Addr)(xs:List Int)(w:World)(hA:Tryz.AtBox q cap p xs w):
 Calls Tryz.prog 78 #[.func (.func 148) #[] #[.pointer (some q)]] w fun e w'=>∃v,e= .returned v/\w'.ownsRow w.heap.size 3 1 v xs.length ((xs.mergeSort (fun x y=>decide (x<=y))).map encZ)/\(v= .slice none 0 0↔xs= [])/\Below w.heap.size w w':=by
 refine(callsIn_wide (n:=5)).1 ?_;have e8:∀args w,(callFunc 146 args).run Tryz.prog w= .ok (.enter 146 args) w:=enters_of Tryz.func146 (by kernel_rfl) rfl;have e9:∀args w,(callFunc 147 args).run Tryz.prog w= .ok (.enter 147 args) w:=enters_of Tryz.func147 (by kernel_rfl) rfl;have f8:Fence.wide.fn 146:=trivial;have f9:Fence.wide.fn 147:=trivial;have hlen:=hA.len;refine callsIn_of_wp Tryz.func78 rfl trivial ?_ rfl;simp only [Tryz.ntmps78,List.size_toArray,List.length_cons,List.length_nil,Nat.reduceAdd,Nat.reduceSub,Array.replicate_succ,Array.replicate_zero,List.push_toArray,List.append_toArray,List.nil_append,List.cons_append]
 gi_wp2_with (gi_at_call 146;refine(Tryz.collect_in Fence.wide 4 f8 trivial trivial rfl (by omega) q cap p xs _ hA).mono ?_;rintro e W ⟨v,rfl,hrow,hnil,hb⟩)
 rcases hrow.2 with⟨rfl,hz⟩|⟨gb,cap',cur,rfl,hbase,hgb,r1,r2,r3,r4⟩
 ·obtain rfl:xs= []:=List.eq_nil_of_length_eq_zero hz;have cN:CallsIn Fence.wide 4 Tryz.prog 147 #[.slice none 0 0] W fun e w'=>e= .returned (.tuple #[])/\w'=W:=callsIn_wide.2 (AnyM.slices_Sort_int_none Tryz.sortA none 0 W)
  gi_wp2_with (gi_at_call 147;refine cN.mono ?_;rintro e w' ⟨rfl,rfl⟩)
  go_ret
  exact⟨.slice none 0 0,rfl,by simpa using hrow,by simp,hb⟩
 have cS:=callsIn_wide (n:=4)|>.2 (AnyM.slices_Sort_int Tryz.sortA gb 0 cap' xs W (holds_of_blockI hgb (by simpa using r4)) (Array.getElem?_eq_some_iff.1 hgb).1 (by omega))
 change CallsIn Fence.wide 4 Tryz.prog 147 _ _ _ at cS
 gi_wp2_with (gi_at_call 147;refine cS.mono ?_;rintro e w' ⟨rfl,nn,os,rfl⟩)
 go_ret
 exact⟨_,rfl,ownsRow_sortedI (by simp) hbase hgb r1 r2 r3,hnil,hb.grown (grownBy_sortedI _) hb.size (fun j hj=>by cases hj;exact hbase)⟩
theorem Tryz.values_calls(p:Option Addr)(n c:Nat)(w:World):
 Calls Tryz.prog 79 #[.slice p n c] w fun e w'=>e= .returned (.func (.func 148) #[] #[.pointer (some ⟨w.heap.size,0,none⟩)])/\w'=w.alloc (.cells #[.slice p n c] 30):=by
 refine(callsIn_wide (n:=1)).1 ?_;refine callsIn_of_wp Tryz.func79 rfl trivial ?_ rfl;simp only [Tryz.ntmps79,List.size_toArray,List.length_cons,List.length_nil,Nat.reduceAdd,Nat.reduceSub,Array.replicate_succ,Array.replicate_zero,List.push_toArray,List.append_toArray,List.nil_append,List.cons_append]
 gi_wp2
 go_ret
 exact⟨rfl,rfl⟩
end Go.Proofs
