/- Several texts in one, for FormTells.card: what the theorem leans on. -/
import Derived.WalkKit
import Derived.LoopN
import Derived.Scope
import Derived.Lib.Strings
import Derived.Below
import Derived.Laws.StructEq
import Derived.Laws.BytesString
import Derived.Deep.Quiet
import Derived.OrdersHeld
import Derived.WideMake
import Derived.Laws.OwnMore
import Derived.Laws.Cover3
import Derived.Lib.ConvBytes
import Derived.Test.YthaegflpecbfgaaGreatDoorCards
import Derived.Test.YthaegflpecbfgaaGreatDoorTie
import Derived.ProofKit
import Derived.OpenShut
import Derived.Deep.DeepHandedRow
import Derived.Lib.LaidTab
import Derived.Stop.LaidErr
import Derived.Deep.Slices
import Derived.Laws.IdiomRangeMap
set_option maxHeartbeats 1000000
set_option maxRecDepth 1000000
set_option linter.unusedVariables false
set_option linter.unusedSimpArgs false
namespace Go.Proofs.YthaegflpecbfgaaGreatDoor
namespace Rt
open Go
theorem b_s {α β:Type _}(a:α)(f:α->Option β):(some a).bind f=f a:=rfl
abbrev Bs:=List UInt8
abbrev Env:=List (Nat×Value)
def vs(l:Bs):Value:= .string ⟨l.toArray⟩
theorem d8h(s:ByteArray):Value.string s=vs s.data.toList:=by unfold vs;rw [Lib.mk_data]
structure Has(n:Nat)(a:Act)(env:Env):Prop where
 size:a.tmps.size=n
 defers:a.defers= []
 get:∀k v,env.lookup k=some v->a.tmps[k]?=some v
def opv(env:Env):Operand->Option Value | .tmp t=>env.lookup t | .const v=>some v | .func f=>some (.func (.func f) #[] #[]) | .global g=>some (.pointer (some ⟨g,0,none⟩))
theorem Has.op{n:Nat}{a:Act}{env:Env}(h:Has n a env){x:Operand}{v:Value}(hx:opv env x=some v):a.eval x=v:=by
 cases x with
 |tmp t=>simp only [opv]at hx;simp [Act.eval,Array.getD_eq_getD_getElem?,h.get t v hx]
 |const u=>simp only [opv,Option.some.injEq]at hx;exact hx
 |global g=>simp only [opv,Option.some.injEq]at hx;exact hx
 |func f=>simp only [opv,Option.some.injEq]at hx;exact hx
theorem Has.put{n:Nat}{a:Act}{env:Env}(h:Has n a env){d:Nat}(hd:d<n)(v:Value):Has n (a.put (some d) v) ((d,v)::env):=by
 refine⟨by simp [Act.put,h.size],by simp [Act.put,h.defers],fun k u hk=> ?_⟩;rw [List.lookup_cons]at hk;simp only [Act.put];split at hk
 ·rename_i e;have e:k=d:=by simpa using e
  subst e;cases hk;simp [h.size,hd]
 rename_i e;have e:k≠d:=by simpa using e
 rw [Array.getElem?_setIfInBounds_ne (by omega)];exact h.get k u hk
theorem Has.mono{n:Nat}{a:Act}{env env':Env}(h:Has n a env)(he:∀k v,env'.lookup k=some v->env.lookup k=some v):Has n a env':=
 ⟨h.size,h.defers,fun k v hk=>h.get k v (he k v hk)⟩
def cut(env:Env):List Nat->Option Env
 | []=>some []
 |k::r=>match env.lookup k,cut env r with
  |some v,some e=>some ((k,v)::e)
  |_,_=>none
theorem Has.cut{n:Nat}{a:Act}{env:Env}(h:Has n a env):∀{l:List Nat}{e:Env},cut env l=some e->Has n a e
 | [],e,he=>by simp only [Rt.cut,Option.some.injEq]at he;subst he;exact⟨h.size,h.defers,fun k v hk=>by simp at hk⟩
 |k::r,e,he=>by
  simp only [Rt.cut]at he;split at he
  ·rename_i v e' hv he';cases he;have:=h.cut he';refine⟨h.size,h.defers,fun j u hj=> ?_⟩;rw [List.lookup_cons]at hj;split at hj
   ·rename_i e;have e:j=k:=by simpa using e
    subst e;cases hj;exact h.get _ _ hv
   exact this.get j u hj
  cases he
section
variable{P:Program}{Q:Exit->Act->World->Prop}{n:Nat}{env:Env}{w:World}
def CW(P:Program)(c:Code)(Q:Exit->Act->World->Prop)(n:Nat)(env:Env)(w:World):Prop:=∀a,Has n a env->c.wp P Q a w
def RW(P:Program)(ops:Array Oper)(Q:Exit->Act->World->Prop)(l:List Oper)(n:Nat)(env:Env)(w:World):Prop:=∀a,Has n a env->wpList P ops Q l a w
def QW(Q:Exit->Act->World->Prop)(e:Exit)(n:Nat)(env:Env)(w:World):Prop:=∀a,Has n a env->Q e a w
theorem a0h{x y:Code}(h:CW P x (Exit.then (y.wp P Q) Q) n env w):CW P (.seq x y) Q n env w:=fun a ha=>wp_seq (h a ha)
theorem a0b{id:Nat}{l:List Oper}(h:RW P l.toArray Q l n env w):CW P (.region id l.toArray false) Q n env w:=fun a ha=>wp_region_lit (h a ha)
theorem a3h{id:Nat}{c:Code}(h:CW P c (Exit.inBlock id Q) n env w):CW P (.block id c) Q n env w:=fun a ha=>wp_block (h a ha)
theorem a4q(h:QW Q .normal n env w):CW P .skip Q n env w:=fun a ha=>wp_skip (h a ha)
theorem e4i{l:Nat}(h:QW Q .normal n env w):CW P (.label l) Q n env w:=fun a ha=>wp_label (h a ha)
theorem b3j{id:Nat}(h:QW Q (.exit id) n env w):CW P (.exit id) Q n env w:=fun a ha=>wp_exit (h a ha)
theorem a7f(h:QW Q .ret n env w):CW P .ret Q n env w:=fun a ha=>wp_ret (h a ha)
theorem d9t{c:Code}(h:CW P c (Exit.noGoto Q) n env w):CW P (.scope c) Q n env w:=fun a ha=>wp_scope_straight (h a ha)
theorem a3p{c:Operand}{x y:Code}(hc:opv env c=some (.bool true))(h:CW P x Q n env w):CW P (.cond c x y) Q n env w:=fun a ha=>wp_cond_true (ha.op hc) (h a ha)
theorem a2e{c:Operand}{x y:Code}(hc:opv env c=some (.bool false))(h:CW P y Q n env w):CW P (.cond c x y) Q n env w:=fun a ha=>wp_cond_false (ha.op hc) (h a ha)
theorem a0d{x:Code}{Q':Exit->Act->World->Prop}(h:CW P x Q n env w):QW (Exit.then (x.wp P Q) Q') .normal n env w:=h
theorem a0z{id:Nat}{K:Act->World->Prop}(h:QW Q (.exit id) n env w):QW (Exit.then K Q) (.exit id) n env w:=h
theorem a1g{K:Act->World->Prop}(h:QW Q .ret n env w):QW (Exit.then K Q) .ret n env w:=h
theorem a7g{id:Nat}(h:QW Q .normal n env w):QW (Exit.inBlock id Q) .normal n env w:=h
theorem a2y{id:Nat}(h:QW Q .ret n env w):QW (Exit.inBlock id Q) .ret n env w:=h
theorem a3e{id:Nat}(h:QW Q .normal n env w):QW (Exit.inBlock id Q) (.exit id) n env w:=fun a ha=>by simpa [Exit.inBlock]using h a ha
theorem b7l{id j:Nat}(hj:j≠id)(h:QW Q (.exit j) n env w):QW (Exit.inBlock id Q) (.exit j) n env w:=fun a ha=>by simpa [Exit.inBlock,hj]using h a ha
theorem e8v(h:QW Q .normal n env w):QW (Exit.noGoto Q) .normal n env w:=h
theorem b1w(h:QW Q .ret n env w):QW (Exit.noGoto Q) .ret n env w:=h
theorem d0z{id:Nat}(h:QW Q (.exit id) n env w):QW (Exit.noGoto Q) (.exit id) n env w:=h
theorem a0f{ops:Array Oper}(h:QW Q .normal n env w):RW P ops Q [] n env w:=fun a ha=>wpList_nil (h a ha)
def isOn(ops:Array Oper)(env:Env):Option (Nat×Bool)->Bool
 |none=>true
 |some (j,b)=>match(ops[j]?).bind (·.dst)with
  |some t=>match env.lookup t with
   |some (.bool c)=>c==b
   |_=>false
  |none=>false
theorem b1e{ops:Array Oper}{a:Act}{o:Oper}(ha:Has n a env)(h:isOn ops env o.guard=true):Region.wanted o (yielded ops a.tmps)=true:=by
 unfold Region.wanted;cases hg:o.guard with
 |none=>rfl
 |some jb=>
  obtain⟨j,b⟩:=jb;simp only [hg,isOn]at h;simp only [yielded];cases hd:(ops[j]?).bind (·.dst)with
  |none=>simp [hd]at h
  |some t=>
   simp only [hd]at h;cases hl:env.lookup t with
   |none=>simp [hl]at h
   |some v=>
    have hg2:=ha.get t v hl;cases v<;>simp_all
def c9r(ops:Array Oper)(env:Env):Option (Nat×Bool)->Bool
 |none=>false
 |some (j,b)=>match(ops[j]?).bind (·.dst)with
  |some t=>match env.lookup t with
   |some (.bool c)=>c !=b
   |some _=>true
   |none=>false
  |none=>false
theorem c2p{ops:Array Oper}{a:Act}{o:Oper}(ha:Has n a env)(h:c9r ops env o.guard=true):Region.wanted o (yielded ops a.tmps)=false:=by
 unfold Region.wanted;cases hg:o.guard with
 |none=>simp [hg,c9r]at h
 |some jb=>
  obtain⟨j,b⟩:=jb;simp only [hg,c9r]at h;simp only [yielded];cases hd:(ops[j]?).bind (·.dst)with
  |none=>simp [hd]at h
  |some t=>
   simp only [hd]at h;cases hl:env.lookup t with
   |none=>simp [hl]at h
   |some v=>
    have hg2:=ha.get t v hl;cases v<;>simp_all
theorem a1o{ops:Array Oper}{o:Oper}{rest:List Oper}{d:Nat}(hd:o.dst=some d)(hn:d<n)(h:c9r ops env o.guard=true)
 (k:RW P ops Q rest n ((d,undef)::env) w):RW P ops Q (o::rest) n env w:=fun a ha=>by
 unfold wpList;rw [if_neg (by simp [c2p ha h]),hd];exact k _ (ha.put hn undef)
theorem a7r{ops:Array Oper}{o:Oper}{rest:List Oper}{d:Nat}{v:Value}(hd:o.dst=some d)(hn:d<n)(hg:isOn ops env o.guard=true)
 (hv:∀a,Has n a env->(execOp a.eval o).run P w= .ok (.value v) w) (k:RW P ops Q rest n ((d,v)::env) w):RW P ops Q (o::rest) n env w:=fun a ha=>by
 unfold wpList;rw [if_pos (b1e ha hg)];refine .inl ?_;unfold Oper.wp;rw [hv a ha,Oper.upon_value,hd];exact k _ (ha.put hn v)
theorem b5w{ops:Array Oper}{o:Oper}{rest:List Oper}{d:Nat}{v:Value}{w':World}(hd:o.dst=some d)(hn:d<n)(hg:isOn ops env o.guard=true)
 (hv:∀a,Has n a env->(execOp a.eval o).run P w= .ok (.value v) w') (k:RW P ops Q rest n ((d,v)::env) w'):RW P ops Q (o::rest) n env w:=fun a ha=>by
 unfold wpList;rw [if_pos (b1e ha hg)];refine .inl ?_;unfold Oper.wp;rw [hv a ha,Oper.upon_value,hd];exact k _ (ha.put hn v)
theorem e2j{ops:Array Oper}{o:Oper}{rest:List Oper}{w':World}(hd:o.dst=none)(hg:isOn ops env o.guard=true)
 (hv:∀a,Has n a env->(execOp a.eval o).run P w= .ok .skip w') (k:RW P ops Q rest n env w'):RW P ops Q (o::rest) n env w:=fun a ha=>by
 unfold wpList;rw [if_pos (b1e ha hg)];refine .inl ?_;unfold Oper.wp;rw [hv a ha,Oper.upon_skip,hd];exact k _ ha
theorem e9q{ops:Array Oper}{o:Oper}{rest:List Oper}{d:Nat}{f:FuncId}{args:Array Value}{R:Value->World->Prop}(hd:o.dst=some d)(hn:d<n)(hg:isOn ops env o.guard=true)
 (hv:∀a,Has n a env->(execOp a.eval o).run P w= .ok (.enter f args) w)
 (hc:Calls P f args w fun e w'=>∃v,e= .returned v/\R v w')
 (k:∀v w',R v w'->RW P ops Q rest n ((d,v)::env) w'):RW P ops Q (o::rest) n env w:=fun a ha=>by
 unfold wpList;rw [if_pos (b1e ha hg)];refine .inl ?_;unfold Oper.wp;rw [hv a ha,Oper.upon_enter];refine hc.mono ?_;rintro e w' ⟨v,rfl,hR⟩;rw [hd];exact k v w' hR _ (ha.put hn v)
theorem a4a{ops:Array Oper}{l:List Oper}(t:Nat){b c:Bool}(ht:env.lookup t=some (.bool b))(hb:b=c)(k:RW P ops Q l n ((t,.bool c)::env) w):RW P ops Q l n env w:=
 fun a ha=>k a ⟨ha.size,ha.defers,fun j v hj=>by
  rw [List.lookup_cons]at hj;split at hj
  ·rename_i e;have e:j=t:=by simpa using e
   subst e;cases hj;subst hb;exact ha.get _ _ ht
  exact ha.get _ _ hj⟩
theorem a2p{x:Code}(t:Nat){b c:Bool}(ht:env.lookup t=some (.bool b))(hb:b=c)(k:CW P x Q n ((t,.bool c)::env) w):CW P x Q n env w:=
 fun a ha=>k a ⟨ha.size,ha.defers,fun j v hj=>by
  rw [List.lookup_cons]at hj;split at hj
  ·rename_i e;have e:j=t:=by simpa using e
   subst e;cases hj;subst hb;exact ha.get _ _ ht
  exact ha.get _ _ hj⟩
def iadd(k:IntKind)(x y:Int):Int:=k.wrap (x+y)
def isub(k:IntKind)(x y:Int):Int:=k.wrap (x-y)
def imul(k:IntKind)(x y:Int):Int:=k.wrap (x*y)
def iand(k:IntKind)(x y:Int):Int:=k.wrap (BitVec.ofInt k.bits x&&&BitVec.ofInt k.bits y).toNat
def ior(k:IntKind)(x y:Int):Int:=k.wrap (BitVec.ofInt k.bits x|||BitVec.ofInt k.bits y).toNat
def ixor(k:IntKind)(x y:Int):Int:=k.wrap (BitVec.ofInt k.bits x^^^BitVec.ofInt k.bits y).toNat
def d6l(op:BinOp)(k:IntKind)(x y:Int):Option Value:=
 match op with
 | .add=>some (.int k (iadd k x y))
 | .sub=>some (.int k (isub k x y))
 | .mul=>some (.int k (imul k x y))
 | .and=>some (.int k (iand k x y))
 | .or=>some (.int k (ior k x y))
 | .xor=>some (.int k (ixor k x y))
 | .eql=>some (.bool (x==y))
 | .neq=>some (.bool (x !=y))
 | .lss=>some (.bool (decide (x<y)))
 | .leq=>some (.bool (decide (x<=y)))
 | .gtr=>some (.bool (decide (y<x)))
 | .geq=>some (.bool (decide (y<=x)))
 |_=>none
theorem c8h{op:BinOp}{k:IntKind}{x y:Int}{v:Value}{t:TypeId}(h:d6l op k x y=some v):(binOp op t (.int k x) (.int k y)).run P w= .ok v w:=by
 cases op<;>simp only [d6l,Option.some.injEq,reduceCtorEq]at h<;>subst h<;>simp [binOp,Op.intArith,Op.intBits,Op.intCmp,iadd,isub,imul,iand,ior,ixor]
theorem a2w{op:BinOp}{t:TypeId}{x y:Operand}{k k':IntKind}{a b:Int}:(eqGuard op t x y (.int k a) (.int k' b)).run P w= .ok () w:=by
 unfold eqGuard;split<;>simp
theorem b1y{op:BinOp}{t:TypeId}{x y:Operand}{a b:ByteArray}:(eqGuard op t x y (.string a) (.string b)).run P w= .ok () w:=by
 unfold eqGuard;split<;>simp
theorem b5v{op:BinOp}{t:TypeId}{x y:Operand}{a b:Bool}:(eqGuard op t x y (.bool a) (.bool b)).run P w= .ok () w:=by
 unfold eqGuard;split<;>simp
variable{ops:Array Oper}{rest:List Oper}{d:Nat}{g:Option (Nat×Bool)}{ty:TypeId}{pos:String}{es:Array Edge}
theorem a0a{x:Operand}{v:Value}(hg:isOn ops env g=true)(hn:Nat.blt d n=true)(hx:opv env x=some v)(k:RW P ops Q rest n ((d,v)::env) w):
 RW P ops Q (⟨some d,.move x,ty,pos,es,g⟩::rest) n env w:=
 a7r rfl (by simpa using hn) hg (fun a ha=>by simp [execOp,ha.op hx]) k
theorem a0c{x:Operand}{v:Value}(hg:isOn ops env g=true)(hn:Nat.blt d n=true)(hx:opv env x=some v)(k:RW P ops Q rest n ((d,v)::env) w):
 RW P ops Q (⟨some d,.assign x,ty,pos,es,g⟩::rest) n env w:=
 a7r rfl (by simpa using hn) hg (fun a ha=>by simp [execOp,ha.op hx]) k
theorem a0q{c x y:Operand}{v:Value}(hg:isOn ops env g=true)(hn:Nat.blt d n=true)(hc:opv env c=some (.bool true))(hx:opv env x=some v)(k:RW P ops Q rest n ((d,v)::env) w):
 RW P ops Q (⟨some d,.pick c x y,ty,pos,es,g⟩::rest) n env w:=
 a7r rfl (by simpa using hn) hg (fun a ha=>by simp [execOp,ha.op hx,ha.op hc,asBool]) k
theorem a0l{c x y:Operand}{v:Value}(hg:isOn ops env g=true)(hn:Nat.blt d n=true)(hc:opv env c=some (.bool false))(hx:opv env y=some v)(k:RW P ops Q rest n ((d,v)::env) w):
 RW P ops Q (⟨some d,.pick c x y,ty,pos,es,g⟩::rest) n env w:=
 a7r rfl (by simpa using hn) hg (fun a ha=>by simp [execOp,ha.op hx,ha.op hc,asBool]) k
theorem a1b{op:BinOp}{xt yt:TypeId}{x y:Operand}{i:IntKind}{m q:Int}{v:Value}(hg:isOn ops env g=true)(hn:Nat.blt d n=true)(hx:opv env x=some (.int i m))(hy:opv env y=some (.int i q))
 (hv:d6l op i m q=some v) (k:RW P ops Q rest n ((d,v)::env) w):RW P ops Q (⟨some d,.binOp op xt x y yt,ty,pos,es,g⟩::rest) n env w:=
 a7r rfl (by simpa using hn) hg (fun a ha=>by simp [execOp,ha.op hx,ha.op hy,a2w,c8h hv]) k
theorem e1g{xt:TypeId}{x:Operand}{b:Bool}(hg:isOn ops env g=true)(hn:Nat.blt d n=true)(hx:opv env x=some (.bool b))(k:RW P ops Q rest n ((d,.bool (!b))::env) w):
 RW P ops Q (⟨some d,.unOp .not xt x,ty,pos,es,g⟩::rest) n env w:=
 a7r rfl (by simpa using hn) hg (fun a ha=>by simp [execOp,ha.op hx,Op.unary]) k
theorem f5d{xt:TypeId}{x:Operand}{i:IntKind}{m:Int}(hg:isOn ops env g=true)(hn:Nat.blt d n=true)(hx:opv env x=some (.int i m))(k:RW P ops Q rest n ((d,.int i (i.wrap (0-m)))::env) w):
 RW P ops Q (⟨some d,.unOp .neg xt x,ty,pos,es,g⟩::rest) n env w:=
 a7r rfl (by simpa using hn) hg (fun a ha=>by simp [execOp,ha.op hx,Op.unary,Op.intArith]) k
end
def sidx(l:Bs)(i:Int):Option Int:=if 0<=i then(l[i.toNat]?).map fun b=>(b.toNat:Int)else none
def ssl(l:Bs)(lo hi:Int):Option Bs:=if 0<=lo/\lo<=hi/\hi<=l.length then some ((l.take hi.toNat).drop lo.toNat)else none
def scat(a b:Bs):Option Bs:=if a.length+b.length<=9223372036854775807 then some (a++b)else none
def quo(k:IntKind)(x y:Int):Option Int:=if y=0 then none else some (k.wrap (x.tdiv y))
def rem(x y:Int):Option Int:=if y=0 then none else some (x.tmod y)
def shl(k:IntKind)(x y:Int):Option Int:=if y<0 then none else some (k.wrap (x*2^(min y.toNat k.bits)))
def shr(k:IntKind)(x y:Int):Option Int:=if y<0 then none else some (x.fdiv (2^(min y.toNat k.bits)))
theorem bind_some{α β:Type}{x:Option α}{f:α->Option β}{r:β}(h:x.bind f=some r):∃a,x=some a/\f a=some r:=by
 cases x with
 |none=>cases h
 |some a=>exact⟨a,rfl,h⟩
theorem a0g{α:Type}{b:Bool}{x y:Option α}{r:α}(h:(bif b then x else y)=some r):(b=true/\x=some r)∨(b=false/\y=some r):=by
 cases b
 ·exact .inr ⟨rfl,h⟩
 exact .inl ⟨rfl,h⟩
theorem b9r(l:Bs):(⟨l.toArray⟩:ByteArray).size=l.length:=by simp [ByteArray.size]
theorem e3f(l:Bs):(⟨l.toArray⟩:ByteArray).toList=l:=by rw [Lib.toList_data]
theorem e0n(a b:Bs):Value.string ((⟨a.toArray⟩:ByteArray)++⟨b.toArray⟩)=vs (a++b):=by
 rw [d8h];simp
section
variable{P:Program}{Q:Exit->Act->World->Prop}{n:Nat}{env:Env}{w:World}
variable{opr:Array Oper}{rest:List Oper}{d:Nat}{g:Option (Nat×Bool)}{ty:TypeId}{pos:String}{es:Array Edge}
theorem d7e{xt:TypeId}(hu:P.underlying xt=some .string){l:Bs}{k:IntKind}{i c:Int}(h:sidx l i=some c):(Instr.index xt (vs l) (.int k i)).run P w= .ok (.int .u8 c) w:=by
 unfold sidx at h;split at h
 ·rename_i h0;simp only [Option.map_eq_some_iff]at h;obtain⟨b,hb,rfl⟩:=h;have hlt:i.toNat<l.length:=(List.getElem?_eq_some_iff.1 hb).1;have e:(⟨l.toArray⟩:ByteArray)[i.toNat]?=some b:=by
   rw [getElem?_pos _ _ (by rw [b9r];exact hlt)];have:=(List.getElem?_eq_some_iff.1 hb).2;rw [<-this];rfl
  simp [Instr.index,asIntOf,vs,underlying,hu,h0,e]
 cases h
theorem b2j{xt:TypeId}{x y:Operand}{l:Bs}{k:IntKind}{i c:Int}(hu:P.underlying xt=some .string)(hg:isOn opr env g=true)(hn:Nat.blt d n=true)(hx:opv env x=some (vs l))(hy:opv env y=some (.int k i))
 (hc:sidx l i=some c) (kk:RW P opr Q rest n ((d,.int .u8 c)::env) w):RW P opr Q (⟨some d,.index xt x y,ty,pos,es,g⟩::rest) n env w:=
 a7r rfl (by simpa using hn) hg (fun a ha=>by simp [execOp,ha.op hx,ha.op hy,d7e hu hc]) kk
theorem d5f{xt ty:TypeId}(hu:P.underlying xt=some .string)(l:Bs):(Builtin.len_ #[xt] ty #[vs l]).run P w= .ok (.int .i64 l.length) w:=by
 simp [Builtin.len_,vs,underlying,hu,goInt,b9r]
theorem b8k{xt:TypeId}{x:Operand}{l:Bs}(hu:P.underlying xt=some .string)(hg:isOn opr env g=true)(hn:Nat.blt d n=true)(hx:opv env x=some (vs l))
 (kk:RW P opr Q rest n ((d,.int .i64 l.length)::env) w):RW P opr Q (⟨some d,.call ⟨.builtin .len, #[x], #[xt]⟩,ty,pos,es,g⟩::rest) n env w:=
 a7r rfl (by simpa using hn) hg (fun a ha=>by simp [execOp,resolve,invoke,builtin,ha.op hx,d5f hu]) kk
theorem e7c(l:Bs)(a b:Nat):Value.string ((⟨l.toArray⟩:ByteArray).extract a b)=vs ((l.take b).drop a):=by
 rw [d8h,Lib.extract_data,List.drop_take]
theorem c4t{xt:TypeId}(hu:P.underlying xt=some .string){l:Bs}{lo hi:Int}{r:Bs}(h:ssl l lo hi=some r){a b:Option Value}
 (ha:a=some (.int .i64 lo)∨a=none/\lo=0) (hb:b=some (.int .i64 hi)∨b=none/\hi=l.length):(Instr.slice xt (vs l) a b none).run P w= .ok (vs r) w:=by
 unfold ssl at h;split at h
 ·rename_i hc;cases h;obtain⟨h0,h1,h2⟩:=hc;obtain⟨p,rfl⟩:=Int.eq_ofNat_of_zero_le h0;obtain⟨q,rfl⟩:=Int.eq_ofNat_of_zero_le (show 0<=hi by omega);have h1':p<=q:=by omega
  have h2':q<=l.length:=by omega
  have key:∀(a' b':Nat),(Result.ok (Value.string ((⟨l.toArray⟩:ByteArray).extract a' b')) w:Result Value)= .ok (vs ((l.take b').drop a')) w:=fun a' b'=>by rw [e7c]
  have e1:∀(c:BoundsCode)(y:Nat),q<=y->(Instr.sliceBound (.int .i64 (q:Int)) y c).run P w= .ok q w:=fun c y hy=>by simp [Instr.sliceBound,asIntOf,hy]
  have e2:∀(c:BoundsCode)(y:Nat),p<=y->(Instr.sliceBound (.int .i64 (p:Int)) y c).run P w= .ok p w:=fun c y hy=>by simp [Instr.sliceBound,asIntOf,hy]
  simp only [Int.toNat_natCast];rw [<-key];rcases ha with rfl|⟨rfl,hp⟩<;>rcases hb with rfl|⟨rfl,hq⟩
  ·simp [Instr.slice,Instr.sliceBounds,vs,underlying,hu,b9r,e1,e2,h1',h2']
  ·have hq:q=l.length:=by omega
   subst hq;simp [Instr.slice,Instr.sliceBounds,vs,underlying,hu,b9r,e2,h1']
  ·have hp:p=0:=by omega
   subst hp;simp [Instr.slice,Instr.sliceBounds,vs,underlying,hu,b9r,e1,h2']
  have hq:q=l.length:=by omega
  have hp:p=0:=by omega
  subst hq hp;have e3:(⟨l.toArray⟩:ByteArray)=(⟨l.toArray⟩:ByteArray).extract 0 l.length:=by
   have h3:=e7c l 0 l.length;simp only [List.take_length,List.drop_zero,vs,Value.string.injEq]at h3;exact h3.symm
  simp [Instr.slice,Instr.sliceBounds,vs,underlying,hu,<-e3]
 cases h
theorem b2r{xt:TypeId}(hu:P.underlying xt=some .string)(x:Value)(a b c:Option Value):(Instr.sliceAt xt x a b c).run P w=(Instr.slice xt x a b c).run P w:=by
 simp [Instr.sliceAt,underlying,hu]
theorem d4y{xt:TypeId}{x z:Operand}{l r:Bs}{hi:Int}(hu:P.underlying xt=some .string)(hg:isOn opr env g=true)(hn:Nat.blt d n=true)(hx:opv env x=some (vs l))(hz:opv env z=some (.int .i64 hi))
 (hc:ssl l 0 hi=some r) (kk:RW P opr Q rest n ((d,vs r)::env) w):RW P opr Q (⟨some d,.slice xt x none (some z) none,ty,pos,es,g⟩::rest) n env w:=
 a7r rfl (by simpa using hn) hg (fun a ha=>by simp [execOp,ha.op hx,ha.op hz,b2r hu,c4t hu hc (.inr ⟨rfl,rfl⟩) (.inl rfl)]) kk
def d1d(op:BinOp)(a b:Bs):Option Value:=
 match op with
 | .add=>(scat a b).map vs
 | .eql=>some (.bool (a==b))
 | .neq=>some (.bool (!(a==b)))
 | .lss=>some (.bool (Op.bytesLess a b))
 | .leq=>some (.bool (Op.bytesLess a b||a==b))
 | .gtr=>some (.bool (!(Op.bytesLess a b||a==b)))
 | .geq=>some (.bool (!(Op.bytesLess a b)))
 |_=>none
theorem c2i{op:BinOp}{t:TypeId}{a b:Bs}{v:Value}(h:d1d op a b=some v):(binOp op t (vs a) (vs b)).run P w= .ok v w:=by
 have hb:binOp op t (vs a) (vs b)=Op.stringOp op ⟨a.toArray⟩ ⟨b.toArray⟩:=by cases op<;>rfl
 rw [hb];cases op<;>simp only [d1d,Option.some.injEq,reduceCtorEq]at h
 case add=>
  unfold scat at h;split at h
  ·rename_i hl;cases h;have:¬(((⟨a.toArray⟩:ByteArray).size+(⟨b.toArray⟩:ByteArray).size:Nat):Int)>IntKind.i64.max:=by
    rw [b9r,b9r,show IntKind.i64.max=9223372036854775807 from by decide];omega
   unfold Op.stringOp;simp only [if_neg this];rw [<-e0n];rfl
  cases h
 all_goals subst h;simp only [Op.stringOp,e3f];rfl
theorem f2f{op:BinOp}{xt yt:TypeId}{x y:Operand}{p q:Bs}{v:Value}(hg:isOn opr env g=true)(hn:Nat.blt d n=true)(hx:opv env x=some (vs p))(hy:opv env y=some (vs q))
 (hv:d1d op p q=some v) (k:RW P opr Q rest n ((d,v)::env) w):RW P opr Q (⟨some d,.binOp op xt x y yt,ty,pos,es,g⟩::rest) n env w:=
 a7r rfl (by simpa using hn) hg (fun a ha=>by
  have e:(eqGuard op xt x y (vs p) (vs q)).run P w= .ok () w:=b1y;simp [execOp,ha.op hx,ha.op hy,e,c2i hv]) k
theorem f4f{xt yt:TypeId}{x y:Operand}{i:IntKind}{m q r:Int}(hg:isOn opr env g=true)(hn:Nat.blt d n=true)(hx:opv env x=some (.int i m))(hy:opv env y=some (.int i q))
 (hv:quo i m q=some r) (k:RW P opr Q rest n ((d,.int i r)::env) w):RW P opr Q (⟨some d,.binOp .quo xt x y yt,ty,pos,es,g⟩::rest) n env w:=
 a7r rfl (by simpa using hn) hg (fun a ha=>by
  unfold quo at hv;split at hv
  ·cases hv
  rename_i h0;cases hv;simp [execOp,ha.op hx,ha.op hy,a2w,binOp,Op.intDiv,h0]) k
theorem f3h{xt yt:TypeId}{x y:Operand}{i:IntKind}{m q r:Int}(hg:isOn opr env g=true)(hn:Nat.blt d n=true)(hx:opv env x=some (.int i m))(hy:opv env y=some (.int i q))
 (hv:rem m q=some r) (k:RW P opr Q rest n ((d,.int i r)::env) w):RW P opr Q (⟨some d,.binOp .rem xt x y yt,ty,pos,es,g⟩::rest) n env w:=
 a7r rfl (by simpa using hn) hg (fun a ha=>by
  unfold rem at hv;split at hv
  ·cases hv
  rename_i h0;cases hv;simp [execOp,ha.op hx,ha.op hy,a2w,binOp,Op.intDiv,h0]) k
theorem f2e{xt yt:TypeId}{x y:Operand}{i j:IntKind}{m q r:Int}(hg:isOn opr env g=true)(hn:Nat.blt d n=true)(hx:opv env x=some (.int i m))(hy:opv env y=some (.int j q))
 (hv:shl i m q=some r) (k:RW P opr Q rest n ((d,.int i r)::env) w):RW P opr Q (⟨some d,.binOp .shl xt x y yt,ty,pos,es,g⟩::rest) n env w:=
 a7r rfl (by simpa using hn) hg (fun a ha=>by
  unfold shl at hv;split at hv
  ·cases hv
  rename_i h0;cases hv;simp [execOp,ha.op hx,ha.op hy,a2w,binOp,Op.shift,h0]) k
theorem f1n{xt yt:TypeId}{x y:Operand}{i j:IntKind}{m q r:Int}(hg:isOn opr env g=true)(hn:Nat.blt d n=true)(hx:opv env x=some (.int i m))(hy:opv env y=some (.int j q))
 (hv:shr i m q=some r) (k:RW P opr Q rest n ((d,.int i r)::env) w):RW P opr Q (⟨some d,.binOp .shr xt x y yt,ty,pos,es,g⟩::rest) n env w:=
 a7r rfl (by simpa using hn) hg (fun a ha=>by
  unfold shr at hv;split at hv
  ·cases hv
  rename_i h0;cases hv;simp [execOp,ha.op hx,ha.op hy,a2w,binOp,Op.shift,h0]) k
theorem f2y{s t:TypeId}{x:Operand}{i j:IntKind}{m:Int}{ds:TypeDesc}(hs:P.underlying s=some ds)(ht:P.underlying t=some (.int j))(hg:isOn opr env g=true)(hn:Nat.blt d n=true)(hx:opv env x=some (.int i m))
 (k:RW P opr Q rest n ((d,.int j (j.wrap m))::env) w):RW P opr Q (⟨some d,.convert s t x,ty,pos,es,g⟩::rest) n env w:=
 a7r rfl (by simpa using hn) hg (fun a ha=>by simp [execOp,ha.op hx,convert,underlying,hs,ht,Conv.intToInt]) k
theorem a1f{x:Operand}{i:Nat}{vv:Array Value}{v:Value}(hg:isOn opr env g=true)(hn:Nat.blt d n=true)(hx:opv env x=some (.tuple vv))(hi:vv[i]?=some v)(k:RW P opr Q rest n ((d,v)::env) w):
 RW P opr Q (⟨some d,.extract x i,ty,pos,es,g⟩::rest) n env w:=
 a7r rfl (by simpa using hn) hg (fun a ha=>by simp [execOp,ha.op hx,Instr.extract,hi]) k
def opvs(env:Env):List Operand->Option (List Value)
 | []=>some []
 |x::r=>match opv env x,opvs env r with
  |some v,some l=>some (v::l)
  |_,_=>none
theorem Has.opvs{a:Act}(ha:Has n a env):∀{l:List Operand}{vl:List Value},Rt.opvs env l=some vl->l.map a.eval=vl
 | [],vl,h=>by simp only [Rt.opvs,Option.some.injEq]at h;subst h;rfl
 |x::r,vl,h=>by
  simp only [Rt.opvs]at h;split at h
  ·rename_i v l hv hl;cases h;simp [ha.op hv,ha.opvs hl]
  cases h
def Ent(P:Program)(f:FuncId):Prop:=∀args w,(callFunc f args).run P w= .ok (.enter f args) w
theorem d1o{c:Operand}{l:List Operand}{ts:Array TypeId}{f:FuncId}{first cap:Array Value}{vl:List Value}{R:Value->World->Prop}(he:Ent P f)(hg:isOn opr env g=true)(hn:Nat.blt d n=true)
 (hc:opv env c=some (.func (.func f) first cap)) (hl:opvs env l=some vl)
 (hC:Calls P f (first++vl.toArray++cap) w fun e w'=>∃v,e= .returned v/\R v w')
 (k:∀v w',R v w'->RW P opr Q rest n ((d,v)::env) w'):RW P opr Q (⟨some d,.call ⟨.value c,l.toArray,ts⟩,ty,pos,es,g⟩::rest) n env w:=
 e9q rfl (by simpa using hn) hg (fun a ha=>by
  have e:=he (first++(vl.toArray++cap)) w;have e2:(List.map a.eval l)=vl:=ha.opvs hl;simp [execOp,resolve,invoke,Deferred.ofValue,ha.op hc,e2,e]) hC k
theorem e2i{c:Operand}{l:List Operand}{ts:Array TypeId}{f:FuncId}{first cap:Array Value}{vl:List Value}{v:Value}(he:Ent P f)(hg:isOn opr env g=true)(hn:Nat.blt d n=true)
 (hc:opv env c=some (.func (.func f) first cap)) (hl:opvs env l=some vl)
 (hC:Calls P f (first++vl.toArray++cap) w fun e w'=>e= .returned v/\w'=w)
 (k:RW P opr Q rest n ((d,v)::env) w):RW P opr Q (⟨some d,.call ⟨.value c,l.toArray,ts⟩,ty,pos,es,g⟩::rest) n env w:=
 d1o (R:=fun u w'=>u=v/\w'=w) he hg hn hc hl (hC.mono fun e w' h=>⟨v,h.1,rfl,h.2⟩) (fun u w' h=>by obtain⟨rfl,rfl⟩:=h;exact k)
theorem a8t{c:Operand}{l:List Operand}{ts:Array TypeId}{f:FuncId}{vl:List Value}{v:Value}(he:Ent P f)(hg:isOn opr env g=true)(hn:Nat.blt d n=true)
 (hc:opv env c=some (.func (.func f) #[] #[])) (hl:opvs env l=some vl)
 (hC:Calls P f vl.toArray w fun e w'=>e= .returned v/\w'=w)
 (k:RW P opr Q rest n ((d,v)::env) w):RW P opr Q (⟨some d,.call ⟨.value c,l.toArray,ts⟩,ty,pos,es,g⟩::rest) n env w:=
 e2i he hg hn hc hl (by simpa using hC) k
def imin(x y:Int):Int:=if y<x then y else x
def PFn(P:Program)(fv:Value)(enc:List Value->Option Value->Prop):Prop:= ∃f first cap,fv= .func (.func f) first cap/\Ent P f/\∀args r w,enc args (some r)->Calls P f (first++args.toArray++cap) w fun e w'=>e= .returned r/\w'=w
theorem e9i{c:Operand}{l:List Operand}{ts:Array TypeId}{fv:Value}{enc:List Value->Option Value->Prop}{vl:List Value}{v:Value}(hf:PFn P fv enc)(hg:isOn opr env g=true)(hn:Nat.blt d n=true)
 (hc:opv env c=some fv) (hl:opvs env l=some vl) (hv:enc vl (some v))
 (k:RW P opr Q rest n ((d,v)::env) w):RW P opr Q (⟨some d,.call ⟨.value c,l.toArray,ts⟩,ty,pos,es,g⟩::rest) n env w:=by
 obtain⟨f,first,cap,rfl,he,hC⟩:=hf;exact e2i he hg hn hc hl (hC vl v w hv) k
theorem d7w{fn:Func}{R:Ending->World->Prop}{v:Value}(hr:∀a,Has n a env->(results fn a.tmps).run P w= .ok v w)(hR:R (.returned v) w):QW (bodyPost P fn R) .ret n env w:=
 fun a ha=>⟨ha.defers,v,hr a ha,hR⟩
theorem Has.tmp{a:Act}(ha:Has n a env){t:Nat}{v:Value}(h:env.lookup t=some v):a.tmps.getD t undef=v:=by
 simp [Array.getD_eq_getD_getElem?,ha.get t v h]
theorem b1h{fn:Func}{R:Ending->World->Prop}{t:Nat}{v:Value}(hf:fn.results= #[.tmp t])(h:env.lookup t=some v)(hR:R (.returned v) w):QW (bodyPost P fn R) .ret n env w:=
 d7w (fun a ha=>by rw [results_tmp hf,ha.tmp h]) hR
theorem a3c{f:FuncId}{fn:Func}{c:Code}{args:List Value}{R:Ending->World->Prop}(m:Nat)(hf:P.funcs[f]?=some fn)(hb:fn.body=some c)(hm:fn.ntmps=m)(hle:Nat.ble args.length m=true)
 (h:CW P c (bodyPost P fn R) m (args.zipIdx.map fun x=>(x.2,x.1)) w):Calls P f args.toArray w R:=by
 refine calls_of_wp hf hb (h _ ⟨?_,rfl,fun k v hk=> ?_⟩)
 ·have:=Nat.le_of_ble_eq_true hle;simp [hm];omega
 have key:∀(l:List Value)(o:Nat),((l.zipIdx o).map fun x=>(x.2,x.1)).lookup k=some v->o<=k/\l[k-o]?=some v:=by
  intro l;induction l with
  |nil=>intro o h;simp at h
  |cons b l ih=>
   intro o h;simp only [List.zipIdx_cons,List.map_cons,List.lookup_cons]at h;split at h
   ·rename_i e;have e:k=o:=by simpa using e
    subst e;cases h;simp
   rename_i e;have e:k≠o:=by simpa using e
   obtain⟨h1,h2⟩:=ih (o+1) h;refine⟨by omega,?_⟩;have e2:k-o=(k-(o+1))+1:=by omega
   rw [e2,List.getElem?_cons_succ];exact h2
 have:=(key args 0 hk).2;simp only [Nat.sub_zero]at this;have hlt:=(List.getElem?_eq_some_iff.1 this).1;simp only;rw [Array.getElem?_append_left (by simpa using hlt)];simpa using this
theorem loopR{σ R:Type}{c:Code}(L:Nat->σ->Option R)(r:R)(I:σ->Act->World->Prop)(h0:∀s,L 0 s=none)
 (hs:∀m(K:Act->World->Prop),(∀s a w,L m s=some r->I s a w->K a w)->∀s a w,L (m+1) s=some r->I s a w->c.wp P (Exit.then K Q) a w)
 {m:Nat} {s:σ} {a:Act} {w:World} (h:L m s=some r) (hi:I s a w):(Code.loop c).wp P Q a w:=by
 have key:∀m s a w,L m s=some r->I s a w->Code.rounds P c Q m a w:=by
  intro m;induction m with
  |zero=>intro s a w h;rw [h0]at h;cases h
  |succ m ih=>intro s a w h hi;exact hs m _ ih s a w h hi
 exact wp_loop_rounds m (key m s a w h hi)
theorem a4m{c:Code}{a:Act}(ha:Has n a env)(h:CW P c Q n env w):c.wp P Q a w:=h a ha
theorem a8h{e:Exit}{a:Act}(ha:Has n a env)(h:QW Q e n env w):Q e a w:=h a ha
theorem a2s{l:List Oper}{a:Act}(ha:Has n a env)(h:RW P opr Q l n env w):wpList P opr Q l a w:=h a ha
theorem f0a{x y:Code}(J:Act->World->Prop)(h2:∀a w',J a w'->y.wp P Q a w')(h1:CW P x (Exit.then J Q) n env w):CW P (.seq x y) Q n env w:=
 fun a ha=>wp_seq (Code.wp_mono (fun e a' w' hq=>by cases e<;>first|exact h2 _ _ hq|exact hq) (h1 a ha))
theorem d7u{J:Act->World->Prop}{l1 l2:List Oper}(h2:∀a w,J a w->wpList P opr Q l2 a w):∀{a:Act}{w:World},wpList P opr (Exit.then J Q) l1 a w->wpList P opr Q (l1++l2) a w:=by
 have hout:LetsOut (Exit.then J Q)->LetsOut Q:=fun⟨a,w,h⟩=>⟨a,w,h⟩
 have upon_mono:∀(o:Oper)(a:Act)(w:World)(N N':Act->World->Prop),(∀a w,N a w->N' a w)->o.wp P a w N (Exit.then J Q)->o.wp P a w N' Q:=by
  intro o a w N N' hN h;unfold Oper.wp at h⊢;cases hr:(execOp a.eval o).run P w with
  |ok x w'=>
   rw [hr]at h;cases x with
   |value v=>exact hN _ _ h
   |skip=>exact hN _ _ h
   |defer d=>exact hN _ _ h
   |enter f args=>
    refine Calls.mono h ?_;intro e w'' he;cases e with
    |returned v=>exact hN _ _ he
    |panicked chain=>exact he
    |outgrown=>exact hout he
   |row r args=>exact Rows.mono h fun v w'' hv=>hN _ _ hv
   |_=>exact h
  |halt x w'=>
   rw [hr]at h;cases x<;>exact h
 induction l1 with
 |nil=>intro a w h;exact h2 _ _ h
 |cons o l ih=>
  intro a w h;simp only [List.cons_append];unfold wpList at h⊢;split
  ·rename_i hw;rw [if_pos hw]at h;rcases h with h|⟨h1,h2⟩
   ·exact .inl (upon_mono o a w _ _ (fun a w=>ih) h)
   exact .inr ⟨h1,hout h2⟩
  rename_i hw;rw [if_neg hw]at h;exact ih h
theorem b0r{l:List Oper}(k:Nat)(J:Act->World->Prop)(h2:∀a w',J a w'->wpList P opr Q (l.drop k) a w')(h1:RW P opr (Exit.then J Q) (l.take k) n env w):RW P opr Q l n env w:=by
 intro a ha;rw [<-List.take_append_drop k l];exact d7u h2 (h1 a ha)
theorem c2k{σ τ R:Type}{c:Code}{id:Nat}(L:Nat->σ->Option R)(k:τ->Option R)(r:R)(I:σ->Act->World->Prop)(J:τ->Act->World->Prop)(h0:∀s,L 0 s=none)
 (hk:∀y a w,k y=some r->J y a w->Q (.exit id) a w)
 (hs:(∀y a w,k y=some r->J y a w->Q (.exit id) a w)->∀m(K:Act->World->Prop),(∀s a w,L m s=some r->I s a w->K a w)->∀s a w,L (m+1) s=some r->I s a w->c.wp P (Exit.then K Q) a w)
 {m:Nat} {s:σ} {a:Act} {w:World} (h:L m s=some r) (hi:I s a w):(Code.loop c).wp P Q a w:=loopR L r I h0 (hs hk) h hi
theorem a0w{K:Act->World->Prop}(h:∀a,Has n a env->K a w):QW (Exit.then K Q) .normal n env w:=h
end
end Rt
namespace Rt
open Go Go.RowKit
abbrev Frz:=Nat->Option Obj
def Frz.le(F F':Frz):Prop:=∀b o,F b=some o->F' b=some o
theorem Frz.refl(F:Frz):F.le F:=fun _ _ h=>h
theorem Frz.le.trans{F F' F'':Frz}(h:F.le F')(h':F'.le F''):F.le F'':=fun b o e=>h' b o (h b o e)
def Sat(F:Frz)(w:World):Prop:=∀b o,F b=some o->w.heap[b]?=some o
inductive OE where
 |box (b:Nat) (t:TypeId) (cs:List Value)
 |row (e:TypeId) (k:Nat) (a:Option Addr) (n c:Nat) (xs:List Value)
 |mp (b:Nat) (es:List MapEntry) (clock:Nat)
 |win (e:TypeId) (k:Nat) (a:Option Addr) (m c:Nat) (pre xs post:List Value)
 |it (b:Nat) (o:Obj)
def b6x(es:List MapEntry)(clock:Nat):Prop:=(es.map (·.born)).Nodup/\∀e,e∈es->e.born<clock
def OE.ok(w:World):OE->Prop | .box b t cs=>w.heap[b]?=some (.cells cs.toArray t (0,0)) | .row e k a n c xs=>w.ownsRow 0 e k (.slice a n c) n xs | .mp b es clock=>w.heap[b]?=some (.map es.toArray clock)/\b6x es clock | .it b o=>w.heap[b]?=some o | .win e k a m c pre xs post=>xs.length=m*k/\m<=c/\c<=maxLen/\(m=0∨∃b,a=some ⟨b,pre.length,none⟩/\w.heap[b]?=some (.cells (pre++xs++post).toArray e (0,0)))
def OE.blk:OE->Option Nat | .box b _ _=>some b | .row _ _ a n c _=>(Value.slice a n c).ownBlock | .mp b _ _=>some b | .it b _=>some b | .win _ _ a m _ _ _ _=>if m=0 then none else a.map (·.block)
theorem OE.lt{w:World}{e:OE}(h:e.ok w){b:Nat}(hb:e.blk=some b):b<w.heap.size:=by
 cases e with
 |box b' t cs=>simp only [OE.blk,Option.some.injEq]at hb;subst hb;exact(Array.getElem?_eq_some_iff.1 h).1
 |row e k a n c xs=>exact(World.ownsRow.lt h b hb).2
 |mp b' es clock=>simp only [OE.blk,Option.some.injEq]at hb;subst hb;exact(Array.getElem?_eq_some_iff.1 h.1).1
 |it b' o=>simp only [OE.blk,Option.some.injEq]at hb;subst hb;exact(Array.getElem?_eq_some_iff.1 h).1
 |win e k a m c pre xs post=>
  simp only [OE.blk]at hb;split at hb
  ·cases hb
  rename_i hm;rcases h.2.2.2 with h0|⟨b',rfl,h1⟩
  ·exact absurd h0 hm
  simp only [Option.map_some,Option.some.injEq]at hb;subst hb;exact(Array.getElem?_eq_some_iff.1 h1).1
theorem OE.kept{w w':World}{e:OE}{row:Option Nat}(h:e.ok w)(hg:w.grownBy w' row)(hne:∀b,e.blk=some b->some b≠row):e.ok w':=by
 cases e with
 |box b t cs=>show w'.heap[b]?=_;rw [hg.block b (OE.lt h rfl) (hne b rfl)];exact h
 |row e k a n c xs=>
  refine World.ownsRow.kept h hg ?_;cases hv:(Value.slice a n c).ownBlock with
  |none=>exact .inl rfl
  |some b=>exact .inr (hne b hv)
 |mp b es clock=>refine⟨?_,h.2⟩;show w'.heap[b]?=_;rw [hg.block b (OE.lt h rfl) (hne b rfl)];exact h.1
 |it b o=>show w'.heap[b]?=_;rw [hg.block b (OE.lt h rfl) (hne b rfl)];exact h
 |win e k a m c pre xs post=>
  refine⟨h.1,h.2.1,h.2.2.1,?_⟩;rcases h.2.2.2 with h0|⟨b,rfl,h1⟩
  ·exact .inl h0
  by_cases hm:m=0
  ·exact .inl hm
  refine .inr ⟨b,rfl,?_⟩;have hb:(OE.win e k (some ⟨b,pre.length,none⟩) m c pre xs post).blk=some b:=by simp [OE.blk,hm]
  rw [hg.block b (OE.lt h hb) (hne b hb)];exact h1
structure HS(F0:Frz)(w0:World)(X:List Nat)(F:Frz)(O:List OE)(w:World):Prop where
 sat:Sat F w
 le:F0.le F
 new:∀b,F b≠none->F0 b≠none∨w0.heap.size<=b
 own:∀e∈O,e.ok w
 sep:∀e∈O,∀b,e.blk=some b->F b=none/\(w0.heap.size<=b∨b∈X)
 dis:O.Pairwise fun e e'=>∀b,e.blk=some b->e'.blk≠some b
 os:w.os=w0.os
 tape:w.tape=w0.tape
 output:w.output=w0.output
 size:w0.heap.size<=w.heap.size
 old:∀b,b<w0.heap.size->b∉X->w.heap[b]?=w0.heap[b]?
theorem HS.init{F:Frz}{w:World}(h:Sat F w):HS F w [] F [] w:=
 ⟨h,Frz.refl F,fun _ h=> .inl h,by simp,by simp,List.Pairwise.nil,rfl,rfl,rfl,Nat.le_refl _,fun _ _ _=>rfl⟩
section
variable{F0 F:Frz}{w0 w:World}{X:List Nat}{O:List OE}
theorem HS.below(h:HS F0 w0 [] F O w):Below w0.heap.size w0 w:=⟨h.os,h.tape,h.output,h.size,fun k hk=>h.old k hk (by simp)⟩
theorem Sat.lt(h:Sat F w){b:Nat}(hb:F b≠none):b<w.heap.size:=by
 cases hf:F b with
 |none=>exact absurd hf hb
 |some o=>exact(Array.getElem?_eq_some_iff.1 (h b o hf)).1
theorem HS.upd(h:HS F0 w0 X F O w){i:Nat}{e e':OE}(hi:O[i]?=some e){w':World}(hg:w.grownBy w' e.blk)(he:e'.ok w')
 (hb:∀b,e'.blk=some b->e.blk=some b∨w.heap.size<=b):HS F0 w0 X F (O.set i e') w':=by
 obtain⟨hlt,hget⟩:=List.getElem?_eq_some_iff.1 hi;have hmem:e∈O:=hget▸List.getElem_mem hlt;have hsep:=h.sep e hmem;have hdis:∀j(hj:j<O.length),j≠i->∀b,O[j].blk=some b->e.blk≠some b:=by
  intro j hj hne b hb1 hb2;have hp:=List.pairwise_iff_getElem.1 h.dis;rcases Nat.lt_or_ge j i with hlt'|hge
  ·exact hp j i hj hlt hlt' b hb1 (hget▸hb2)
  exact hp i j hlt hj (by omega) b (hget▸hb2) hb1
 have hnew:∀j(hj:j<O.length),j≠i->∀b,O[j].blk=some b->e'.blk≠some b:=by
  intro j hj hne b hb1 hb2;rcases hb b hb2 with h1|h1
  ·exact hdis j hj hne b hb1 h1
  have:=OE.lt (h.own _ (List.getElem_mem hj)) hb1;omega
 refine⟨fun b o hf=> ?_,h.le,h.new,fun x hx=> ?_,fun x hx b hb'=> ?_,?_,hg.os.trans h.os,hg.tape.trans h.tape,hg.output.trans h.output,Nat.le_trans h.size hg.size,fun b hb' hx=> ?_⟩
 ·rw [hg.block b (h.sat.lt (by simp [hf])) (fun e1=>by have:=(hsep b e1.symm).1;simp [hf]at this)];exact h.sat b o hf
 ·obtain⟨j,hj,rfl⟩:=List.mem_iff_getElem.1 hx;rw [List.getElem_set];split
  ·exact he
  rename_i hne;have hj':j<O.length:=by simpa using hj
  exact OE.kept (h.own _ (List.getElem_mem hj')) hg fun b hb1 hb2=>hdis j hj' (by omega) b hb1 hb2.symm
 ·obtain⟨j,hj,rfl⟩:=List.mem_iff_getElem.1 hx;have hj':j<O.length:=by simpa using hj
  rw [List.getElem_set]at hb';split at hb'
  ·rcases hb b hb' with h1|h1
   ·exact hsep b h1
   refine⟨?_,.inl (Nat.le_trans h.size h1)⟩;cases hf:F b with
   |none=>rfl
   |some o=>have:=h.sat.lt (b:=b) (by simp [hf]);omega
  exact h.sep _ (List.getElem_mem hj') b hb'
 ·rw [List.pairwise_iff_getElem];intro p q hp hq hpq b hb1 hb2;have hp':p<O.length:=by simpa using hp
  have hq':q<O.length:=by simpa using hq
  rw [List.getElem_set]at hb1 hb2;split at hb1<;>split at hb2
  ·omega
  ·exact hnew q hq' (by omega) b hb2 hb1
  ·exact hnew p hp' (by omega) b hb1 hb2
  exact List.pairwise_iff_getElem.1 h.dis p q hp' hq' hpq b hb1 hb2
 rw [hg.block b (Nat.lt_of_lt_of_le hb' h.size) (fun e1=> ?_)]
 ·exact h.old b hb' hx
 rcases(hsep b e1.symm).2 with h1|h1
 ·omega
 exact hx h1
theorem HS.add(h:HS F0 w0 X F O w){e':OE}{w':World}(hg:w.grownBy w' none)(he:e'.ok w')
 (hb:∀b,e'.blk=some b->w.heap.size<=b):HS F0 w0 X F (e'::O) w':=by
 refine⟨fun b o hf=> ?_,h.le,h.new,fun x hx=> ?_,fun x hx b hb'=> ?_,?_,hg.os.trans h.os,hg.tape.trans h.tape,hg.output.trans h.output,Nat.le_trans h.size hg.size,fun b hb' hx=> ?_⟩
 ·rw [hg.block b (h.sat.lt (by simp [hf])) (by simp)];exact h.sat b o hf
 ·rcases List.mem_cons.1 hx with rfl|hx
  ·exact he
  exact OE.kept (h.own x hx) hg (by simp)
 ·rcases List.mem_cons.1 hx with rfl|hx
  ·refine⟨?_,.inl (Nat.le_trans h.size (hb b hb'))⟩;cases hf:F b with
   |none=>rfl
   |some o=>have:=h.sat.lt (b:=b) (by simp [hf]);have:=hb b hb';omega
  exact h.sep x hx b hb'
 ·refine List.pairwise_cons.2 ⟨fun x hx b hb1 hb2=> ?_,h.dis⟩;have:=OE.lt (h.own x hx) hb2;have:=hb b hb1;omega
 rw [hg.block b (Nat.lt_of_lt_of_le hb' h.size) (by simp)];exact h.old b hb' hx
theorem HS.sub(h:HS F0 w0 X F O w){O':List OE}(hs:O'.Sublist O):HS F0 w0 X F O' w:=
 ⟨h.sat,h.le,h.new,fun e he=>h.own e (hs.subset he),fun e he=>h.sep e (hs.subset he),h.dis.sublist hs,h.os,h.tape,h.output,h.size,h.old⟩
def pick(O:List OE):List Nat->List OE
 | []=> []
 |i::r=>match O[i]? with
  |some e=>e::pick O r
  |none=>pick O r
theorem HS.pick(h:HS F0 w0 X F O w)(l:List Nat)(hl:l.Nodup){O':List OE}(hO:Rt.pick O l=O'):HS F0 w0 X F O' w:=by
 subst hO;have hmem:∀l,∀e∈Rt.pick O l,∃i∈l,O[i]?=some e:=by
  intro l;induction l with
  |nil=>intro e he;simp [Rt.pick]at he
  |cons i r ih=>
   intro e he;simp only [Rt.pick]at he;split at he
   ·rename_i e0 h0;rcases List.mem_cons.1 he with rfl|he
    ·exact⟨i,by simp,h0⟩
    obtain⟨j,hj,hje⟩:=ih e he;exact⟨j,by simp [hj],hje⟩
   obtain⟨j,hj,hje⟩:=ih e he;exact⟨j,by simp [hj],hje⟩
 have hin:∀e∈Rt.pick O l,e∈O:=fun e he=>by
  obtain⟨i,_,hi⟩:=hmem l e he;exact List.mem_of_getElem? hi
 refine⟨h.sat,h.le,h.new,fun e he=>h.own e (hin e he),fun e he=>h.sep e (hin e he),?_,h.os,h.tape,h.output,h.size,h.old⟩;clear hin;induction l with
 |nil=>exact .nil
 |cons i r ih=>
  simp only [Rt.pick];have hr:=List.nodup_cons.1 hl;split
  ·rename_i e0 h0;refine List.pairwise_cons.2 ⟨fun e he b hb1 hb2=> ?_,ih hr.2⟩;obtain⟨j,hj,hje⟩:=hmem r e he;have hij:i≠j:=fun e=>hr.1 (e▸hj);obtain⟨hi1,hi2⟩:=List.getElem?_eq_some_iff.1 h0;obtain⟨hj1,hj2⟩:=List.getElem?_eq_some_iff.1 hje;have hp:=List.pairwise_iff_getElem.1 h.dis;rcases Nat.lt_or_ge i j with hlt|hge
   ·exact hp i j hi1 hj1 hlt b (hi2▸hb1) (hj2▸hb2)
   exact hp j i hj1 hi1 (by omega) b (hj2▸hb2) (hi2▸hb1)
  exact ih hr.2
theorem HS.freeze(h:HS F0 w0 X F O w){e:OE}{r:List OE}(hO:O=e::r){b:Nat}(hb:e.blk=some b)(hX:w0.heap.size<=b){o:Obj}(ho:w.heap[b]?=some o):
 HS F0 w0 X (fun k=>if k=b then some o else F k) r w:=by
 subst hO;have hs:=(h.sep e (by simp) b hb).1;have hd:=List.pairwise_cons.1 h.dis;refine⟨fun k o' hk=> ?_,fun k o' hk=> ?_,fun k hk=> ?_,fun x hx=>h.own x (by simp [hx]),fun x hx k hk=> ?_,hd.2,h.os,h.tape,h.output,h.size,h.old⟩
 ·replace hk:(if k=b then some o else F k)=some o':=hk
  split at hk
  ·rename_i e1;subst e1;cases hk;exact ho
  exact h.sat k o' hk
 ·have:=h.le k o' hk;show(if k=b then some o else F k)=some o';split
  ·rename_i e1;subst e1;rw [hs]at this;cases this
  exact this
 ·by_cases e1:k=b
  ·subst e1;exact .inr hX
  exact h.new k (by simpa [e1]using hk)
 have h1:=h.sep x (by simp [hx]) k hk;have:k≠b:=fun e1=>hd.1 x hx b hb (e1▸hk);exact⟨by simpa [this]using h1.1,h1.2⟩
theorem c6h{b:Nat}{o:Obj}(hb:F b=none):F.le (fun k=>if k=b then some o else F k):=fun k o' hk=>by
 show(if k=b then some o else F k)=some o';split
 ·rename_i e1;subst e1;rw [hb]at hk;cases hk
 exact hk
theorem HS.call(h:HS F0 w0 X F O w){F':Frz}{O2:List OE}{w':World}(h2:HS F w [] F' O2 w'):HS F0 w0 X F' (O2++O) w':=by
 have hold:∀b,b<w.heap.size->w'.heap[b]?=w.heap[b]?:=fun b hb=>h2.old b hb (by simp);have hg:w.grownBy w' none:=⟨h2.os,h2.tape,h2.output,h2.size,fun k hk _=>hold k hk⟩
 refine⟨h2.sat,h.le.trans h2.le,fun b hb=> ?_,fun e he=> ?_,fun e he b hb=> ?_,?_,h2.os.trans h.os,h2.tape.trans h.tape,h2.output.trans h.output,Nat.le_trans h.size h2.size,fun b hb hx=> ?_⟩
 ·rcases h2.new b hb with h1|h1
  ·exact h.new b h1
  exact .inr (Nat.le_trans h.size h1)
 ·rcases List.mem_append.1 he with he|he
  ·exact h2.own e he
  exact OE.kept (h.own e he) hg (by simp)
 ·rcases List.mem_append.1 he with he|he
  ·obtain⟨h1,h3⟩:=h2.sep e he b hb;refine⟨h1,.inl ?_⟩;rcases h3 with h3|h3
   ·exact Nat.le_trans h.size h3
   cases h3
  obtain⟨h1,h3⟩:=h.sep e he b hb;refine⟨?_,h3⟩;cases hf:F' b with
  |none=>rfl
  |some o=>
   rcases h2.new b (by simp [hf])with h4|h4
   ·exact absurd h1 h4
   have:=OE.lt (h.own e he) hb;omega
 ·refine List.pairwise_append.2 ⟨h2.dis,h.dis,fun e he e' he' b hb1 hb2=> ?_⟩;rcases(h2.sep e he b hb1).2 with h3|h3
  ·have:=OE.lt (h.own e' he') hb2;omega
  cases h3
 rw [hold b (Nat.lt_of_lt_of_le hb h.size)];exact h.old b hb hx
end
structure Rp(α:Type)where
 k:Nat
 R:Frz->List Value->α->Prop
 len:∀{F cs x},R F cs x->cs.length=k
 mono:∀{F F':Frz}{cs x},F.le F'->R F cs x->R F' cs x
 one:∀{F cs x},R F cs x->∀u∈cs,u.oneCell'=true
def RowR{α:Type}(r:Rp α)(F:Frz):List Value->List α->Prop |vs,[]=>vs= [] |vs,x::xs=>∃cs ys,vs=cs++ys/\r.R F cs x/\RowR r F ys xs
section
variable{α:Type}{r:Rp α}{F F':Frz}
theorem RowR.mono(hF:F.le F'):∀{xs:List α}{l:List Value},RowR r F l xs->RowR r F' l xs
 | [],_,h=>h
 |_::_,_,⟨cs,ys,h1,h2,h3⟩=>⟨cs,ys,h1,r.mono hF h2,RowR.mono hF h3⟩
theorem RowR.len:∀{xs:List α}{l:List Value},RowR r F l xs->l.length=xs.length*r.k
 | [],l,h=>by simp only [RowR]at h;subst h;simp
 |x::xs,_,⟨cs,ys,h1,h2,h3⟩=>by subst h1;rw [List.length_append,r.len h2,RowR.len h3,List.length_cons,Nat.add_mul];omega
theorem RowR.one:∀{xs:List α}{l:List Value},RowR r F l xs->∀u∈l,u.oneCell'=true
 | [],l,h=>by simp only [RowR]at h;subst h;simp
 |x::xs,_,⟨cs,ys,h1,h2,h3⟩=>by
  subst h1;intro u hu;rcases List.mem_append.1 hu with hu|hu
  ·exact r.one h2 u hu
  exact RowR.one h3 u hu
theorem RowR.snoc{cs:List Value}{x:α}(hx:r.R F cs x):∀{xs:List α}{l:List Value},RowR r F l xs->RowR r F (l++cs) (xs++ [x])
 | [],l,h=>by simp only [RowR]at h;subst h;exact⟨cs,[],by simp,hx,rfl⟩
 |y::xs,_,⟨c1,ys,h1,h2,h3⟩=>⟨c1,ys++cs,by rw [h1,List.append_assoc],h2,RowR.snoc hx h3⟩
theorem RowR.append{l2:List Value}{ys:List α}(h2:RowR r F l2 ys):∀{xs:List α}{l:List Value},RowR r F l xs->RowR r F (l++l2) (xs++ys)
 | [],l,h=>by simp only [RowR]at h;subst h;simpa using h2
 |y::xs,_,⟨c1,zs,h1,h3,h4⟩=>⟨c1,zs++l2,by rw [h1,List.append_assoc],h3,RowR.append h2 h4⟩
theorem RowR.get:∀{xs:List α}{l:List Value}{i:Nat}{x:α},RowR r F l xs->xs[i]?=some x->∃cs,r.R F cs x/\cs<+:l.drop (i*r.k)
 | [],_,_,_,_,h=>by simp at h
 |y::xs,_,0,x,⟨cs,ys,h1,h2,h3⟩,h=>by simp at h;subst h;exact⟨cs,h2,by simp [h1]⟩
 |y::xs,_,i+1,x,⟨cs,ys,h1,h2,h3⟩,h=>by
  obtain⟨c,hc,hp⟩:=RowR.get h3 (by simpa using h);refine⟨c,hc,?_⟩;rw [h1,show(i+1)*r.k=cs.length+i*r.k from by rw [r.len h2,Nat.add_mul];omega,List.drop_append,List.drop_of_length_le (by omega)];simpa using hp
theorem RowR.drop:∀{xs:List α}{l:List Value}(i:Nat),RowR r F l xs->RowR r F (l.drop (i*r.k)) (xs.drop i)
 |_,_,0,h=>by simpa using h
 | [],_,i+1,h=>by simp only [RowR]at h;subst h;simp [RowR]
 |y::xs,_,i+1,⟨cs,ys,h1,h2,h3⟩=>by
  rw [h1,show(i+1)*r.k=cs.length+i*r.k from by rw [r.len h2,Nat.add_mul];omega,List.drop_append,List.drop_of_length_le (by omega)];simpa using RowR.drop i h3
theorem RowR.take:∀{xs:List α}{l:List Value}(i:Nat),RowR r F l xs->RowR r F (l.take (i*r.k)) (xs.take i)
 |_,_,0,h=>by simp [RowR]
 | [],_,i+1,h=>by simp only [RowR]at h;subst h;simp [RowR]
 |y::xs,_,i+1,⟨cs,ys,h1,h2,h3⟩=>by
  refine⟨cs,ys.take (i*r.k),?_,h2,RowR.take i h3⟩;rw [h1,show(i+1)*r.k=cs.length+i*r.k from by rw [r.len h2,Nat.add_mul];omega,List.take_append,List.take_of_length_le (by omega)];simp
end
def FC(F:Frz)(b o:Nat)(cs:List Value):Prop:=∃cells ty fz,F b=some (.cells cells ty fz)/\cs<+:cells.toList.drop o
theorem FC.mono{F F':Frz}{b o:Nat}{cs:List Value}(hF:F.le F')(h:FC F b o cs):FC F' b o cs:=by
 obtain⟨c,t,z,h1,h2⟩:=h;exact⟨c,t,z,hF _ _ h1,h2⟩
theorem FC.cell{F:Frz}{b o:Nat}{cs:List Value}{w:World}(h:FC F b o cs)(hs:Sat F w){j:Nat}{v:Value}(hj:cs[j]?=some v):w.cell? ⟨b,o+j,none⟩=some v:=by
 obtain⟨c,t,z,h1,ys,h2⟩:=h;have h3:=hs b _ h1;have:(c.toList.drop o)[j]?=some v:=by rw [<-h2,List.getElem?_append_left (List.getElem?_eq_some_iff.1 hj).1];exact hj
 rw [List.getElem?_drop]at this;simp [World.cell?,h3,<-Array.getElem?_toList,this]
def SlR{α:Type}(r:Rp α)(F:Frz)(a:Option Addr)(m c:Nat)(xs:List α):Prop:= xs.length=m/\xs.length<=c/\c<=maxLen/\(xs= []∨∃b o l,a=some ⟨b,o,none⟩/\FC F b o l/\RowR r F l xs)
theorem SlR.mono{α:Type}{r:Rp α}{F F':Frz}{a:Option Addr}{m c:Nat}{xs:List α}(hF:F.le F')(h:SlR r F a m c xs):SlR r F' a m c xs:=by
 obtain⟨h1,h2,h3,h4⟩:=h;refine⟨h1,h2,h3,h4.imp id ?_⟩;rintro⟨b,o,l,e1,e2,e3⟩;exact⟨b,o,l,e1,e2.mono hF,e3.mono hF⟩
theorem SlR.nil{α:Type}(r:Rp α)(F:Frz):SlR r F none 0 0 []:=⟨rfl,Nat.le_refl _,by simp [maxLen],.inl rfl⟩
theorem SlR.len{α:Type}{r:Rp α}{F:Frz}{a:Option Addr}{m c:Nat}{xs:List α}(h:SlR r F a m c xs):xs.length=m:=h.1
def RowN{α:Type}(r:Rp α)(F:Frz)(m:Nat)(l:List Value)(xs:List α):Prop:=xs.length=m/\RowR r F l xs
theorem RowN.mono{α:Type}{r:Rp α}{F F':Frz}{m:Nat}{l:List Value}{xs:List α}(hF:F.le F')(h:RowN r F m l xs):RowN r F' m l xs:=⟨h.1,h.2.mono hF⟩
theorem RowN.len{α:Type}{r:Rp α}{F:Frz}{m:Nat}{l:List Value}{xs:List α}(h:RowN r F m l xs):xs.length=m:=h.1
end Rt
namespace Rt
open Go Go.RowKit
def Rp.int(i:IntKind):Rp Int where
 k:=1
 R:=fun _ cs x=>cs= [.int i x]
 len:=by intros;simp_all
 mono:=fun _ h=>h
 one:=by intro F cs x h u hu;subst h;simp at hu;subst hu;rfl
def Rp.bool:Rp Bool where
 k:=1
 R:=fun _ cs x=>cs= [.bool x]
 len:=by intros;simp_all
 mono:=fun _ h=>h
 one:=by intro F cs x h u hu;subst h;simp at hu;subst hu;rfl
def Rp.str:Rp Bs where
 k:=1
 R:=fun _ cs x=>cs= [vs x]
 len:=by intros;simp_all
 mono:=fun _ h=>h
 one:=by intro F cs x h u hu;subst h;simp at hu;subst hu;rfl
def Rp.sl{α:Type}(r:Rp α):Rp (List α)where
 k:=1
 R:=fun F cs x=>∃a m c,cs= [.slice a m c]/\SlR r F a m c x
 len:=by rintro F cs x ⟨a,m,c,h,_⟩;simp [h]
 mono:=by rintro F F' cs x hF ⟨a,m,c,h,h2⟩;exact⟨a,m,c,h,h2.mono hF⟩
 one:=by rintro F cs x ⟨a,m,c,h,_⟩ u hu;subst h;simp at hu;subst hu;rfl
def ix{α:Type}(l:List α)(i:Int):Option α:=if 0<=i then l[i.toNat]? else none
def lsl{α:Type}(l:List α)(lo hi:Int):Option (List α):=if 0<=lo/\lo<=hi/\hi<=l.length then some ((l.take hi.toNat).drop lo.toNat)else none
def app{α:Type}(bytes:Nat)(l l2:List α):Option (List α):=if(l.length+l2.length)*bytes<=140737488355328 then some (l++l2)else none
section
variable{P:Program}{Q:Exit->Act->World->Prop}{n:Nat}{env:Env}{w:World}
variable{opr:Array Oper}{rest:List Oper}{d:Nat}{g:Option (Nat×Bool)}{ty:TypeId}{pos:String}{es:Array Edge}
variable{F0 F:Frz}{w0:World}{X:List Nat}{O:List OE}
def b3x(P:Program)(T:TypeId)(b:Bool):Prop:=∀w,(isAgg T).run P w= .ok b w
def SizeIs(P:Program)(T:TypeId)(k:Nat):Prop:=∀w,(sizeOf T).run P w= .ok k w
def c5o(P:Program)(T:TypeId)(z:Value):Prop:=∀w,(zeroValue T).run P w= .ok z w
def d4v(P:Program)(T j o:Nat):Prop:=∀(b p:Nat)w,(Instr.fieldAt T (.pointer (some ⟨b,p,none⟩)) j).run P w= .ok (.pointer (some ⟨b,p+o,none⟩)) w
theorem a8d(b o m:Nat):(⟨b,o,none⟩:Addr).add m=⟨b,o+m,none⟩:=by unfold Addr.add;split<;>simp_all
theorem a9x{T:TypeId}{z:Value}{cs:List Value}(hZ:c5o P T z)(hcs:z.cells.toList=cs)(hg:isOn opr env g=true)(hn:Nat.blt d n=true)(h:HS F0 w0 X F O w)
 (k:∀b w',HS F0 w0 X F (.box b T cs::O) w'->RW P opr Q rest n ((d,.pointer (some ⟨b,0,none⟩))::env) w'):RW P opr Q (⟨some d,.alloc T,ty,pos,es,g⟩::rest) n env w:=
 b5w (w':=w.alloc (.cells z.cells T)) rfl (by simpa using hn) hg (fun a ha=>by simp [execOp,Instr.alloc,hZ w,newVar,newRow]) (k w.heap.size _ (h.add (World.grownBy_alloc w _ none) (by
  subst hcs;show(w.alloc _).heap[w.heap.size]?=_;rw [heap_alloc_new]) (by simp [OE.blk])))
theorem HS.get(h:HS F0 w0 X F O w){i:Nat}{e:OE}(hi:O[i]?=some e):e.ok w:=h.own e (List.mem_of_getElem? hi)
theorem c3y(h:HS F0 w0 X F O w){i b:Nat}{t:TypeId}{cs:List Value}(hi:O[i]?=some (.box b t cs)){j:Nat}{v:Value}(hj:cs[j]?=some v):w.cell? ⟨b,j,none⟩=some v:=by
 have h1:w.heap[b]?=some (.cells cs.toArray t (0,0)):=h.get hi;simp [World.cell?,h1,hj]
theorem d3k{T:TypeId}{x:Operand}{b o:Nat}{v:Value}(hA:b3x P T false)(hg:isOn opr env g=true)(hn:Nat.blt d n=true)(hx:opv env x=some (.pointer (some ⟨b,o,none⟩)))
 (hc:w.cell? ⟨b,o,none⟩=some v) (k:RW P opr Q rest n ((d,v)::env) w):RW P opr Q (⟨some d,.load T x,ty,pos,es,g⟩::rest) n env w:=
 a7r rfl (by simpa using hn) hg (fun a ha=>by simp [execOp,Instr.loadAt,Instr.sureAddr,ha.op hx,loadVar,hA w,hc]) k
theorem e0m{T:TypeId}{x:Operand}{b o:Nat}{m:Nat}{cs:List Value}(hA:b3x P T true)(hS:SizeIs P T m)(hm:cs.length=m)(hg:isOn opr env g=true)(hn:Nat.blt d n=true)(hx:opv env x=some (.pointer (some ⟨b,o,none⟩)))
 (hc:∀j v,cs[j]?=some v->w.cell? ⟨b,o+j,none⟩=some v) (k:RW P opr Q rest n ((d,.agg cs.toArray)::env) w):RW P opr Q (⟨some d,.load T x,ty,pos,es,g⟩::rest) n env w:=
 a7r rfl (by simpa using hn) hg (fun a ha=>by
  subst hm;have e:=run_loadCells_list (P:=P) w ⟨b,o,none⟩ cs (fun j v hj=>by rw [a8d];exact hc j v hj);simp [execOp,Instr.loadAt,Instr.sureAddr,ha.op hx,loadVar,hA w,hS w,e]) k
theorem d6i{T:TypeId}{x:Operand}{b o i:Nat}{v:Value}{t:TypeId}{cs:List Value}(hA:b3x P T false)(hg:isOn opr env g=true)(hn:Nat.blt d n=true)(h:HS F0 w0 X F O w)(hx:opv env x=some (.pointer (some ⟨b,o,none⟩)))
 (hi:O[i]?=some (.box b t cs)) (hc:cs[o]?=some v) (k:RW P opr Q rest n ((d,v)::env) w):RW P opr Q (⟨some d,.load T x,ty,pos,es,g⟩::rest) n env w:=
 d3k hA hg hn hx (c3y h hi hc) k
theorem e4t{T:TypeId}{x:Operand}{b o i m:Nat}{t:TypeId}{cs cs':List Value}(hA:b3x P T true)(hS:SizeIs P T m)(hg:isOn opr env g=true)(hn:Nat.blt d n=true)(h:HS F0 w0 X F O w)(hx:opv env x=some (.pointer (some ⟨b,o,none⟩)))
 (hi:O[i]?=some (.box b t cs)) (hc:(cs.drop o).take m=cs') (hm:cs'.length=m) (k:RW P opr Q rest n ((d,.agg cs'.toArray)::env) w):RW P opr Q (⟨some d,.load T x,ty,pos,es,g⟩::rest) n env w:=
 e0m hA hS hm hg hn hx (fun j v hj=>c3y h hi (by
  subst hc;rw [List.getElem?_take]at hj;split at hj
  ·rwa [List.getElem?_drop]at hj
  cases hj)) k
theorem a8g{T:TypeId}{x:Operand}{b o j:Nat}{v:Value}{cs:List Value}(hA:b3x P T false)(hg:isOn opr env g=true)(hn:Nat.blt d n=true)(h:HS F0 w0 X F O w)(hf:FC F b o cs)(hx:opv env x=some (.pointer (some ⟨b,o+j,none⟩)))
 (hc:cs[j]?=some v) (k:RW P opr Q rest n ((d,v)::env) w):RW P opr Q (⟨some d,.load T x,ty,pos,es,g⟩::rest) n env w:=
 d3k hA hg hn hx (hf.cell h.sat hc) k
theorem e6j{T:TypeId}{x:Operand}{b o j m:Nat}{cs cs':List Value}(hA:b3x P T true)(hS:SizeIs P T m)(hg:isOn opr env g=true)(hn:Nat.blt d n=true)(h:HS F0 w0 X F O w)(hf:FC F b o cs)(hx:opv env x=some (.pointer (some ⟨b,o+j,none⟩)))
 (hc:(cs.drop j).take m=cs') (hm:cs'.length=m) (k:RW P opr Q rest n ((d,.agg cs'.toArray)::env) w):RW P opr Q (⟨some d,.load T x,ty,pos,es,g⟩::rest) n env w:=
 e0m hA hS hm hg hn hx (fun i v hi=>by
  rw [Nat.add_assoc];refine hf.cell h.sat ?_;subst hc;rw [List.getElem?_take]at hi;split at hi
  ·rwa [List.getElem?_drop]at hi
  cases hi) k
theorem c6y{T j o:Nat}{x:Operand}{b p:Nat}(hF:d4v P T j o)(hg:isOn opr env g=true)(hn:Nat.blt d n=true)(hx:opv env x=some (.pointer (some ⟨b,p,none⟩)))
 (k:RW P opr Q rest n ((d,.pointer (some ⟨b,p+o,none⟩))::env) w):RW P opr Q (⟨some d,.fieldAddr T x j,ty,pos,es,g⟩::rest) n env w:=
 a7r rfl (by simpa using hn) hg (fun a ha=>by simp [execOp,ha.op hx,hF b p w]) k
theorem b5y(w:World)(b:Nat)(cs:Array Value):w.grownBy (w.setRow b cs) (some b):=
 ⟨rfl,rfl,rfl,by simp [World.setRow],fun k _ hk=>setRow_other w b k cs (fun e=>hk (by rw [e]))⟩
theorem a5g{T:TypeId}{x y:Operand}{b o i m:Nat}{v:Value}{t:TypeId}{cs cs':List Value}(hS:SizeIs P T m)(hg:isOn opr env g=true)(h:HS F0 w0 X F O w)(hx:opv env x=some (.pointer (some ⟨b,o,none⟩)))(hy:opv env y=some v)
 (hm:v.cells.size=m) (h1:v.cells.toList.all Value.oneCell'=true) (hi:O[i]?=some (.box b t cs)) (hl:Nat.ble (o+m) cs.length=true) (hc:cs.take o++v.cells.toList++cs.drop (o+m)=cs')
 {O':List OE} (hO:O.set i (.box b t cs')=O') (k:∀w',HS F0 w0 X F O' w'->RW P opr Q rest n env w'):RW P opr Q (⟨none,.store T x y,ty,pos,es,g⟩::rest) n env w:=by
 have hb:w.heap[b]?=some (.cells cs.toArray t (0,0)):=h.get hi;have hst:=run_storeCells_at P b o t v.cells.toList 0 cs.toArray w hb (by have:=Nat.le_of_ble_eq_true hl;simp [hm];omega) (fun u hu=>by simpa using(List.all_eq_true.1 h1) u hu);refine e2j (w':=w.setRow b cs'.toArray) rfl hg (fun a ha=> ?_) (k _ ?_)
 ·simp only [Nat.add_zero]at hst;subst hc;simp [execOp,Instr.storeAt,Instr.sureAddr,ha.op hx,ha.op hy,storeVar,hS w,hm,hst]
 subst hO;exact h.upd hi (b5y w b _) (setRow_heap w b _ _ t _ hb) (fun k hk=> .inl hk)
def opvp(env:Env):List (Nat×Operand)->Option (List (Nat×Value))
 | []=>some []
 |p::r=>match opv env p.2,opvp env r with
  |some v,some l=>some ((p.1,v)::l)
  |_,_=>none
theorem c8f{a:Act}(ha:Has n a env):∀{l:List (Nat×Operand)}{vl:List (Nat×Value)},opvp env l=some vl->(l.map fun p=>(p.1,a.eval p.2))=vl
 | [],vl,h=>by simp only [opvp,Option.some.injEq]at h;subst h;rfl
 |p::l,vl,h=>by
  simp only [opvp]at h;split at h
  ·rename_i v l' hv hl;cases h;simp [ha.op hv,c8f ha hl]
  cases h
theorem b0j{a:Act}(ha:Has n a env){ps:List (Nat×Operand)}{vl:List (Nat×Value)}(h:opvp env ps=some vl):(ps.toArray.map fun(i,x)=>(i,a.eval x))=vl.toArray:=by
 rw [<-c8f ha h];apply Array.ext';simp
theorem b5n{T:TypeId}{ps:List (Nat×Operand)}{vl:List (Nat×Value)}{v:Value}(hg:isOn opr env g=true)(hn:Nat.blt d n=true)(hp:opvp env ps=some vl)
 (hv:∀w,(Instr.build T vl.toArray).run P w= .ok v w) (k:RW P opr Q rest n ((d,v)::env) w):RW P opr Q (⟨some d,.build T ps.toArray,ty,pos,es,g⟩::rest) n env w:=
 a7r rfl (by simpa using hn) hg (fun a ha=>by
  simp only [execOp];rw [b0j ha hp];simp [hv w]) k
theorem a1n{T e:TypeId}{m q:Nat}{ps:List (Nat×Operand)}{vl:List (Nat×Value)}{cs:List Value}(hg:isOn opr env g=true)(hn:Nat.blt d n=true)(h:HS F0 w0 X F O w)(hp:opvp env ps=some vl)
 (hv:∀w,(Instr.buildSlice T m vl.toArray).run P w= .ok (.slice (some ⟨w.heap.size,0,none⟩) m m) (w.alloc (.cells cs.toArray e))) (hl:cs.length=m*q) (hm:Nat.ble m maxLen=true)
 (k:∀b w',HS F0 w0 X F (.row e q (some ⟨b,0,none⟩) m m cs::O) w'->RW P opr Q rest n ((d,.slice (some ⟨b,0,none⟩) m m)::env) w'):RW P opr Q (⟨some d,.buildSlice T m ps.toArray,ty,pos,es,g⟩::rest) n env w:=
 b5w (w':=w.alloc (.cells cs.toArray e)) rfl (by simpa using hn) hg (fun a ha=>by
  simp only [execOp];rw [b0j ha hp];simp [hv w]) (k w.heap.size _ (h.add (World.grownBy_alloc w _ none) (by
   refine⟨hl,.inr ⟨w.heap.size,m,cs.toArray,rfl,Nat.zero_le _,heap_alloc_new w _,Nat.le_refl _,Nat.le_of_ble_eq_true hm,by simp [hl],?_⟩⟩;simp [<-hl]) (by simp [OE.blk,Value.ownBlock])))
theorem HS.nilRow(h:HS F0 w0 X F O w)(e:TypeId)(k:Nat):HS F0 w0 X F (.row e k none 0 0 []::O) w:=
 h.add (w':=w) ⟨rfl,rfl,rfl,Nat.le_refl _,fun _ _ _=>rfl⟩ (World.ownsRow_nil _ _ _ _) (by simp [OE.blk,Value.ownBlock])
structure AppIs(P:Program)(t e:TypeId)(q bytes:Nat):Prop where
 under:P.underlying t=some (.slice e)
 info:∃i z,P.info? e=some i/\i.zero=some z/\i.size=q/\i.bytes=bytes/\z.cells.size=q
 pos:0<q
 pos2:0<bytes
theorem AppIs.of{t e:TypeId}{q bytes:Nat}{z:Value}(hu:P.underlying t=some (.slice e))(hi:(P.info? e).map (fun i=>(i.zero,i.size,i.bytes))=some (some z,q,bytes))(hz:z.cells.size=q)(h1:0<q)(h2:0<bytes):AppIs P t e q bytes:=by
 cases h:P.info? e with
 |none=>simp [h]at hi
 |some i=>
  simp only [h,Option.map_some,Option.some.injEq,Prod.mk.injEq]at hi;exact⟨hu,⟨i,z,h,hi.1,hi.2.1,hi.2.2,hz⟩,h1,h2⟩
theorem d9y{t e tr:TypeId}{q bytes:Nat}(hA:AppIs P t e q bytes)(h:HS F0 w0 X F O w){i:Nat}{a:Option Addr}{m c:Nat}{xs:List Value}(hi:O[i]?=some (.row e q a m c xs))
 {ad:Addr} {m2 c2:Nat} {news:List Value} (hl:news.length=m2*q) (hnews:∀j u,news[j]?=some u->w.cell? (ad.add j)=some u) (h1:∀u∈news,u.oneCell'=true) (hb:(m+m2)*bytes<=140737488355328):
 ∃a' c' w',(Builtin.append_ #[t,t] tr #[.slice a m c,.slice (some ad) m2 c2]).run P w= .ok (.slice a' (m+m2) c') w'/\HS F0 w0 X F (O.set i (.row e q a' (m+m2) c' (xs++news))) w':=by
 obtain⟨inf,z,hinf,hz,hq,hby,hzc⟩:=hA.info;have hsm:m+m2<=maxLen:=by
  have h3:m+m2<=(m+m2)*bytes:=Nat.le_mul_of_pos_right _ hA.pos2;simp only [maxLen];omega
 have fin:∀(base:Nat)(v':Value)(w':World),w'.ownsRow base e q v' (m+m2) (xs++news)->w.grownBy w' (Value.slice a m c).ownBlock->(∀k,v'.ownBlock=some k->(Value.slice a m c).ownBlock=some k∨w.heap.size<=k)->
  (Builtin.append_ #[t,t] tr #[.slice a m c,.slice (some ad) m2 c2]).run P w= .ok v' w'->
  ∃a' c' w',(Builtin.append_ #[t,t] tr #[.slice a m c,.slice (some ad) m2 c2]).run P w= .ok (.slice a' (m+m2) c') w'/\HS F0 w0 X F (O.set i (.row e q a' (m+m2) c' (xs++news))) w':=by
  intro base v' w' hown hgr hk hr;have hv':∃a' c',v'= .slice a' (m+m2) c':=by
   rcases hown.2 with⟨rfl,h0⟩|⟨g,cap,cur,rfl,_⟩
   ·exact⟨none,0,by rw [h0]⟩
   exact⟨_,_,rfl⟩
  obtain⟨a',c',rfl⟩:=hv';refine⟨a',c',w',hr,h.upd hi hgr ⟨hown.1,?_⟩ hk⟩;rcases hown.2 with h0|⟨g,cap,cur,h1,_,h2⟩
  ·exact .inl h0
  exact .inr ⟨g,cap,cur,h1,Nat.zero_le _,h2⟩
 have hown:=h.get hi;rcases hown.2 with⟨he,h0⟩|⟨gb,cap,cur,he,_,hgb,hnc,hcm,hcs,htake⟩
 ·simp only [Value.slice.injEq]at he;obtain⟨rfl,rfl,rfl⟩:=he;have hx:xs= []:=List.eq_nil_of_length_eq_zero (by simpa using hown.1);subst hx;obtain⟨v',w',hr,hown',hgr,_⟩:=run_append_own (P:=P) w w.heap.size t tr e inf z q bytes hA.under hinf hz hq hby hzc hA.pos (.slice none 0 0) 0 [] (World.ownsRow_nil _ _ _ _) ad m2 c2 news hl hnews h1 hsm hb (Nat.le_refl _);exact fin _ v' w' hown' hgr (fun k hk=> .inr (hown'.lt k hk).1) hr
 simp only [Value.slice.injEq]at he;obtain⟨rfl,_,e3⟩:=he;obtain rfl:cap=c:=e3.symm;obtain⟨v',w',hr,hown',hgr,_⟩:=run_append_own (P:=P) w 0 t tr e inf z q bytes hA.under hinf hz hq hby hzc hA.pos (.slice (some ⟨gb,0,none⟩) m cap) m xs hown ad m2 c2 news hl hnews h1 hsm hb (Nat.zero_le _);refine fin _ v' w' hown' hgr (fun k hk=> ?_) hr
 by_cases hroom:m+m2<=cap
 ·have hfit:m*inf.size+news.length<=cur.size:=by rw [hl,hcs,hq,<-Nat.add_mul];exact Nat.mul_le_mul_right _ hroom
  have hr2:=run_append_room (P:=P) w t tr e inf hA.under hinf gb m cap cur hgb ad m2 c2 news (by rw [hq];exact hl) hnews h1 hroom hfit;rw [hr]at hr2;cases hr2;exact .inl hk
 have holds:∀j u,xs[j]?=some u->w.cell? ((⟨gb,0,none⟩:Addr).add j)=some u:=hown.cells (g:=gb) rfl;have hr2:=run_append_grow (P:=P) w t tr e inf z hA.under hinf hz ⟨gb,0,none⟩ m cap xs (by rw [hq];exact hown.1) holds ad m2 c2 news (by rw [hq];exact hl) hnews (by omega) (by simp only [maxLen]at hsm;omega) (growslice_fits (by omega) (by rw [hby];exact hb));rw [hr]at hr2;cases hr2;simp only [Value.ownBlock,Option.some.injEq]at hk;exact .inr (by omega)
end
def d1s(l:List Int):Bs:=l.map fun x=>UInt8.ofNat x.toNat
theorem b4q{α:Type}{l l2:List α}(h:l<+:l2)(m:Nat):l.drop m<+:l2.drop m:=by
 obtain⟨t,rfl⟩:=h;exact⟨t.drop (m-l.length),by rw [List.drop_append]⟩
theorem e2x(l:List Int):∀acc:ByteArray,(l.foldl (fun r n=>r.push (UInt8.ofNat n.toNat)) acc).data.toList=acc.data.toList++d1s l:=by
 induction l with
 |nil=>intro acc;simp [d1s]
 |cons x l ih=>intro acc;rw [List.foldl_cons,ih];simp [d1s]
theorem d6g{α:Type}{bytes:Nat}{l l2 r:List α}(h:app bytes l l2=some r):(l.length+l2.length)*bytes<=140737488355328/\r=l++l2:=by
 unfold app at h;split at h
 ·rename_i hb;cases h;exact⟨hb,rfl⟩
 cases h
theorem e7d{ik:IntKind}{F:Frz}:∀{l:List Int}{xs:List Value},RowR (Rp.int ik) F xs l->xs=l.map (Value.int ik)
 | [],_,h=>by simp only [RowR]at h;simp [h]
 |x::l,_,⟨cs,ys,h1,h2,h3⟩=>by
  have h4:cs= [.int ik x]:=h2;subst h4;rw [h1,e7d h3];rfl
section
variable{P:Program}{Q:Exit->Act->World->Prop}{n:Nat}{env:Env}{w:World}
variable{opr:Array Oper}{rest:List Oper}{d:Nat}{g:Option (Nat×Bool)}{ty:TypeId}{pos:String}{es:Array Edge}
variable{F0 F:Frz}{w0:World}{X:List Nat}{O:List OE}
theorem e4w{x y:Operand}{t e:TypeId}{q bytes:Nat}(hA:AppIs P t e q bytes)(hg:isOn opr env g=true)(hn:Nat.blt d n=true)(h:HS F0 w0 X F O w)
 {i j m c m2 c2 b N:Nat} {a:Option Addr} {xs news:List Value} (hx:opv env x=some (.slice a m c)) (hy:opv env y=some (.slice (some ⟨b,0,none⟩) m2 c2))
 (hi:O[i]?=some (.row e q a m c xs)) (hj:O[j]?=some (.row e q (some ⟨b,0,none⟩) m2 c2 news)) (h1:∀u∈news,u.oneCell'=true) (hb:(m+m2)*bytes<=140737488355328) (hN:m+m2=N)
 (k:∀a' c' w',HS F0 w0 X F (O.set i (.row e q a' N c' (xs++news))) w'->RW P opr Q rest n ((d,.slice a' N c')::env) w'):
 RW P opr Q (⟨some d,.call ⟨.builtin .append, #[x,y], #[t,t]⟩,ty,pos,es,g⟩::rest) n env w:=by
 have hown:=h.get hj;obtain⟨a',c',w',hr,hs⟩:=d9y (tr:=ty) hA h hi (ad:=⟨b,0,none⟩) (m2:=m2) (c2:=c2) (news:=news) hown.1 (World.ownsRow.cells hown rfl) h1 hb;subst hN;exact b5w rfl (by simpa using hn) hg (fun a ha=>by simp [execOp,resolve,invoke,builtin,ha.op hx,ha.op hy,hr]) (k a' c' w' hs)
theorem a8j{xt e:TypeId}{x:Operand}{a:Option Addr}{m c N:Nat}(hN:N=m)(hu:P.underlying xt=some (.slice e))(hg:isOn opr env g=true)(hn:Nat.blt d n=true)(hx:opv env x=some (.slice a m c))
 (kk:RW P opr Q rest n ((d,.int .i64 N)::env) w):RW P opr Q (⟨some d,.call ⟨.builtin .len, #[x], #[xt]⟩,ty,pos,es,g⟩::rest) n env w:=
 a7r rfl (by simpa using hn) hg (fun a ha=>by subst hN;simp [execOp,resolve,invoke,builtin,ha.op hx,Builtin.len_,underlying,hu,goInt]) kk
theorem a9c{t e:TypeId}{q:Nat}(hu:P.underlying t=some (.slice e))(hS:SizeIs P e q){b o m c:Nat}{ik:IntKind}{i:Int}(h0:0<=i)(h1:i<m):
 (Instr.indexAt t (.slice (some ⟨b,o,none⟩) m c) (.int ik i)).run P w= .ok (.pointer (some ⟨b,o+i.toNat*q,none⟩)) w:=by
 simp [Instr.indexAt,asIntOf,underlying,hu,h0,h1,hS w,a8d]
theorem b1r{α:Type}{r:Rp α}{t e:TypeId}{x y:Operand}{a:Option Addr}{m c:Nat}{ik:IntKind}{i:Int}{xs:List α}{v:α}(hu:P.underlying t=some (.slice e))(hS:SizeIs P e r.k)
 (hg:isOn opr env g=true) (hn:Nat.blt d n=true) (hx:opv env x=some (.slice a m c)) (hy:opv env y=some (.int ik i)) (hs:SlR r F a m c xs) (hi:ix xs i=some v)
 (k:∀b o cs,FC F b o cs->r.R F cs v->RW P opr Q rest n ((d,.pointer (some ⟨b,o,none⟩))::env) w):RW P opr Q (⟨some d,.indexAddr t x y,ty,pos,es,g⟩::rest) n env w:=by
 unfold ix at hi;split at hi
 ·rename_i h0;obtain⟨hlt,_⟩:=List.getElem?_eq_some_iff.1 hi;obtain⟨rfl,_,_,h4⟩:=hs;rcases h4 with rfl|⟨b,o,l,rfl,hf,hr⟩
  ·simp at hlt
  obtain⟨cs,hcs,hpre⟩:=RowR.get hr hi;refine a7r rfl (by simpa using hn) hg (fun a ha=> ?_) (k b (o+i.toNat*r.k) cs ?_ hcs)
  ·simp [execOp,ha.op hx,ha.op hy,a9c hu hS h0 (show i<(xs.length:Int) by omega)]
  obtain⟨cells,cty,fz,h5,h6⟩:=hf;refine⟨cells,cty,fz,h5,hpre.trans ?_⟩;rw [<-List.drop_drop];exact b4q h6 _
 cases hi
theorem SlR.part{α:Type}{r:Rp α}{a:Option Addr}{m c p q:Nat}{xs:List α}(hs:SlR r F a m c xs)(h1:p<=q)(h2:q<=xs.length):
 SlR r F (if c=p then a else a.map (·.add (p*r.k))) (q-p) (c-p) ((xs.take q).drop p):=by
 obtain⟨_,h3,h4,h5⟩:=hs;refine⟨by simp;omega,by simp;omega,by omega,?_⟩;rcases h5 with rfl|⟨b,o,l,rfl,hf,hr⟩
 ·left;simp
 by_cases hp:p=q
 ·left;subst hp;simp
 right;have hc:c≠p:=by omega
 refine⟨b,o+p*r.k,(l.take (q*r.k)).drop (p*r.k),by simp [hc,a8d],?_,(hr.take q).drop p⟩;obtain⟨cells,cty,fz,h6,h7⟩:=hf;refine⟨cells,cty,fz,h6,?_⟩;rw [<-List.drop_drop];exact b4q ((List.take_prefix _ _).trans h7) _
theorem a1v(h:HS F0 w0 [] F O w){i:Nat}{e:TypeId}{q m c:Nat}{a:Option Addr}{xs:List Value}{α:Type}{r:Rp α}{ts:List α}(hi:O[i]?=some (.row e q a m c xs))(hrn:RowN r F m xs ts):
 ∃F',F.le F'/\HS F0 w0 [] F' (O.eraseIdx i) w/\SlR r F' a m c ts:=by
 obtain⟨hm,hr⟩:=hrn;subst hm;obtain⟨hlt,hget⟩:=List.getElem?_eq_some_iff.1 hi;have hperm:HS F0 w0 [] F (.row e q a ts.length c xs::O.eraseIdx i) w:=by
  refine⟨h.sat,h.le,h.new,fun x hx=> ?_,fun x hx=> ?_,?_,h.os,h.tape,h.output,h.size,h.old⟩
  ·rcases List.mem_cons.1 hx with rfl|hx
   ·exact h.get hi
   exact h.own x ((List.eraseIdx_sublist O i).subset hx)
  ·rcases List.mem_cons.1 hx with rfl|hx
   ·exact h.sep _ (List.mem_of_getElem? hi)
   exact h.sep x ((List.eraseIdx_sublist O i).subset hx)
  refine List.pairwise_cons.2 ⟨fun x hx b hb1 hb2=> ?_,h.dis.sublist (List.eraseIdx_sublist O i)⟩;obtain⟨j,hj,hne,hxj⟩:∃j,∃hj:j<O.length,j≠i/\O[j]=x:=by
   obtain⟨p,hp,rfl⟩:=List.mem_iff_getElem.1 hx;rw [List.getElem_eraseIdx];have hp':p<O.length-1:=by rw [List.length_eraseIdx]at hp;simp [hlt]at hp;exact hp
   split
   ·exact⟨p,by omega,by omega,rfl⟩
   exact⟨p+1,by omega,by omega,rfl⟩
  have hp:=List.pairwise_iff_getElem.1 h.dis;rcases Nat.lt_or_ge j i with h1|h1
  ·exact hp j i hj hlt h1 b (hxj▸hb2) (hget▸hb1)
  exact hp i j hlt hj (by omega) b (hget▸hb1) (hxj▸hb2)
 have hown:=h.get hi;rcases hown.2 with⟨he,h0⟩|⟨gb,cap,cur,he,_,hgb,hnc,hcm,hcs,htake⟩
 ·simp only [Value.slice.injEq]at he;obtain⟨rfl,h1,rfl⟩:=he;have hts:ts= []:=List.eq_nil_of_length_eq_zero h0;subst hts;exact⟨F,Frz.refl F,hperm.sub (List.sublist_cons_self _ _),SlR.nil r F⟩
 simp only [Value.slice.injEq]at he;obtain⟨rfl,_,e3⟩:=he;obtain rfl:cap=c:=e3.symm;have hsep:=hperm.sep _ (List.mem_cons_self ..) gb rfl;have hge:w0.heap.size<=gb:=by
  rcases hsep.2 with h3|h3
  ·exact h3
  cases h3
 have hle:F.le (fun k=>if k=gb then some (.cells cur e (0,0))else F k):=c6h hsep.1;refine⟨_,hle,hperm.freeze rfl rfl hge hgb,rfl,hnc,hcm,.inr ⟨gb,0,xs,rfl,⟨cur,e,(0,0),by simp,?_⟩,hr.mono hle⟩⟩;rw [<-htake];exact List.take_prefix _ _
theorem d4o{c:Operand}{l:List Operand}{ts:Array TypeId}{f:FuncId}{first cap:Array Value}{vl:List Value}{R:Value->Frz->List OE->Prop}(he:Ent P f)(hg:isOn opr env g=true)(hn:Nat.blt d n=true)
 (hc:opv env c=some (.func (.func f) first cap)) (hl:opvs env l=some vl) (h:HS F0 w0 X F O w)
 (hC:Calls P f (first++vl.toArray++cap) w fun e w'=>∃v F' O',e= .returned v/\HS F w [] F' O' w'/\R v F' O')
 (k:∀v F' O' w',F.le F'->HS F0 w0 X F' (O'++O) w'->R v F' O'->RW P opr Q rest n ((d,v)::env) w'):RW P opr Q (⟨some d,.call ⟨.value c,l.toArray,ts⟩,ty,pos,es,g⟩::rest) n env w:=
 d1o (R:=fun v w'=>∃F' O',HS F w [] F' O' w'/\R v F' O') he hg hn hc hl (hC.mono fun _ _⟨v,F',O',h1,h2,h3⟩=>⟨v,h1,F',O',h2,h3⟩)
  (fun v w'⟨F',O',h2,h3⟩=>k v F' O' w' h2.le (h.call h2) h3)
theorem a1q{c:Operand}{l:List Operand}{ts:Array TypeId}{f:FuncId}{vl:List Value}{R:Value->Frz->List OE->Prop}(he:Ent P f)(hg:isOn opr env g=true)(hn:Nat.blt d n=true)
 (hc:opv env c=some (.func (.func f) #[] #[])) (hl:opvs env l=some vl) (h:HS F0 w0 X F O w)
 (hC:Calls P f vl.toArray w fun e w'=>∃v F' O',e= .returned v/\HS F w [] F' O' w'/\R v F' O')
 (k:∀v F' O' w',F.le F'->HS F0 w0 X F' (O'++O) w'->R v F' O'->RW P opr Q rest n ((d,v)::env) w'):RW P opr Q (⟨some d,.call ⟨.value c,l.toArray,ts⟩,ty,pos,es,g⟩::rest) n env w:=
 d4o he hg hn hc hl h (by simpa using hC) k
theorem f4p{xt e:TypeId}{len:Nat}{x y:Operand}{cs:Array Value}{l:List Int}{ik jk:IntKind}{i c:Int}(hu:P.underlying xt=some (.array len e))(hA:b3x P e false)(hS:SizeIs P e 1)(hg:isOn opr env g=true)(hn:Nat.blt d n=true)
 (hx:opv env x=some (.agg cs)) (hy:opv env y=some (.int ik i)) (hcs:cs=(l.map (Value.int jk)).toArray) (hlen:l.length=len) (hc:ix l i=some c)
 (k:RW P opr Q rest n ((d,.int jk c)::env) w):RW P opr Q (⟨some d,.index xt x y,ty,pos,es,g⟩::rest) n env w:=
 a7r rfl (by simpa using hn) hg (fun a ha=>by
  unfold ix at hc;split at hc
  ·rename_i h0;obtain⟨hlt,hget⟩:=List.getElem?_eq_some_iff.1 hc;have e1:i<(len:Int):=by omega
   have e2:cs[i.toNat]?=some (.int jk c):=by subst hcs;simp [hc]
   simp [execOp,ha.op hx,ha.op hy,Instr.index,asIntOf,underlying,hu,h0,e1,hS w,part,hA w,e2]
  cases hc) k
theorem e9p{s t e:TypeId}{x:Operand}{a:Option Addr}{m c i:Nat}{l:List Int}{xs:List Value}(hs:P.underlying s=some (.slice e))(he:P.underlying e=some (.int .u8))(ht:P.underlying t=some .string)(hg:isOn opr env g=true)(hn:Nat.blt d n=true)(h:HS F0 w0 X F O w)
 (hx:opv env x=some (.slice a m c)) (hi:O[i]?=some (.row e 1 a m c xs)) (hl:xs=l.map (Value.int .u8)) (k:RW P opr Q rest n ((d,vs (d1s l))::env) w):RW P opr Q (⟨some d,.convert s t x,ty,pos,es,g⟩::rest) n env w:=
 a7r rfl (by simpa using hn) hg (fun a' ha=>by
  have hown:=h.get hi;have hr:(Conv.bytesToString (.slice a m c)).run P w= .ok (vs (d1s l)) w:=by
   rcases hown.2 with⟨he,h0⟩|⟨gb,cap,cur,he,_⟩
   ·simp only [Value.slice.injEq]at he;obtain⟨rfl,rfl,rfl⟩:=he;have:xs= []:=List.eq_nil_of_length_eq_zero (by simpa using hown.1);have hl2:l= []:=by cases l<;>simp_all
    subst hl2;rfl
   simp only [Value.slice.injEq]at he;obtain⟨rfl,_,_⟩:=he;have hload:=run_loadCells_list (P:=P) w ⟨gb,0,none⟩ xs (World.ownsRow.cells hown rfl);rw [hown.1,Nat.mul_one,hl]at hload;rw [run_bytesToString w _ m c l hload]
   congr 1
   rw [d8h,e2x];simp
  simp [execOp,ha.op hx,convert,underlying,hs,ht,he,hr]) k
theorem e2d(h:HS F0 w0 X F O w){T:TypeId}{m b i:Nat}{cs:List Value}(hA:b3x P T true)(hS:SizeIs P T m)(hm:cs.length=m)(hi:O[i]?=some (.box b T cs)):
 (loadVar T ⟨b,0,none⟩).run P w= .ok (.agg cs.toArray) w:=by
 subst hm;have e:=run_loadCells_list (P:=P) w ⟨b,0,none⟩ cs (fun j v hj=>by rw [a8d,Nat.zero_add];exact c3y h hi hj);simp [loadVar,hA w,hS w,e]
end
theorem HS.drew{F0 F:Frz}{w0 w:World}{X:List Nat}{O:List OE}(h:HS F0 w0 X F O w):HS F0 w0 X F O {w with drawn:=w.drawn+1}:=
 ⟨h.sat,h.le,h.new,fun e he=>by have:=h.own e he;cases e<;>exact this,h.sep,h.dis,h.os,h.tape,h.output,h.size,h.old⟩
def CH(F0:Frz)(w0:World)(X:List Nat)(F:Frz)(O:List OE)(w:World):Prop:=∃F',F.le F'/\HS F0 w0 X F' O w
section
variable{P:Program}{Q:Exit->Act->World->Prop}{Qa:Act->Prop}{n:Nat}{env:Env}{w:World}
variable{opr:Array Oper}{rest:List Oper}{d:Nat}{C:World->Prop}
variable{F0 F:Frz}{w0:World}{X:List Nat}{O:List OE}
def QR(P:Program)(ops:Array Oper)(C:World->Prop)(Qa:Act->Prop)(l:List Oper)(n:Nat)(env:Env):Prop:=∀a,Has n a env->wpQuiet P ops C Qa l a
def QQ(C:World->Prop)(d:Nat)(v:Value)(e:Exit)(a:Act)(w:World):Prop:=e= .normal/\C w/\a.tmps[d]?=some v
theorem qq{v:Value}(hC:C w):QW (QQ C d v) .normal n ((d,v)::env) w:=fun a ha=>⟨rfl,hC,ha.get d v (by simp)⟩
def plainOp:Op->Bool | .move _| .assign _| .pick .. | .load .. | .binOp .. | .unOp .. | .convert .. | .fieldAddr .. | .field .. | .indexAddr .. | .index .. | .slice .. | .extract .. | .build .. =>true | .call ⟨.builtin .len,_,_⟩| .call ⟨.builtin .min,_,_⟩| .call ⟨.builtin .max,_,_⟩| .call ⟨.builtin .cap,_,_⟩=>true |_=>false
theorem d4e{s:Sem Value}{x:Next}{w':World}(h:(do pure (.value (<-s)):Sem Next).run P w= .ok x w'):∃u,x= .value u:=by
 simp only [Sem.run_bind]at h;cases hr:s.run P w with
 |ok u w1=>rw [hr]at h;simp at h;exact⟨u,h.1.symm⟩
 |halt x w1=>rw [hr]at h;simp at h
theorem c8d{α:Type}{r:Result α}{f:α->Value}{x:Next}{w':World}(h:(r.andThen fun a w'=>(.ok (.value (f a)) w':Result Next))= .ok x w'):∃u,x= .value u:=by
 cases r with
 |ok u w1=>simp at h;exact⟨_,h.1.symm⟩
 |halt x w1=>simp at h
theorem c6z{o:Oper}{ρ:Operand->Value}(ho:plainOp o.op=true){x:Next}{w':World}(h:(execOp ρ o).run P w= .ok x w'):∃u,x= .value u:=by
 unfold execOp at h;cases hop:o.op<;>simp only [hop,plainOp,Bool.false_eq_true]at ho h
 case move=>simp at h;exact⟨_,h.1.symm⟩
 case assign=>simp at h;exact⟨_,h.1.symm⟩
 case pick c x y=>simp only [Sem.run_bind,Sem.run_pure]at h;exact c8d h
 case call c=>
  obtain⟨callee,args,ts⟩:=c;cases callee with
  |builtin b=>
   cases b<;>simp only [Bool.false_eq_true]at ho<;>
    ·simp only [resolve,invoke,builtin,Sem.run_bind,Sem.run_pure,Result.andThen_ok]at h;exact c8d (f:=id) h
  |_=>simp only [Bool.false_eq_true]at ho
 all_goals exact d4e h
theorem e2l{o:Oper}{v:Value}(hd:o.dst=some d)(hn:Nat.blt d n=true)(hg:isOn opr env o.guard=true)(hv:∀w,C w->∀a,Has n a env->o.quietAt P a C w v)
 (k:QR P opr C Qa rest n ((d,v)::env)):QR P opr C Qa (o::rest) n env:=by
 intro a ha;have hn':d<n:=by simpa using hn
 unfold wpQuiet;rw [if_pos (b1e ha hg)];refine⟨v,fun w hw=>hv w hw a ha,?_⟩;rw [hd];exact k _ (ha.put hn' v)
theorem f3v{o:Oper}{v:Value}(hd:o.dst=some d)(hn:Nat.blt d n=true)(hg:isOn opr env o.guard=true)(ho:plainOp o.op=true)(hs:∀w,C w->RW P opr (QQ (fun w'=>w'=w) d v) [o] n env w)
 (k:QR P opr C Qa rest n ((d,v)::env)):QR P opr C Qa (o::rest) n env:=by
 refine e2l hd hn hg (fun w hw a ha=> ?_) k;have hn':d<n:=by simpa using hn
 have h:=hs w hw a ha;unfold wpList at h;rw [if_pos (b1e ha hg)]at h;rcases h with h|⟨_,_,_,h,_⟩
 ·unfold Oper.quietAt;unfold Oper.wp at h;have hput:∀u,(a.put (some d) u).tmps[d]?=some u:=fun u=>by simp [Act.put,ha.size,hn']
  cases hr:(execOp a.eval o).run P w with
  |ok x w'=>
   obtain⟨u,rfl⟩:=c6z ho hr;rw [hr,Oper.upon_value,hd]at h;have h3:=h.2.2;rw [hput]at h3;exact⟨h.2.1,by simpa using h3⟩
  |halt x w'=>
   rw [hr]at h;cases x<;>first|exact h.elim|exact absurd h.1 (by simp)
 cases h
theorem q_callP0{c:Operand}{l:List Operand}{ts:Array TypeId}{f:FuncId}{vl:List Value}{v:Value}{g:Option (Nat×Bool)}{ty:TypeId}{pos:String}{es:Array Edge}(he:Ent P f)(hg:isOn opr env g=true)(hn:Nat.blt d n=true)
 (hc:opv env c=some (.func (.func f) #[] #[])) (hl:opvs env l=some vl)
 (hC:∀F' w,F.le F'->HS F0 w0 X F' O w->Calls P f vl.toArray w fun e w'=>e= .returned v/\w'=w)
 (k:QR P opr (CH F0 w0 X F O) Qa rest n ((d,v)::env)):QR P opr (CH F0 w0 X F O) Qa (⟨some d,.call ⟨.value c,l.toArray,ts⟩,ty,pos,es,g⟩::rest) n env:=
 e2l rfl hn hg (fun w⟨F',hle,h⟩a ha=>by
  have e:=he vl.toArray w;have e2:(List.map a.eval l)=vl:=ha.opvs hl;unfold Oper.quietAt;simp only [execOp,resolve,Deferred.ofValue,ha.op hc,invoke,List.map_toArray,e2,Array.append_empty,Array.empty_append,Sem.run_bind,Sem.run_pure,Result.andThen_ok,e];exact⟨rfl,(hC F' w hle h).mono fun e w'⟨h1,h2⟩=>⟨h1,F',hle,h2▸h⟩⟩) k
theorem e6a{c:Operand}{l:List Operand}{ts:Array TypeId}{f:FuncId}{vl:List Value}{v:Value}{g:Option (Nat×Bool)}{ty:TypeId}{pos:String}{es:Array Edge}(he:Ent P f)(hg:isOn opr env g=true)(hn:Nat.blt d n=true)
 (hc:opv env c=some (.func (.func f) #[] #[])) (hl:opvs env l=some vl)
 (hC:∀F' w,F.le F'->HS F0 w0 X F' O w->Calls P f vl.toArray w fun e w'=>∃u F'' O',e= .returned u/\HS F' w [] F'' O' w'/\(u=v/\O'= []))
 (k:QR P opr (CH F0 w0 X F O) Qa rest n ((d,v)::env)):QR P opr (CH F0 w0 X F O) Qa (⟨some d,.call ⟨.value c,l.toArray,ts⟩,ty,pos,es,g⟩::rest) n env:=
 e2l rfl hn hg (fun w⟨F',hle,h⟩a ha=>by
  have e:=he vl.toArray w;have e2:(List.map a.eval l)=vl:=ha.opvs hl;unfold Oper.quietAt;simp only [execOp,resolve,Deferred.ofValue,ha.op hc,invoke,List.map_toArray,e2,Array.append_empty,Array.empty_append,Sem.run_bind,Sem.run_pure,Result.andThen_ok,e];refine⟨rfl,(hC F' w hle h).mono ?_⟩;rintro e w' ⟨u,F'',O',rfl,h2,rfl,rfl⟩;exact⟨rfl,F'',hle.trans h2.le,h.call h2⟩) k
theorem a6l{o:Oper}(hd:o.dst=some d)(hn:Nat.blt d n=true)(h:c9r opr env o.guard=true)(k:QR P opr C Qa rest n ((d,undef)::env)):QR P opr C Qa (o::rest) n env:=fun a ha=>by
 have hn':d<n:=by simpa using hn
 unfold wpQuiet;rw [if_neg (by simp [c2p ha h]),hd];exact k _ (ha.put hn' undef)
theorem e1e{l:List Oper}(t:Nat){b c:Bool}(ht:env.lookup t=some (.bool b))(hb:b=c)(k:QR P opr C Qa l n ((t,.bool c)::env)):QR P opr C Qa l n env:=
 fun a ha=>k a ⟨ha.size,ha.defers,fun j v hj=>by
  rw [List.lookup_cons]at hj;split at hj
  ·rename_i e;have e:j=t:=by simpa using e
   subst e;cases hj;subst hb;exact ha.get _ _ ht
  exact ha.get _ _ hj⟩
theorem d9g(k:∀a,Has n a env->Qa a):QR P opr C Qa [] n env:=fun a ha=>wpQuiet_nil (k a ha)
theorem f2g(k:∀w',C w'->QW Q .normal n env w'):QR P opr C (fun a'=>∀w',C w'->Q .normal a' w') [] n env:=fun a ha=>wpQuiet_nil fun w' hw=>k w' hw a ha
theorem d2o{J:Act->Prop}{l1 l2:List Oper}(h2:∀a,J a->wpQuiet P opr C Qa l2 a):∀{a:Act},wpQuiet P opr C J l1 a->wpQuiet P opr C Qa (l1++l2) a:=by
 induction l1 with
 |nil=>intro a h;exact h2 _ h
 |cons o l ih=>
  intro a h;simp only [List.cons_append];unfold wpQuiet at h⊢;split
  ·rename_i hw;rw [if_pos hw]at h;exact Oper.quiet_mono (fun a=>ih) h
  rename_i hw;rw [if_neg hw]at h;exact ih h
theorem f3w{l:List Oper}(k:Nat)(J:Act->Prop)(h2:∀a,J a->wpQuiet P opr C Qa (l.drop k) a)(h1:QR P opr C J (l.take k) n env):QR P opr C Qa l n env:=by
 intro a ha;rw [<-List.take_append_drop k l];exact d2o h2 (h1 a ha)
theorem d7j{l:List Oper}{a:Act}(ha:Has n a env)(h:QR P opr C Qa l n env):wpQuiet P opr C Qa l a:=h a ha
theorem c0z{id:Nat}{l:List Oper}(hm:P.follows .mixedOrders=true)(hB:Region.lexB .any l.toArray=true)(h:HS F0 w0 X F O w)
 (k:QR P l.toArray (CH F0 w0 X F O) (fun a'=>∀w',CH F0 w0 X F O w'->Q .normal a' w') l n env):CW P (.region id l.toArray true) Q n env w:=fun a ha=>
 wp_region_quiet (C:=CH F0 w0 X F O) hm hB ⟨F,Frz.refl F,h.drew⟩ (by simpa using k a ha)
theorem b5z{α:Type}{r:Rp α}{t e:TypeId}{a:Option Addr}{m c:Nat}{i:Int}{xs:List α}{v:α}(hu:P.underlying t=some (.slice e))(hS:SizeIs P e r.k)(hs:SlR r F a m c xs)(hi:ix xs i=some v):
 ∃b o cs,FC F b o cs/\r.R F cs v/\∀(ik:IntKind)(w:World),(Instr.indexAt t (.slice a m c) (.int ik i)).run P w= .ok (.pointer (some ⟨b,o,none⟩)) w:=by
 unfold ix at hi;split at hi
 ·rename_i h0;obtain⟨hlt,_⟩:=List.getElem?_eq_some_iff.1 hi;obtain⟨rfl,_,_,h4⟩:=hs;rcases h4 with rfl|⟨b,o,l,rfl,hf,hr⟩
  ·simp at hlt
  obtain⟨cs,hcs,hpre⟩:=RowR.get hr hi;refine⟨b,o+i.toNat*r.k,cs,?_,hcs,fun ik w=>a9c hu hS h0 (show i<(xs.length:Int) by omega)⟩;obtain⟨cells,cty,fz,h5,h6⟩:=hf;refine⟨cells,cty,fz,h5,hpre.trans ?_⟩;rw [<-List.drop_drop];exact b4q h6 _
 cases hi
theorem b8f{t:TypeId}{x y:Operand}{a:Option Addr}{m c:Nat}{ik:IntKind}{i:Int}{v:Value}{g:Option (Nat×Bool)}{ty:TypeId}{pos:String}{es:Array Edge}(hg:isOn opr env g=true)(hn:Nat.blt d n=true)
 (hx:opv env x=some (.slice a m c)) (hy:opv env y=some (.int ik i)) (hr:∀(ik:IntKind)(w:World),(Instr.indexAt t (.slice a m c) (.int ik i)).run P w= .ok v w)
 (k:QR P opr C Qa rest n ((d,v)::env)):QR P opr C Qa (⟨some d,.indexAddr t x y,ty,pos,es,g⟩::rest) n env:=
 e2l rfl hn hg (fun w _ a ha=>by
  unfold Oper.quietAt;simp only [execOp,ha.op hx,ha.op hy,Sem.run_bind,hr ik w,Result.andThen_ok,Sem.run_pure];exact⟨rfl,rfl⟩) k
end
theorem HS.lend{F:Frz}{w:World}{b:Nat}{t:TypeId}{cs:List Value}(hs:Sat F w)(hb:(OE.box b t cs).ok w)(hf:F b=none):HS F w [b] F [.box b t cs] w:=
 ⟨hs,Frz.refl F,fun _ h=> .inl h,by simpa using hb,by
  intro e he b' hb';obtain rfl:=List.mem_singleton.1 he;obtain rfl:b=b':=Option.some.inj hb';exact⟨hf,.inr (by simp)⟩,by simp,rfl,rfl,rfl,Nat.le_refl _,fun _ _ _=>rfl⟩
section
variable{F0 F:Frz}{w0 w:World}{X:List Nat}{O:List OE}
theorem HS.lendable(h:HS F0 w0 X F O w){i b:Nat}{t:TypeId}{cs:List Value}(hi:O[i]?=some (.box b t cs)):F b=none:=(h.sep _ (List.mem_of_getElem? hi) b rfl).1
theorem HS.callL(h:HS F0 w0 X F O w){i b:Nat}{t:TypeId}{cs cs':List Value}(hi:O[i]?=some (.box b t cs)){F':Frz}{O2:List OE}{w':World}
 (h2:HS F w [b] F' (.box b t cs'::O2) w'):HS F0 w0 X F' (O2++O.set i (.box b t cs')) w':=by
 obtain⟨hlt,hget⟩:=List.getElem?_eq_some_iff.1 hi;have hmem:OE.box b t cs∈O:=List.mem_of_getElem? hi;have hsepb:=h.sep _ hmem b rfl;have hbw:b<w.heap.size:=OE.lt (h.own _ hmem) rfl;have hg:w.grownBy w' (some b):=⟨h2.os,h2.tape,h2.output,h2.size,fun k hk hne=>h2.old k hk (by rw [List.mem_singleton];exact fun e=>hne (by rw [e]))⟩
 have hcase:∀e∈O.set i (.box b t cs'),e= .box b t cs'∨(e∈O/\e.blk≠some b):=by
  intro e he;obtain⟨j,hj,rfl⟩:=List.mem_iff_getElem.1 he;rw [List.getElem_set]
  by_cases hij:i=j
  ·left;rw [if_pos hij]
  right;rw [if_neg hij];have hj':j<O.length:=by simpa using hj
  refine⟨List.getElem_mem hj',fun hb=> ?_⟩;have hp:=List.pairwise_iff_getElem.1 h.dis;rcases Nat.lt_or_ge i j with h1|h1
  ·exact hp i j hlt hj' h1 b (by rw [hget];rfl) hb
  exact hp j i hj' hlt (by omega) b hb (by rw [hget];rfl)
 have hd2:=List.pairwise_cons.1 h2.dis;have hO2:∀e∈O2,∀b',e.blk=some b'->F' b'=none/\w.heap.size<=b':=by
  intro e he b' hb';obtain⟨h1,h3⟩:=h2.sep e (by simp [he]) b' hb';refine⟨h1,?_⟩;rcases h3 with h3|h3
  ·exact h3
  obtain rfl:=List.mem_singleton.1 h3;exact absurd hb' (hd2.1 e he b' rfl)
 refine⟨h2.sat,h.le.trans h2.le,fun b' hb'=> ?_,fun e he=> ?_,fun e he b' hb'=> ?_,?_,h2.os.trans h.os,h2.tape.trans h.tape,h2.output.trans h.output,Nat.le_trans h.size h2.size,fun b' hb' hx=> ?_⟩
 ·rcases h2.new b' hb' with h1|h1
  ·exact h.new b' h1
  exact .inr (Nat.le_trans h.size h1)
 ·rcases List.mem_append.1 he with he|he
  ·exact h2.own e (by simp [he])
  rcases hcase e he with rfl|⟨he,hne⟩
  ·exact h2.own _ (by simp)
  exact OE.kept (h.own e he) hg (fun b1 hb1 e1=>hne (by rw [hb1,e1]))
 ·rcases List.mem_append.1 he with he|he
  ·obtain⟨h1,h3⟩:=hO2 e he b' hb';exact⟨h1,.inl (Nat.le_trans h.size h3)⟩
  rcases hcase e he with rfl|⟨he,hne⟩
  ·obtain rfl:b=b':=Option.some.inj hb';exact⟨(h2.sep _ (List.mem_cons_self ..) b rfl).1,hsepb.2⟩
  obtain⟨h1,h3⟩:=h.sep e he b' hb';refine⟨?_,h3⟩;cases hf:F' b' with
  |none=>rfl
  |some o=>
   rcases h2.new b' (by simp [hf])with h4|h4
   ·exact absurd h1 h4
   have:=OE.lt (h.own e he) hb';omega
 ·refine List.pairwise_append.2 ⟨hd2.2,?_,fun e he e' he' b' hb1 hb2=> ?_⟩
  ·rw [List.pairwise_iff_getElem];intro j k hj hk hjk b' hb1 hb2;have hj':j<O.length:=by simpa using hj
   have hk':k<O.length:=by simpa using hk
   have hp:=List.pairwise_iff_getElem.1 h.dis j k hj' hk' hjk b';have hblk:∀l(hl:l<(O.set i (.box b t cs')).length)(hl':l<O.length),(O.set i (.box b t cs'))[l].blk=O[l].blk:=by
    intro l hl hl';rw [List.getElem_set];split
    ·rename_i e1;subst e1;rw [hget];rfl
    rfl
   rw [hblk j hj hj']at hb1;rw [hblk k hk hk']at hb2;exact hp hb1 hb2
  have h1:=(hO2 e he b' hb1).2;rcases hcase e' he' with rfl|⟨he',_⟩
  ·obtain rfl:b=b':=Option.some.inj hb2;omega
  have:=OE.lt (h.own e' he') hb2;omega
 have hne:b'≠b:=by
  rintro rfl;rcases hsepb.2 with h1|h1
  ·omega
  exact hx h1
 rw [h2.old b' (Nat.lt_of_lt_of_le hb' h.size) (by simpa using hne)];exact h.old b' hb' hx
theorem HS.unlend{b:Nat}{k:Nat}{t:TypeId}{cs:List Value}(h:HS F0 w0 [b] F O w)(hk:O[k]?=some (.box b t cs)){e:OE}{i:Nat}(hi:O[i]?=some e)(hik:i≠k){b':Nat}(hb:e.blk=some b'):w0.heap.size<=b':=by
 rcases(h.sep e (List.mem_of_getElem? hi) b' hb).2 with h1|h1
 ·exact h1
 obtain rfl:=List.mem_singleton.1 h1;obtain⟨hi1,hi2⟩:=List.getElem?_eq_some_iff.1 hi;obtain⟨hk1,hk2⟩:=List.getElem?_eq_some_iff.1 hk;have hp:=List.pairwise_iff_getElem.1 h.dis;rcases Nat.lt_or_ge i k with h2|h2
 ·exact absurd (by rw [hk2];rfl) (hp i k hi1 hk1 h2 b' (by rw [hi2];exact hb))
 exact absurd (by rw [hi2];exact hb) (hp k i hk1 hi1 (by omega) b' (by rw [hk2];rfl))
theorem c8j(h:HS F0 w0 X F O w){i:Nat}{e:TypeId}{q m c:Nat}{a:Option Addr}{xs:List Value}{α:Type}{r:Rp α}{ts:List α}(hi:O[i]?=some (.row e q a m c xs))(hrn:RowN r F m xs ts)(hX:∀gb,(OE.row e q a m c xs).blk=some gb->w0.heap.size<=gb):
 ∃F',F.le F'/\HS F0 w0 X F' (O.eraseIdx i) w/\SlR r F' a m c ts:=by
 obtain⟨hm,hr⟩:=hrn;subst hm;obtain⟨hlt,hget⟩:=List.getElem?_eq_some_iff.1 hi;have hperm:HS F0 w0 X F (.row e q a ts.length c xs::O.eraseIdx i) w:=by
  refine⟨h.sat,h.le,h.new,fun x hx=> ?_,fun x hx=> ?_,?_,h.os,h.tape,h.output,h.size,h.old⟩
  ·rcases List.mem_cons.1 hx with rfl|hx
   ·exact h.get hi
   exact h.own x ((List.eraseIdx_sublist O i).subset hx)
  ·rcases List.mem_cons.1 hx with rfl|hx
   ·exact h.sep _ (List.mem_of_getElem? hi)
   exact h.sep x ((List.eraseIdx_sublist O i).subset hx)
  refine List.pairwise_cons.2 ⟨fun x hx b hb1 hb2=> ?_,h.dis.sublist (List.eraseIdx_sublist O i)⟩;obtain⟨j,hj,hne,hxj⟩:∃j,∃hj:j<O.length,j≠i/\O[j]=x:=by
   obtain⟨p,hp,rfl⟩:=List.mem_iff_getElem.1 hx;rw [List.getElem_eraseIdx];have hp':p<O.length-1:=by rw [List.length_eraseIdx]at hp;simp [hlt]at hp;exact hp
   split
   ·exact⟨p,by omega,by omega,rfl⟩
   exact⟨p+1,by omega,by omega,rfl⟩
  have hp:=List.pairwise_iff_getElem.1 h.dis;rcases Nat.lt_or_ge j i with h1|h1
  ·exact hp j i hj hlt h1 b (hxj▸hb2) (hget▸hb1)
  exact hp i j hlt hj (by omega) b (hget▸hb1) (hxj▸hb2)
 have hown:=h.get hi;rcases hown.2 with⟨he,h0⟩|⟨gb,cap,cur,he,_,hgb,hnc,hcm,hcs,htake⟩
 ·simp only [Value.slice.injEq]at he;obtain⟨rfl,h1,rfl⟩:=he;have hts:ts= []:=List.eq_nil_of_length_eq_zero h0;subst hts;exact⟨F,Frz.refl F,hperm.sub (List.sublist_cons_self _ _),SlR.nil r F⟩
 simp only [Value.slice.injEq]at he;obtain⟨rfl,_,e3⟩:=he;obtain rfl:cap=c:=e3.symm;have hsep:=hperm.sep _ (List.mem_cons_self ..) gb rfl;have hge:w0.heap.size<=gb:=hX gb rfl;have hle:F.le (fun k=>if k=gb then some (.cells cur e (0,0))else F k):=c6h hsep.1;refine⟨_,hle,hperm.freeze rfl rfl hge hgb,rfl,hnc,hcm,.inr ⟨gb,0,xs,rfl,⟨cur,e,(0,0),by simp,?_⟩,hr.mono hle⟩⟩;rw [<-htake];exact List.take_prefix _ _
end
section
variable{P:Program}{Q:Exit->Act->World->Prop}{n:Nat}{env:Env}{w:World}
variable{opr:Array Oper}{rest:List Oper}{d:Nat}{g:Option (Nat×Bool)}{ty:TypeId}{pos:String}{es:Array Edge}
variable{F0 F:Frz}{w0:World}{X:List Nat}{O:List OE}
theorem d9r{c:Operand}{l:List Operand}{ts:Array TypeId}{f:FuncId}{vl:List Value}{R:Value->Frz->List Value->List OE->Prop}{i b:Nat}{t:TypeId}{cs:List Value}(he:Ent P f)(hg:isOn opr env g=true)(hn:Nat.blt d n=true)
 (hc:opv env c=some (.func (.func f) #[] #[])) (hl:opvs env l=some vl) (h:HS F0 w0 X F O w) (hi:O[i]?=some (.box b t cs))
 (hC:Calls P f vl.toArray w fun e w'=>∃v F' cs' O',e= .returned v/\HS F w [b] F' (.box b t cs'::O') w'/\R v F' cs' O')
 (k:∀v F' cs' O' w',F.le F'->HS F0 w0 X F' (O'++O.set i (.box b t cs')) w'->R v F' cs' O'->RW P opr Q rest n ((d,v)::env) w'):RW P opr Q (⟨some d,.call ⟨.value c,l.toArray,ts⟩,ty,pos,es,g⟩::rest) n env w:=
 d1o (first:= #[]) (cap:= #[]) (R:=fun v w'=>∃F' cs' O',HS F w [b] F' (.box b t cs'::O') w'/\R v F' cs' O') he hg hn hc hl (by simpa using hC.mono fun _ _⟨v,F',cs',O',h1,h2,h3⟩=>⟨v,h1,F',cs',O',h2,h3⟩)
  (fun v w'⟨F',cs',O',h2,h3⟩=>k v F' cs' O' w' h2.le (h.callL hi h2) h3)
end
def NP(Q:Exit->Act->World->Prop):Exit->Act->World->Prop:=fun e a w=>e= .normal/\Q .normal a w
def QK(K:Act->World->Prop):Exit->Act->World->Prop:=fun e a w=>e= .normal/\K a w
def SH(F:Frz)(O:List OE)(w:World):Prop:=∃F' X,F.le F'/\HS F' w X F' O w
section
variable{P:Program}{Q:Exit->Act->World->Prop}{n:Nat}{env:Env}{w:World}
variable{ops:Array Oper}{d:Nat}{S:World->Prop}{fuel:Nat}{listed:Array Bool}
variable{F0 F:Frz}{w0:World}{X:List Nat}{O:List OE}
theorem HS.sh(h:HS F0 w0 X F O w){F1:Frz}(hle:F1.le F)(l:List Nat)(hl:l.Nodup){O1:List OE}(hO:Rt.pick O l=O1):SH F1 O1 w:=by
 have h2:=h.pick l hl hO;refine⟨F,O1.filterMap OE.blk,hle,h2.sat,Frz.refl F,fun _ hb=> .inl hb,h2.own,fun e he b hb=>⟨(h2.sep e he b hb).1,.inr (List.mem_filterMap.2 ⟨e,he,hb⟩)⟩,h2.dis,rfl,rfl,rfl,Nat.le_refl _,fun _ _ _=>rfl⟩
def DW(P:Program)(ops:Array Oper)(Q:Exit->Act->World->Prop)(S:World->Prop)(fuel:Nat)(listed:Array Bool)(n:Nat)(env:Env)(w:World):Prop:= ∀a,Has n a env->wpAnyH P .any ops (NP Q) S fuel listed a w
theorem c8x{o:Oper}{a:Act}{K:Act->World->Prop}{r:Result Next}(h:o.upon P a K (QK K) r):o.upon P a K (NP Q) r:=by
 cases r with
 |ok x w'=>
  cases x<;>simp only [Oper.upon]at h⊢<;>
   first
    |exact h
    |exact Calls.mono h (fun e w'' he=>by
     cases e with
     |returned v=>exact he
     |panicked c=>exact absurd he.1 (by simp)
     |outgrown=>obtain⟨_,_,h3,_⟩:=he;cases h3)
 |halt x w'=>cases x<;>simp only [Oper.upon]at h⊢<;>exact absurd h.1 (by simp)
theorem a3w(i:Nat){o:Oper}(hi:ops[i]?=some o)(hr:Region.ready .any ops listed= [i])
 (h:RW P ops (QK fun a w'=>S w'/\wpAnyH P .any ops (NP Q) S fuel (listed.setIfInBounds i true) a w') [o] n env w):DW P ops Q S (fuel+1) listed n env w:=by
 intro a ha;refine wpAnyH_all hr (by simp) ?_;intro j hj;obtain rfl:=List.mem_singleton.1 hj;have h1:=h a ha;unfold wpList at h1;unfold wpOp;simp only [hi];split at h1
 ·rename_i hw;rw [if_pos hw];rcases h1 with h1|⟨_,_,_,h2,_⟩
  ·left;unfold Oper.wp at*;refine c8x ?_;have:(wpList P ops (QK fun a w'=>S w'/\wpAnyH P .any ops (NP Q) S fuel (listed.setIfInBounds j true) a w') [])=fun a w'=>(QK fun a w'=>S w'/\wpAnyH P .any ops (NP Q) S fuel (listed.setIfInBounds j true) a w') .normal a w':=rfl;rw [this]at h1;exact Oper.wp_mono (o:=o) (w:=w) (fun a w' hh=>hh.2) h1
  cases h2
 rename_i hw;rw [if_neg hw];exact h1.2
theorem c3m(i j:Nat){o o':Oper}(hi:ops[i]?=some o)(hj:ops[j]?=some o')(hr:Region.ready .any ops listed= [i,j])
 (h:RW P ops (QK fun a w'=>S w'/\wpAnyH P .any ops (NP Q) S fuel (listed.setIfInBounds i true) a w') [o] n env w)
 (h':RW P ops (QK fun a w'=>S w'/\wpAnyH P .any ops (NP Q) S fuel (listed.setIfInBounds j true) a w') [o'] n env w):DW P ops Q S (fuel+1) listed n env w:=by
 have one:∀(k:Nat)(x:Oper),ops[k]?=some x->RW P ops (QK fun a w'=>S w'/\wpAnyH P .any ops (NP Q) S fuel (listed.setIfInBounds k true) a w') [x] n env w->∀a,Has n a env->
  wpOp P ops (NP Q) k (fun a' w'=>S w'/\wpAnyH P .any ops (NP Q) S fuel (listed.setIfInBounds k true) a' w') a w:=by
  intro k x hk hx a ha;have h1:=hx a ha;unfold wpList at h1;unfold wpOp;simp only [hk];split at h1
  ·rename_i hw;rw [if_pos hw];rcases h1 with h1|⟨_,_,_,h2,_⟩
   ·left;unfold Oper.wp at*;refine c8x ?_;have:(wpList P ops (QK fun a w'=>S w'/\wpAnyH P .any ops (NP Q) S fuel (listed.setIfInBounds k true) a w') [])=fun a w'=>(QK fun a w'=>S w'/\wpAnyH P .any ops (NP Q) S fuel (listed.setIfInBounds k true) a w') .normal a w':=rfl;rw [this]at h1;exact Oper.wp_mono (o:=x) (w:=w) (fun a w' hh=>hh.2) h1
   cases h2
  rename_i hw;rw [if_neg hw];exact h1.2
 intro a ha;refine wpAnyH_all hr (by simp) ?_;intro k hk;simp only [List.mem_cons,List.not_mem_nil,or_false]at hk;rcases hk with rfl|rfl
 ·exact one _ _ hi h a ha
 exact one _ _ hj h' a ha
theorem a2k(hS:S w)(k:DW P ops Q S fuel listed n env w):RW P ops (QK fun a w'=>S w'/\wpAnyH P .any ops (NP Q) S fuel listed a w') [] n env w:=
 fun a ha=>⟨rfl,hS,k a ha⟩
theorem b8l(hr:Region.ready .any ops listed= [])(k:QW Q .normal n env w):DW P ops Q S fuel listed n env w:=
 fun a ha=>wpAnyH_done hr ⟨rfl,k a ha⟩ fuel
theorem c9l(i:Nat){o:Oper}{v:Value}(hi:ops[i]?=some o)(hs:Region.noSelect ops=true)(hf:Region.free .any ops listed i=true)(hr:(Region.ready .any ops listed).contains i=true)
 (hd:o.dst=some d) (hn:Nat.blt d n=true) (hg:isOn ops env o.guard=true) (hS:S w) (hv:∀w',S w'->∀a,Has n a env->(execOp a.eval o).run P w'= .ok (.value v) w')
 (k:DW P ops Q S fuel (listed.setIfInBounds i true) n ((d,v)::env) w):DW P ops Q S (fuel+1) listed n env w:=by
 intro a ha;have hn':d<n:=by simpa using hn
 refine wpAnyH_take hi hs hf hr (fun c a w h=>absurd h.1 (by simp)) (v:=v) (.inl ⟨b1e ha hg,fun w' hw'=>hv w' hw' a ha⟩) hS ?_;rw [hd];exact k _ (ha.put hn' v)
theorem f3k(i:Nat){o:Oper}{v:Value}(hi:ops[i]?=some o)(hs:Region.noSelect ops=true)(hf:Region.free .any ops listed i=true)(hr:(Region.ready .any ops listed).contains i=true)
 (hd:o.dst=some d) (hn:Nat.blt d n=true) (hg:isOn ops env o.guard=true) (ho:plainOp o.op=true) (hS:S w) (hv:∀w',S w'->RW P ops (QQ (fun w''=>w''=w') d v) [o] n env w')
 (k:DW P ops Q S fuel (listed.setIfInBounds i true) n ((d,v)::env) w):DW P ops Q S (fuel+1) listed n env w:=by
 refine c9l i hi hs hf hr hd hn hg hS (fun w' hw' a ha=> ?_) k;have hn':d<n:=by simpa using hn
 have h:=hv w' hw' a ha;unfold wpList at h;rw [if_pos (b1e ha hg)]at h;rcases h with h|⟨_,_,_,h,_⟩
 ·unfold Oper.wp at h;have hput:∀u,(a.put (some d) u).tmps[d]?=some u:=fun u=>by simp [Act.put,ha.size,hn']
  cases hrn:(execOp a.eval o).run P w' with
  |ok x w''=>
   obtain⟨u,rfl⟩:=c6z ho hrn;rw [hrn,Oper.upon_value,hd]at h;have h3:=h.2.2;rw [hput]at h3;obtain rfl:w''=w':=h.2.1;obtain rfl:u=v:=by simpa using h3
   rfl
  |halt x w''=>
   rw [hrn]at h;cases x<;>first|exact h.elim|exact absurd h.1 (by simp)
 cases h
theorem e6b(i:Nat){t:TypeId}{x y:Operand}{a:Option Addr}{m c:Nat}{ik:IntKind}{z:Int}{v:Value}{g:Option (Nat×Bool)}{ty:TypeId}{pos:String}{es:Array Edge}(hi:ops[i]?=some ⟨some d,.indexAddr t x y,ty,pos,es,g⟩)(hs:Region.noSelect ops=true)(hf:Region.free .any ops listed i=true)
 (hr:(Region.ready .any ops listed).contains i=true) (hn:Nat.blt d n=true) (hg:isOn ops env g=true)
 (hx:opv env x=some (.slice a m c)) (hy:opv env y=some (.int ik z)) (hrun:∀(ik:IntKind)(w:World),(Instr.indexAt t (.slice a m c) (.int ik z)).run P w= .ok v w) (hS:S w)
 (k:DW P ops Q S fuel (listed.setIfInBounds i true) n ((d,v)::env) w):DW P ops Q S (fuel+1) listed n env w:=
 c9l i hi hs hf hr rfl hn hg hS (fun w' _ a ha=>by simp [execOp,ha.op hx,ha.op hy,hrun]) k
theorem f5j(i:Nat){o:Oper}(hi:ops[i]?=some o)(hs:Region.noSelect ops=true)(hf:Region.free .any ops listed i=true)(hr:(Region.ready .any ops listed).contains i=true)
 (hd:o.dst=some d) (hn:Nat.blt d n=true) (hg:c9r ops env o.guard=true) (hS:S w)
 (k:DW P ops Q S fuel (listed.setIfInBounds i true) n ((d,undef)::env) w):DW P ops Q S (fuel+1) listed n env w:=by
 intro a ha;have hn':d<n:=by simpa using hn
 refine wpAnyH_take hi hs hf hr (fun c a w h=>absurd h.1 (by simp)) (v:=undef) (.inr ⟨by simp [c2p ha hg],rfl⟩) hS ?_;rw [hd];exact k _ (ha.put hn' undef)
theorem c0j{id:Nat}{l:List Oper}(S:World->Prop)(N:Nat)(hN:l.toArray.size=N)(hm:P.follows .mixedOrders=true)(h:HS F0 w0 X F O w)
 (k:∀w',HS F0 w0 X F O w'->DW P l.toArray Q S N (Array.replicate N false) n env w'):CW P (.region id l.toArray true) Q n env w:=fun a ha=>by
 subst hN;have h1:=k _ h.drew a ha;have h2:=wp_region_held (Q:=NP Q) (id:=id) (a:=a) (w:=w) hm h1;refine Code.wp_mono ?_ h2;rintro e a' w' ⟨rfl,h3⟩;exact h3
end
def mget{K V:Type} [BEq K](l:List (K×V))(k:K):Option V:=(l.find? fun p=>k==p.1).map (·.2)
def mput{K V:Type} [BEq K]:List (K×V)->K->V->List (K×V) | [],k,v=> [(k,v)] |p::l,k,v=>if k==p.1 then(p.1,v)::l else p::mput l k v
def MpR{K V:Type}(ek:K->Value)(ev:V->Value):List MapEntry->List (K×V)->Prop | [],[]=>True |e::es,p::l=>e.key=ek p.1/\e.val=ev p.2/\MpR ek ev es l |_,_=>False
structure KeyIs(P:Program)(kt:TypeId){K:Type} [BEq K](ek:K->Value)(D:TypeDesc):Prop where
 desc:P.underlying kt=some D
 now:∀x y:K,Instr.sameNow D (ek x) (ek y)=some (x==y)
 check:∀(b:Bool)(x:K)(w:World),(Instr.checkKey b 10000 kt (ek x)).run P w= .ok () w
 bits:∀x y:K,(x==y)=true->Instr.sameBits 10000 (ek x) (ek y)=true
 eq:∀x y:K,(x==y)=true->x=y
 refl:∀x:K,(x==x)=true
theorem KeyIs.int{P:Program}{kt:TypeId}{k:IntKind}(h:P.underlying kt=some (.int k)):KeyIs P kt (K:=Int) (Value.int k) (.int k)where
 desc:=h
 now x y:=by simp [Instr.sameNow]
 check b x w:=by rw [show(10000:Nat)=9999+1 from rfl,Instr.checkKey];simp [underlying,h]
 bits x y e:=by simp only [beq_iff_eq]at e;subst e;simp [Instr.sameBits]
 eq x y e:=by simpa using e
 refl x:=by simp
theorem e8a(x y:Bs):((⟨x.toArray⟩:ByteArray)==⟨y.toArray⟩)=(x==y):=by
 show(x.toArray==y.toArray)=(x==y)
 simp
theorem KeyIs.str{P:Program}{kt:TypeId}(h:P.underlying kt=some .string):KeyIs P kt (K:=Bs) vs .string where
 desc:=h
 now x y:=by simp only [Instr.sameNow,vs];rw [e8a]
 check b x w:=by rw [show(10000:Nat)=9999+1 from rfl,Instr.checkKey];simp [underlying,h,vs]
 bits x y e:=by
  simp only [beq_iff_eq]at e;subst e;show((⟨x.toArray⟩:ByteArray)==⟨x.toArray⟩)=true;rw [e8a];simp
 eq x y e:=by simpa using e
 refl x:=by simp
section
variable{P:Program}{kt:TypeId}{K V:Type} [BEq K]{ek:K->Value}{ev:V->Value}{D:TypeDesc}
theorem c4q(hk:KeyIs P kt ek D)(k:K):∀{es:List MapEntry}{l:List (K×V)}(i:Nat),(∀p∈l,True)->MpR ek ev es l->
 (∃r,Instr.findNow D (ek k) es i=some r/\r.map (·.2)=((l.find? fun p=>k==p.1).map (·.2)).map ev)
 | [],[],_,_,_=>⟨none,rfl,rfl⟩
 |e::es,p::l,i,_,h=>by
  obtain⟨h1,h2,h3⟩:=h;simp only [Instr.findNow,h1,hk.now];cases hb:(k==p.1)
  ·obtain⟨r,h4,h5⟩:=c4q hk k (i+1) (fun _ _=>trivial) h3;exact⟨r,h4,by rw [h5,List.find?_cons,hb]⟩
  exact⟨some (i,e.val),rfl,by rw [List.find?_cons,hb];simp [h2]⟩
 | [],_::_,_,_,h=>h.elim
 |_::_,[],_,_,h=>h.elim
theorem c6t(hk:KeyIs P kt ek D)(k:K)(v:V):∀{es:List MapEntry}{l:List (K×V)}(i:Nat),MpR ek ev es l->
 (Instr.findNow D (ek k) es i=some none/\∀b,MpR ek ev (es++ [{key:=ek k,val:=ev v,born:=b}]) (mput l k v))∨
 ∃j e0,Instr.findNow D (ek k) es i=some (some (i+j,e0))/\(∃e,es[j]?=some e/\e.key=ek k)/\MpR ek ev (es.modify j fun e=>{e with key:=ek k,val:=ev v}) (mput l k v)
 | [],[],_,_=> .inl ⟨rfl,fun b=>⟨rfl,rfl,trivial⟩⟩
 |e::es,p::l,i,h=>by
  obtain⟨h1,h2,h3⟩:=h;simp only [Instr.findNow,h1,hk.now,mput];cases hb:(k==p.1)
  ·rcases c6t hk k v (i+1) h3 with⟨h4,h5⟩|⟨j,e0,h4,h5,h6⟩
   ·exact .inl ⟨h4,fun b=>⟨h1,h2,h5 b⟩⟩
   exact .inr ⟨j+1,e0,by simp only [h4,Nat.add_assoc,Nat.add_comm 1 j],by simpa using h5,by simpa [List.modify_succ_cons]using⟨h1,h2,h6⟩⟩
  have hkp:=hk.eq _ _ hb;exact .inr ⟨0,e.val,by simp,⟨e,rfl,by rw [h1,hkp]⟩,by simpa [MpR,hkp]using h3⟩
 | [],_::_,_,h=>h.elim
 |_::_,[],_,h=>h.elim
theorem e3u{es:List MapEntry}{clock:Nat}(h:b6x es clock)(k v:Value):b6x (es++ [{key:=k,val:=v,born:=clock}]) (clock+1):=by
 refine⟨?_,fun e he=> ?_⟩
 ·rw [List.map_append,List.nodup_append];refine⟨h.1,by simp,fun a ha b hb=> ?_⟩;obtain⟨x,hx,rfl⟩:=List.mem_map.1 ha;have hb:b=clock:=by simpa using hb
  have:=h.2 x hx;omega
 rcases List.mem_append.1 he with he|he
 ·have:=h.2 e he;omega
 obtain rfl:=List.mem_singleton.1 he;exact Nat.lt_succ_self _
theorem e1r{es:List MapEntry}{clock:Nat}(h:b6x es clock)(j:Nat)(k v:Value):b6x (es.modify j fun e=>{e with key:=k,val:=v}) clock:=by
 have hm:∀(es:List MapEntry)(j:Nat),(es.modify j fun e=>{e with key:=k,val:=v}).map (·.born)=es.map (·.born):=by
  intro es;induction es with
  |nil=>intro j;cases j<;>rfl
  |cons e es ih=>
   intro j;cases j with
   |zero=>rfl
   |succ j=>rw [List.modify_succ_cons,List.map_cons,List.map_cons,ih]
 refine⟨by rw [hm];exact h.1,fun e he=> ?_⟩;have h1:e.born∈(es.modify j fun e=>{e with key:=k,val:=v}).map (·.born):=List.mem_map.2 ⟨e,he,rfl⟩;rw [hm]at h1;obtain⟨x,hx,h2⟩:=List.mem_map.1 h1;rw [<-h2];exact h.2 x hx
theorem e9x(hk:KeyIs P kt ek D){t et:TypeId}(hu:P.underlying t=some (.map kt et)){w:World}{r clock:Nat}{es:List MapEntry}{l:List (K×V)}(hb:w.heap[r]?=some (.map es.toArray clock))(hst:b6x es clock)(hr:MpR ek ev es l)(k:K)(v:V):
 ∃es' clock',(Instr.mapUpdate t (.map (some r)) (ek k) (ev v)).run P w= .ok () {w with heap:=w.heap.setIfInBounds r (.map es'.toArray clock')}/\MpR ek ev es' (mput l k v)/\b6x es' clock':=by
 have hc:=hk.check false k w;rcases c6t hk k v 0 hr with⟨h1,h2⟩|⟨j,e0,h1,⟨e,h3,h4⟩,h5⟩
 ·refine⟨es++ [{key:=ek k,val:=ev v,born:=clock}],clock+1,?_,h2 clock,e3u hst _ _⟩;have hf:(Instr.findKey kt (ek k) es).run P w= .ok none w:=by simp [Instr.findKey,run_underlying hk.desc,h1]
  simp [Instr.mapUpdate,run_underlying hu,MapKept.run_getObj_map hb,hc,hf,MapKept.run_setObj_map _ hb,Result.andThen]
 refine⟨es.modify j fun e=>{e with key:=ek k,val:=ev v},clock,?_,h5,e1r hst _ _ _⟩;have hf:(Instr.findKey kt (ek k) es).run P w= .ok (some (j,e0)) w:=by
  rw [Nat.zero_add]at h1;simp [Instr.findKey,run_underlying hk.desc,h1]
 have hkk:=hk.refl k;have hst:(Instr.keyThatStays (ek k) (ek k)).run P w= .ok (ek k) w:=by simp [Instr.keyThatStays,hk.bits k k hkk]
 simp [Instr.mapUpdate,run_underlying hu,MapKept.run_getObj_map hb,hc,hf,h3,h4,hst,MapKept.run_setObj_map _ hb,Result.andThen]
theorem e9b(hk:KeyIs P kt ek D){t et:TypeId}(hu:P.underlying t=some (.map kt et)){w:World}{r clock:Nat}{es:List MapEntry}{l:List (K×V)}{z:Value}(hz:(zeroValue et).run P w= .ok z w)(hb:w.heap[r]?=some (.map es.toArray clock))(hr:MpR ek ev es l)(k:K):
 (Instr.lookup t (.map (some r)) (ek k) true).run P w= .ok (.tuple #[((mget l k).map ev).getD z,.bool (mget l k).isSome]) w:=by
 have hc:=hk.check es.isEmpty k w;obtain⟨q,h1,h2⟩:=c4q hk k (ev:=ev) 0 (fun _ _=>trivial) hr;have hf:(Instr.findKey kt (ek k) es).run P w= .ok q w:=by simp [Instr.findKey,run_underlying hk.desc,h1]
 have hm:(l.find? fun p=>k==p.1).map (·.2)=mget l k:=rfl;rw [hm]at h2;cases q with
 |none=>
  cases hg:mget l k with
  |none=>simp [Instr.lookup,run_underlying hu,MapKept.run_getObj_map hb,hc,hf,hz,Result.andThen]
  |some v=>rw [hg]at h2;cases h2
 |some p=>
  cases hg:mget l k with
  |none=>rw [hg]at h2;cases h2
  |some v=>
   rw [hg]at h2;have h3:p.2=ev v:=by simpa using h2
   simp [Instr.lookup,run_underlying hu,MapKept.run_getObj_map hb,hc,hf,h3,Result.andThen]
end
section
variable{P:Program}{Q:Exit->Act->World->Prop}{n:Nat}{env:Env}{w:World}
variable{opr:Array Oper}{rest:List Oper}{d:Nat}{g:Option (Nat×Bool)}{ty:TypeId}{pos:String}{es:Array Edge}
variable{F0 F:Frz}{w0:World}{X:List Nat}{O:List OE}
variable{kt:TypeId}{K V:Type} [BEq K]{ek:K->Value}{ev:V->Value}{D:TypeDesc}
theorem e2w{t:TypeId}(hg:isOn opr env g=true)(hn:Nat.blt d n=true)(h:HS F0 w0 X F O w)
 (k:∀b w',HS F0 w0 X F (.mp b [] 0::O) w'->RW P opr Q rest n ((d,.map (some b))::env) w'):RW P opr Q (⟨some d,.makeMap t none,ty,pos,es,g⟩::rest) n env w:=
 b5w (w':=w.alloc (.map #[] 0)) rfl (by simpa using hn) hg (fun a ha=>by simp [execOp,run_makeMap]) (k w.heap.size _ (h.add (World.grownBy_alloc w _ none) (by
  exact⟨by show(w.alloc _).heap[w.heap.size]?=_;rw [heap_alloc_new],List.nodup_nil,fun _ he=>by cases he⟩) (by simp [OE.blk])))
theorem d1h(w:World)(r:Nat)(o:Obj):w.grownBy {w with heap:=w.heap.setIfInBounds r o} (some r):=
 ⟨rfl,rfl,rfl,by simp,fun k _ hne=>by
  have:r≠k:=fun e=>hne (by rw [e]);simp [this]⟩
theorem b3g{op:Op}{t et:TypeId}{m kx vx:Operand}{r clock i:Nat}{ents:List MapEntry}{l:List (K×V)}{k:K}{v:V}(hop:op= .insert t m kx vx∨op= .mapUpdate t m kx vx)(hk:KeyIs P kt ek D)(hu:P.underlying t=some (.map kt et))(hg:isOn opr env g=true)
 (h:HS F0 w0 X F O w) (hm:opv env m=some (.map (some r))) (hkx:opv env kx=some (ek k)) (hvx:opv env vx=some (ev v)) (hi:O[i]?=some (.mp r ents clock)) (hr:MpR ek ev ents l)
 (kont:∀w' es' clock',HS F0 w0 X F (O.set i (.mp r es' clock')) w'->MpR ek ev es' (mput l k v)->RW P opr Q rest n env w'):RW P opr Q (⟨none,op,ty,pos,es,g⟩::rest) n env w:=by
 obtain⟨hb,hst⟩:w.heap[r]?=some (.map ents.toArray clock)/\b6x ents clock:=h.get hi;obtain⟨es',clock',hrun,hmp,hst'⟩:=e9x hk hu hb hst hr k v;refine e2j (w':={w with heap:=w.heap.setIfInBounds r (.map es'.toArray clock')}) rfl hg (fun a ha=> ?_) (kont _ es' clock' (h.upd hi (d1h w r _) ?_ (fun k hk=> .inl hk)) hmp)
 ·rcases hop with rfl|rfl<;>simp [execOp,ha.op hm,ha.op hkx,ha.op hvx,hrun]
 have hlt:r<w.heap.size:=(Array.getElem?_eq_some_iff.1 hb).1;refine⟨?_,hst'⟩;show(w.heap.setIfInBounds r _)[r]?=_;simp [hlt]
theorem e6g{t et:TypeId}{m kx:Operand}{r clock i:Nat}{ents:List MapEntry}{l:List (K×V)}{k:K}{z:V}(hk:KeyIs P kt ek D)(hu:P.underlying t=some (.map kt et))(hz:∀w,(zeroValue et).run P w= .ok (ev z) w)(hg:isOn opr env g=true)(hn:Nat.blt d n=true)
 (h:HS F0 w0 X F O w) (hm:opv env m=some (.map (some r))) (hkx:opv env kx=some (ek k)) (hi:O[i]?=some (.mp r ents clock)) (hr:MpR ek ev ents l)
 (kont:RW P opr Q rest n ((d,.tuple #[ev ((mget l k).getD z),.bool (mget l k).isSome])::env) w):RW P opr Q (⟨some d,.lookup t m kx true,ty,pos,es,g⟩::rest) n env w:=by
 have hb:w.heap[r]?=some (.map ents.toArray clock):=(h.get hi).1;have hrun:=e9b hk hu (hz w) hb hr k;have e:((mget l k).map ev).getD (ev z)=ev ((mget l k).getD z):=by cases mget l k<;>rfl
 rw [e]at hrun;exact a7r rfl (by simpa using hn) hg (fun a ha=>by simp [execOp,ha.op hm,ha.op hkx,hrun]) kont
end
def lset{α:Type}(l:List α)(i:Int)(v:α):Option (List α):=if 0<=i/\i<l.length then some (l.set i.toNat v)else none
def mks{α:Type}(bytes:Nat)(z:α)(n:Int):Option (List α):=if 0<=n/\n.toNat*bytes<=140737488355328 then some (List.replicate n.toNat z)else none
theorem d1e{α:Type}{l r:List α}{i:Int}{v:α}(h:lset l i v=some r):0<=i/\i<l.length/\r=l.set i.toNat v:=by
 unfold lset at h;split at h
 ·rename_i h0;cases h;exact⟨h0.1,h0.2,rfl⟩
 cases h
section
variable{α:Type}{r:Rp α}{F F':Frz}
theorem RowR.set{y:α}{cs':List Value}(hx:r.R F cs' y):∀{xs:List α}{l:List Value}{i:Nat},i<xs.length->RowR r F l xs->RowR r F (l.take (i*r.k)++cs'++l.drop (i*r.k+r.k)) (xs.set i y)
 | [],_,_,h,_=>by simp at h
 |z::xs,_,0,_,⟨c1,ys,h1,h2,h3⟩=>by
  refine⟨cs',ys,?_,hx,h3⟩;subst h1;have:=r.len h2;simp [this]
 |z::xs,_,i+1,h,⟨c1,ys,h1,h2,h3⟩=>by
  have h4:=RowR.set hx (by simpa using h) h3;refine⟨c1,_,?_,h2,h4⟩;subst h1;have hk:=r.len h2;rw [show(i+1)*r.k=c1.length+i*r.k from by rw [hk,Nat.add_mul];omega,show c1.length+i*r.k+r.k=c1.length+(i*r.k+r.k)from by omega,List.take_append,List.take_of_length_le (by omega),List.drop_append,List.drop_of_length_le (by omega)];simp [List.append_assoc]
theorem RowN.append{m m2:Nat}{l l2:List Value}{xs ys:List α}(h2:RowN r F m2 l2 ys)(h:RowN r F m l xs):RowN r F (m+m2) (l++l2) (xs++ys):=
 ⟨by rw [List.length_append,h.1,h2.1],RowR.append h2.2 h.2⟩
theorem RowN.take{m:Nat}{l:List Value}{xs:List α}(h:RowN r F m l xs){q:Nat}(hq:q<=m):RowN r F q (l.take (q*r.k)) (xs.take q):=
 ⟨by rw [List.length_take,h.1];omega,RowR.take q h.2⟩
theorem RowN.cells{m:Nat}{l:List Value}{xs:List α}(h:RowN r F m l xs):l.length=m*r.k:=by rw [RowR.len h.2,h.1]
theorem RowR.rep{zc:List Value}{z:α}(hz:r.R F zc z):∀(n:Nat)(l:List Value),l.length=n*r.k->(∀j v,l[j]?=some v->zc[j %r.k]?=some v)->RowR r F l (List.replicate n z)
 |0,l,h,_=>by
  have:l= []:=List.eq_nil_of_length_eq_zero (by simpa using h);subst this;rfl
 |n+1,l,h,hl=>by
  have hk:=r.len hz;rw [Nat.add_mul,Nat.one_mul]at h;refine⟨zc,l.drop r.k,?_,hz,RowR.rep hz n _ (by rw [List.length_drop];omega) (fun j v hj=> ?_)⟩
  ·have:l.take r.k=zc:=by
    apply List.ext_getElem?;intro j;rw [List.getElem?_take];split
    ·rename_i hlt;have hlen:j<l.length:=by omega
     have h3:=hl j l[j] (List.getElem?_eq_getElem hlen);rw [Nat.mod_eq_of_lt hlt]at h3;rw [h3,List.getElem?_eq_getElem hlen]
    rename_i hge;exact(List.getElem?_eq_none (by omega)).symm
   rw [<-this,List.take_append_drop]
  rw [List.getElem?_drop]at hj;have h3:=hl _ v hj
  rwa [Nat.add_mod_left]at h3
end
def OE.view:OE->Option (TypeId×Nat×Option Addr×Nat×Nat×List Value×Nat) | .row e k a m c xs=>some (e,k,a,m,c,xs,0) | .win e k a m c pre xs _=>some (e,k,a,m,c,xs,pre.length) |_=>none
def OE.withCells:OE->List Value->OE | .row e k a m c _,xs=> .row e k a m c xs | .win e k a m c pre _ post,xs=> .win e k a m c pre xs post |e,_=>e
theorem OE.withCells_blk(en:OE)(xs:List Value):(en.withCells xs).blk=en.blk:=by cases en<;>rfl
theorem OE.access{w:World}{en:OE}{e:TypeId}{k m c base:Nat}{a:Option Addr}{xs:List Value}(h:en.ok w)(hv:en.view=some (e,k,a,m,c,xs,base))(hm:0<m):
 ∃b cur,a=some ⟨b,base,none⟩/\w.heap[b]?=some (.cells cur e (0,0))/\en.blk=some b/\xs<+:cur.toList.drop base/\(xs.length=m*k/\base+xs.length<=cur.size)/\
  ∀o vc,o+vc.length<=xs.length->(en.withCells (xs.take o++vc++xs.drop (o+vc.length))).ok (w.setRow b (cur.toList.take (base+o)++vc++cur.toList.drop (base+o+vc.length)).toArray):=by
 cases en with
 |box b t cs=>simp [OE.view]at hv
 |mp b es clock=>simp [OE.view]at hv
 |it b o=>simp [OE.view]at hv
 |row e' k' a' m' c' xs'=>
  simp only [OE.view,Option.some.injEq,Prod.mk.injEq]at hv;obtain⟨rfl,rfl,rfl,rfl,rfl,rfl,rfl⟩:=hv;rcases h.2 with⟨_,h0⟩|⟨g,cap,cur,he,h1,h2,h3,h4,h5,h6⟩
  ·omega
  simp only [Value.slice.injEq]at he;obtain⟨rfl,_,rfl⟩:=he;have hpre:xs'<+:cur.toList:=h6▸List.take_prefix _ _;have hlen:=hpre.length_le;refine⟨g,cur,rfl,h2,rfl,by simpa using hpre,⟨h.1,by simpa using hlen⟩,fun o vc ho=> ?_⟩;refine⟨?_,.inr ⟨g,_,_,rfl,h1,setRow_heap w g _ _ _ _ h2,h3,h4,?_,?_⟩⟩
  ·have:=h.1;simp;omega
  ·simp only [Array.length_toList]at hlen;simp;omega
  obtain⟨t,ht⟩:=hpre;rw [<-h.1,List.toList_toArray,Nat.zero_add,<-ht,List.take_append_of_le_length (l₁:=xs') (i:=o) (by omega),List.drop_append_of_le_length ho,<-List.append_assoc];exact List.take_left' (by simp;omega)
 |win e' k' a' m' c' pre xs' post=>
  simp only [OE.view,Option.some.injEq,Prod.mk.injEq]at hv;obtain⟨rfl,rfl,rfl,rfl,rfl,rfl,rfl⟩:=hv;obtain⟨h1,h2,h3,h4⟩:=h;rcases h4 with h4|⟨b,rfl,h5⟩
  ·omega
  refine⟨b,_,rfl,h5,by simp [OE.blk];omega,by simp,⟨h1,by simp⟩,fun o vc ho=> ?_⟩;refine⟨by simp;omega,h2,h3,.inr ⟨b,rfl,?_⟩⟩;rw [setRow_heap w b _ _ _ _ h5];simp only [List.append_assoc];rw [List.take_append,List.take_of_length_le (by omega),show pre.length+o-pre.length=o from by omega,List.drop_append,List.drop_of_length_le (by omega),show pre.length+o+vc.length-pre.length=o+vc.length from by omega,List.take_append_of_le_length (by omega),List.drop_append_of_le_length ho];simp [List.append_assoc]
section
variable{P:Program}{Q:Exit->Act->World->Prop}{n:Nat}{env:Env}{w:World}
variable{opr:Array Oper}{rest:List Oper}{d:Nat}{g:Option (Nat×Bool)}{ty:TypeId}{pos:String}{es:Array Edge}
variable{F0 F:Frz}{w0:World}{X:List Nat}{O:List OE}
theorem RowN.ix_lt{α:Type}{r:Rp α}{m:Nat}{xs:List Value}{l:List α}(h:RowN r F m xs l){i:Int}{v:α}(hi:ix l i=some v):0<=i/\i<m/\i.toNat<l.length/\l[i.toNat]?=some v:=by
 unfold ix at hi;split at hi
 ·rename_i h0;have h1:=(List.getElem?_eq_some_iff.1 hi).1;have:=h.1;exact⟨h0,by omega,h1,hi⟩
 cases hi
theorem b0u{α:Type}{r:Rp α}{t e:TypeId}{x y:Operand}{a:Option Addr}{m c base:Nat}{ik:IntKind}{i:Int}{l:List α}{v:α}{xs:List Value}{p:Nat}{en:OE}(hu:P.underlying t=some (.slice e))(hS:SizeIs P e r.k)
 (hg:isOn opr env g=true) (hn:Nat.blt d n=true) (h:HS F0 w0 X F O w) (hx:opv env x=some (.slice a m c)) (hy:opv env y=some (.int ik i)) (hp:O[p]?=some en) (hv:en.view=some (e,r.k,a,m,c,xs,base)) (hl:RowN r F m xs l) (hi:ix l i=some v)
 (k:∀b o cs,a=some ⟨b,base,none⟩->o=base+i.toNat*r.k->r.R F cs v->cs<+:xs.drop (i.toNat*r.k)->RW P opr Q rest n ((d,.pointer (some ⟨b,o,none⟩))::env) w):RW P opr Q (⟨some d,.indexAddr t x y,ty,pos,es,g⟩::rest) n env w:=by
 obtain⟨h0,h1,h2,h3⟩:=hl.ix_lt hi;obtain⟨b,cur,ha,_⟩:=OE.access (h.get hp) hv (by omega);obtain⟨cs,hcs,hpre⟩:=RowR.get hl.2 h3;refine a7r rfl (by simpa using hn) hg (fun a' ha'=> ?_) (k b _ cs ha rfl hcs hpre);subst ha;simp [execOp,ha'.op hx,ha'.op hy,a9c hu hS h0 h1]
theorem e4z(h:HS F0 w0 X F O w){e:TypeId}{k m c base p o j i b:Nat}{a:Option Addr}{xs cs:List Value}{en:OE}(hp:O[p]?=some en)(hv:en.view=some (e,k,a,m,c,xs,base))(ha:a=some ⟨b,base,none⟩)(ho:o=base+i)(hpre:cs<+:xs.drop i){v:Value}(hj:cs[j]?=some v):
 w.cell? ⟨b,o+j,none⟩=some v:=by
 have hlt:=(List.getElem?_eq_some_iff.1 hj).1;have hle:=hpre.length_le;have hxs:0<xs.length:=by simp at hle;omega
 have hok:=h.get hp;have hm:0<m:=by
  rcases Nat.eq_zero_or_pos m with h0|h0
  ·exfalso;subst h0;cases en with
   |box=>simp [OE.view]at hv
   |mp=>simp [OE.view]at hv
   |it=>simp [OE.view]at hv
   |row e' k' a' m' c' xs'=>simp only [OE.view,Option.some.injEq,Prod.mk.injEq]at hv;obtain⟨rfl,rfl,rfl,rfl,rfl,rfl,rfl⟩:=hv;have:=hok.1;omega
   |win e' k' a' m' c' pre xs' post=>simp only [OE.view,Option.some.injEq,Prod.mk.injEq]at hv;obtain⟨rfl,rfl,rfl,rfl,rfl,rfl,rfl⟩:=hv;have:=hok.1;omega
  exact h0
 obtain⟨b',cur,ha',hb',_,hcur,_⟩:=OE.access hok hv hm;rw [ha]at ha';cases ha';have h2:cs<+:cur.toList.drop o:=by
  rw [ho,<-List.drop_drop];exact hpre.trans (b4q hcur _)
 obtain⟨t,ht⟩:=h2;have h3:(cur.toList.drop o)[j]?=some v:=by rw [<-ht,List.getElem?_append_left hlt];exact hj
 rw [List.getElem?_drop]at h3;simp [World.cell?,hb',<-Array.getElem?_toList,h3]
theorem b4u{T e:TypeId}{x:Operand}{k m c base p o j i b:Nat}{a:Option Addr}{xs cs:List Value}{en:OE}{v:Value}(hA:b3x P T false)(hg:isOn opr env g=true)(hn:Nat.blt d n=true)(h:HS F0 w0 X F O w)(hx:opv env x=some (.pointer (some ⟨b,o+j,none⟩)))
 (hp:O[p]?=some en) (hv:en.view=some (e,k,a,m,c,xs,base)) (ha:a=some ⟨b,base,none⟩) (ho:o=base+i) (hpre:cs<+:xs.drop i) (hc:cs[j]?=some v) (kk:RW P opr Q rest n ((d,v)::env) w):RW P opr Q (⟨some d,.load T x,ty,pos,es,g⟩::rest) n env w:=
 d3k hA hg hn hx (e4z h hp hv ha ho hpre hc) kk
theorem d6o{α:Type}{r:Rp α}{T e:TypeId}{x y:Operand}{m c base p o j b q:Nat}{i:Int}{a:Option Addr}{xs cs cs':List Value}{en:OE}{v:Value}{l l':List α}{u':α}(hS:SizeIs P T q)(hg:isOn opr env g=true)(h:HS F0 w0 X F O w)
 (hx:opv env x=some (.pointer (some ⟨b,o+j,none⟩))) (hy:opv env y=some v) (hq:v.cells.size=q) (h1:v.cells.toList.all Value.oneCell'=true)
 (hp:O[p]?=some en) (hv:en.view=some (e,r.k,a,m,c,xs,base)) (ha:a=some ⟨b,base,none⟩) (ho:o=base+i.toNat*r.k) (hpre:cs<+:xs.drop (i.toNat*r.k)) (hl:RowN r F m xs l)
 (hnew:cs.take j++v.cells.toList++cs.drop (j+q)=cs') (hjq:Nat.ble (j+q) cs.length=true) (hlen:cs.length=r.k) (hR:r.R F cs' u') (hset:lset l i u'=some l')
 (k:∀w' xs',HS F0 w0 X F (O.set p (en.withCells xs')) w'->RowN r F m xs' l'->cs'<+:xs'.drop (i.toNat*r.k)->RW P opr Q rest n env w'):RW P opr Q (⟨none,.store T x y,ty,pos,es,g⟩::rest) n env w:=by
 obtain⟨h0,hlt,rfl⟩:=d1e hset;have hm:0<m:=by have:=hl.1;omega
 have hjq:=Nat.le_of_ble_eq_true hjq;obtain⟨b',cur,ha',hb',hblk,hcur,⟨hxl,hbound⟩,hst⟩:=OE.access (h.get hp) hv hm;rw [ha]at ha';cases ha';have hvl:v.cells.toList.length=q:=by simpa using hq
 have hxk:i.toNat*r.k+r.k<=xs.length:=by
  rw [hxl,<-hl.1];have:i.toNat+1<=l.length:=by omega
  have:=Nat.mul_le_mul_right r.k this
  rwa [Nat.add_mul,Nat.one_mul]at this
 have hcurl:=hcur.length_le;simp only [List.length_drop,Array.length_toList]at hcurl;have hrun:=run_storeCells_at P b (o+j) e v.cells.toList 0 cur w hb' (by omega) (fun u hu=>by simpa using(List.all_eq_true.1 h1) u hu);have hok:=hst (i.toNat*r.k+j) v.cells.toList (by omega);obtain⟨t,ht⟩:=hpre;have hdrop:xs.drop (i.toNat*r.k+r.k)=t:=by rw [<-List.drop_drop,<-ht,<-hlen];simp
 have hxs':xs.take (i.toNat*r.k+j)++v.cells.toList++xs.drop (i.toNat*r.k+j+v.cells.toList.length)=xs.take (i.toNat*r.k)++cs'++xs.drop (i.toNat*r.k+r.k):=by
  rw [List.take_add,<-ht,List.take_append_of_le_length (by omega),hdrop,Nat.add_assoc,<-List.drop_drop,<-ht,List.drop_append_of_le_length (by omega),<-hnew,hvl];simp [List.append_assoc]
 have hcl:cs'.length=r.k:=by rw [<-hnew];simp;omega
 refine e2j (w':=w.setRow b (cur.toList.take (o+j)++v.cells.toList++cur.toList.drop (o+j+v.cells.toList.length)).toArray) rfl hg (fun a' ha'=> ?_) (k _ _ (h.upd hp (by rw [hblk];exact b5y w b _) ?_ (fun b1 hb1=> .inl (by rwa [OE.withCells_blk]at hb1))) ⟨by rw [List.length_set];exact hl.1,RowR.set hR (by omega) hl.2⟩ ?_)
 ·simp only [Nat.add_zero]at hrun;simp [execOp,Instr.storeAt,Instr.sureAddr,ha'.op hx,ha'.op hy,storeVar,hS w,hq,hrun]
 ·rw [hxs',show base+(i.toNat*r.k+j)=o+j from by omega]at hok;exact hok
 rw [List.append_assoc,List.drop_append,List.drop_of_length_le (by simp;omega)];simp only [List.length_take,List.nil_append];rw [show i.toNat*r.k-min (i.toNat*r.k) xs.length=0 from by omega];exact List.prefix_append _ _
theorem d7f{α:Type}{r:Rp α}{t e:TypeId}{x y:Operand}{q bytes:Nat}{N:Int}{z:Value}{u:α}{l:List α}{kl kc:IntKind}(hA:AppIs P t e q bytes)(hz:(P.info? e).map (·.zero)=some (some z))(hR:∀F,r.R F z.cells.toList u)(hqk:q=r.k)(hg:isOn opr env g=true)(hn:Nat.blt d n=true)(h:HS F0 w0 X F O w)
 (hx:opv env x=some (.int kl N)) (hy:opv env y=some (.int kc N)) (hl:mks bytes u N=some l)
 (k:∀b w' xs,HS F0 w0 X F (.row e q (some ⟨b,0,none⟩) N.toNat N.toNat xs::O) w'->RowN r F N.toNat xs l->RW P opr Q rest n ((d,.slice (some ⟨b,0,none⟩) N.toNat N.toNat)::env) w'):
 RW P opr Q (⟨some d,.makeSlice t x y,ty,pos,es,g⟩::rest) n env w:=by
 unfold mks at hl;split at hl
 ·rename_i h0;cases hl;obtain⟨p,rfl⟩:=Int.eq_ofNat_of_zero_le h0.1;simp only [Int.toNat_natCast]at*;obtain⟨i,z',hi,hz',hq',hby,hzc⟩:=hA.info;rw [hi]at hz;simp only [Option.map_some,Option.some.injEq]at hz;rw [hz']at hz;cases hz;have hpm:p<=maxLen:=by
   have h3:p<=p*bytes:=Nat.le_mul_of_pos_right _ hA.pos2;have:=h0.2;simp only [maxLen];omega
  obtain⟨w',hrun,hown,hgr⟩:=run_make_full (P:=P) w 0 t e i z q hA.under hi hz' hq' kl kc p (by rw [hby,Nat.mul_comm];have:=h0.2;omega) hpm (Nat.zero_le _);refine b5w rfl (by simpa using hn) hg (fun a ha=>by simp [execOp,ha.op hx,ha.op hy,hrun]) (k w.heap.size w' _ (h.add hgr hown (by simp [OE.blk,Value.ownBlock])) ⟨by simp,?_⟩);have hzl:=r.len (hR F);refine RowR.rep (hR F) p _ (by simp [size_madeCells,hqk]) (fun j v hj=> ?_);simp only [madeCells,Array.toList_map,Array.toList_range,List.getElem?_map,Option.map_eq_some_iff]at hj;obtain⟨j',hj',rfl⟩:=hj;obtain⟨hj1,hj2⟩:=List.getElem?_eq_some_iff.1 hj';simp only [List.length_range]at hj1;simp only [List.getElem_range]at hj2;subst hj2;have hkpos:0<r.k:=hqk▸hA.pos;have hsz:z.cells.size=r.k:=by simpa using hzl
  have hlt:j %r.k<z.cells.size:=by rw [hsz];exact Nat.mod_lt _ hkpos
  rw [hsz,getElem!_pos z.cells _ hlt,Array.getElem?_toList];simp [hlt]
 cases hl
theorem b6u{α:Type}{r:Rp α}{l l2 res:List α}{x y:Operand}{t e:TypeId}{q bytes:Nat}(hA:AppIs P t e q bytes)(hg:isOn opr env g=true)(hn:Nat.blt d n=true)(h:HS F0 w0 X F O w)
 {i j m c m2 c2 b:Nat} {a:Option Addr} {xs news:List Value} (hx:opv env x=some (.slice a m c)) (hy:opv env y=some (.slice (some ⟨b,0,none⟩) m2 c2))
 (hi:O[i]?=some (.row e q a m c xs)) (hj:O[j]?=some (.row e q (some ⟨b,0,none⟩) m2 c2 news)) (hl:RowN r F m xs l) (hl2:RowN r F m2 news l2) (hr:app bytes l l2=some res)
 (k:∀a' c' w',HS F0 w0 X F (O.set i (.row e q a' (m+m2) c' (xs++news))) w'->RowN r F (m+m2) (xs++news) res->RW P opr Q rest n ((d,.slice a' (m+m2) c')::env) w'):
 RW P opr Q (⟨some d,.call ⟨.builtin .append, #[x,y], #[t,t]⟩,ty,pos,es,g⟩::rest) n env w:=by
 obtain⟨hb,rfl⟩:=d6g hr;rw [hl.1,hl2.1]at hb;exact e4w hA hg hn h hx hy hi hj (RowR.one hl2.2) hb rfl (fun a' c' w' h'=>k a' c' w' h' (hl2.append hl))
theorem c1b{α:Type}{r:Rp α}{l l2 res:List α}{x y:Operand}{t e:TypeId}{q bytes:Nat}(hA:AppIs P t e q bytes)(hqk:q=r.k)(hg:isOn opr env g=true)(hn:Nat.blt d n=true)(h:HS F0 w0 X F O w)
 {i m c m2 c2:Nat} {a a2:Option Addr} {xs:List Value} (hx:opv env x=some (.slice a m c)) (hy:opv env y=some (.slice a2 m2 c2))
 (hi:O[i]?=some (.row e q a m c xs)) (hl:RowN r F m xs l) (hl2:SlR r F a2 m2 c2 l2) (hr:app bytes l l2=some res)
 (k:∀a' c' w' xs',HS F0 w0 X F (O.set i (.row e q a' (m+m2) c' xs')) w'->RowN r F (m+m2) xs' res->RW P opr Q rest n ((d,.slice a' (m+m2) c')::env) w'):
 RW P opr Q (⟨some d,.call ⟨.builtin .append, #[x,y], #[t,t]⟩,ty,pos,es,g⟩::rest) n env w:=by
 obtain⟨hb,rfl⟩:=d6g hr;obtain⟨h2,h3,h4,h5⟩:=hl2;rw [hl.1,h2]at hb;have hnil:∀(u:Option Addr),l2= []->a2=u->RW P opr Q (⟨some d,.call ⟨.builtin .append, #[x,y], #[t,t]⟩,ty,pos,es,g⟩::rest) n env w:=by
  intro u hl0 hu;subst hl0;simp only [List.length_nil]at h2;subst h2;simp only [List.append_nil]at*;obtain⟨inf,z,hinf,hz,hq,hby,hzc⟩:=hA.info;have hmc:m<=c:=by
   rcases(h.get hi).2 with⟨e1,e2⟩|⟨gb,cap,cur,e1,_,_,e3,_⟩
   ·simp only [Value.slice.injEq]at e1;omega
   simp only [Value.slice.injEq]at e1;omega
  have hfirst:(Builtin.firstCells inf.size 0 (.slice a2 0 c2)).run P w= .ok #[] w:=by
   cases a2 with
   |none=>simp [Builtin.firstCells]
   |some ad=>simp [Builtin.firstCells,loadCells,loadCellsFrom]
  have hst:∀ad:Addr,(storeCells ad []).run P w= .ok () w:=fun ad=>by simp [storeCells]
  refine b5w (w':=w) rfl (by simpa using hn) hg (fun a' ha'=> ?_) (k a c w xs ?_ (by simpa using hl))
  ·cases a with
   |none=>simp [execOp,resolve,invoke,builtin,ha'.op hx,ha'.op hy,Builtin.append_,run_underlying hA.under,sizeOf,typeInfo,hinf,Builtin.lenOf,hmc,hfirst]
   |some ad=>simp [execOp,resolve,invoke,builtin,ha'.op hx,ha'.op hy,Builtin.append_,run_underlying hA.under,sizeOf,typeInfo,hinf,Builtin.lenOf,hmc,hfirst,hst]
  rw [Nat.add_zero];obtain⟨hi1,hi2⟩:=List.getElem?_eq_some_iff.1 hi;rw [<-hi2,List.set_getElem_self];exact h
 rcases h5 with h5|⟨b,o,cells,rfl,hf,hrow⟩
 ·exact hnil a2 h5 rfl
 have hcl:cells.length=m2*q:=by rw [RowR.len hrow,h2,hqk]
 obtain⟨a',c',w',hrun,hs⟩:=d9y (tr:=ty) hA h hi (ad:=⟨b,o,none⟩) (m2:=m2) (c2:=c2) (news:=cells) hcl (fun j u hj=>by rw [a8d];exact hf.cell h.sat hj) (RowR.one hrow) hb;exact b5w rfl (by simpa using hn) hg (fun a ha=>by simp [execOp,resolve,invoke,builtin,ha.op hx,ha.op hy,hrun]) (k a' c' w' _ hs ⟨by rw [List.length_append,hl.1,h2],RowR.append hrow hl.2⟩)
def SubR(k:Nat)(a:Option Addr)(m c:Nat)(lo hi:Nat)(a':Option Addr)(m' c':Nat):Prop:= lo<=hi/\hi<=m/\m'=hi-lo/\c'=c-lo/\a'=if c=lo then a else a.map (·.add (lo*k))
theorem d3z{e t:TypeId}{k:Nat}(hu:P.underlying t=some (.slice e))(hS:SizeIs P e k){a:Option Addr}{m c:Nat}(hmc:m<=c){lo hi:Int}(h0:0<=lo)(h1:lo<=hi)(h2:hi<=m){lo' hi':Option Value}
 (ha:lo'=some (.int .i64 lo)∨lo'=none/\lo=0) (hb:hi'=some (.int .i64 hi)∨hi'=none/\hi=m):
 (Instr.sliceAt t (.slice a m c) lo' hi' none).run P w= .ok (.slice (if c=lo.toNat then a else a.map (·.add (lo.toNat*k))) (hi.toNat-lo.toNat) (c-lo.toNat)) w:=by
 obtain⟨p,rfl⟩:=Int.eq_ofNat_of_zero_le h0;obtain⟨q,rfl⟩:=Int.eq_ofNat_of_zero_le (show 0<=hi by omega);have h1':p<=q:=by omega
 have h2':q<=c:=by omega
 have e1:∀(c:BoundsCode)(y:Nat),q<=y->(Instr.sliceBound (.int .i64 (q:Int)) y c).run P w= .ok q w:=fun c y hy=>by simp [Instr.sliceBound,asIntOf,hy]
 have e2:∀(c:BoundsCode)(y:Nat),p<=y->(Instr.sliceBound (.int .i64 (p:Int)) y c).run P w= .ok p w:=fun c y hy=>by simp [Instr.sliceBound,asIntOf,hy]
 simp only [Int.toNat_natCast];rcases ha with rfl|⟨rfl,hp⟩<;>rcases hb with rfl|⟨rfl,hqq⟩
 ·simp [Instr.sliceAt,Instr.slice,Instr.sliceBounds,underlying,hu,e1,e2,h1',h2',hS w]
 ·obtain rfl:q=m:=by omega
  simp [Instr.sliceAt,Instr.slice,Instr.sliceBounds,underlying,hu,e2,h1',hS w]
 ·obtain rfl:p=0:=by omega
  simp [Instr.sliceAt,Instr.slice,Instr.sliceBounds,underlying,hu,e1,h2',hS w]
 obtain rfl:p=0:=by omega
 obtain rfl:q=m:=by omega
 simp [Instr.sliceAt,Instr.slice,Instr.sliceBounds,underlying,hu,hS w]
theorem OE.mc{w:World}{en:OE}{e:TypeId}{k m c base:Nat}{a:Option Addr}{xs:List Value}(h:en.ok w)(hv:en.view=some (e,k,a,m,c,xs,base)):m<=c/\c<=maxLen:=by
 cases en with
 |box=>simp [OE.view]at hv
 |mp=>simp [OE.view]at hv
 |it=>simp [OE.view]at hv
 |row e' k' a' m' c' xs'=>
  simp only [OE.view,Option.some.injEq,Prod.mk.injEq]at hv;obtain⟨rfl,rfl,rfl,rfl,rfl,rfl,rfl⟩:=hv;rcases h.2 with⟨e1,e2⟩|⟨gb,cap,cur,e1,_,_,e3,e4,_⟩
  ·simp only [Value.slice.injEq]at e1;obtain⟨_,_,rfl⟩:=e1;exact⟨by omega,Nat.zero_le _⟩
  simp only [Value.slice.injEq]at e1;obtain⟨_,_,rfl⟩:=e1;exact⟨e3,e4⟩
 |win e' k' a' m' c' pre xs' post=>simp only [OE.view,Option.some.injEq,Prod.mk.injEq]at hv;obtain⟨rfl,rfl,rfl,rfl,rfl,rfl,rfl⟩:=hv;exact⟨h.2.1,h.2.2.1⟩
theorem b8d{α:Type}{l r:List α}{lo hi:Int}(h:lsl l lo hi=some r):0<=lo/\lo<=hi/\hi<=l.length/\r=(l.take hi.toNat).drop lo.toNat:=by
 unfold lsl at h;split at h
 ·rename_i h0;cases h;exact⟨h0.1,h0.2.1,h0.2.2,rfl⟩
 cases h
theorem e6l{α:Type}{r:Rp α}{t e:TypeId}{x y z:Operand}{a:Option Addr}{m c base p:Nat}{l l2:List α}{xs:List Value}{lo hi:Int}{en:OE}(hu:P.underlying t=some (.slice e))(hS:SizeIs P e r.k)(hg:isOn opr env g=true)(hn:Nat.blt d n=true)(h:HS F0 w0 X F O w)
 (hx:opv env x=some (.slice a m c)) (hy:opv env y=some (.int .i64 lo)) (hz:opv env z=some (.int .i64 hi)) (hp:O[p]?=some en) (hv:en.view=some (e,r.k,a,m,c,xs,base)) (hl:RowN r F m xs l) (hs:lsl l lo hi=some l2)
 (k:∀a' m' c',SubR r.k a m c lo.toNat hi.toNat a' m' c'->RW P opr Q rest n ((d,.slice a' m' c')::env) w):RW P opr Q (⟨some d,.slice t x (some y) (some z) none,ty,pos,es,g⟩::rest) n env w:=by
 obtain⟨h0,h1,h2,-⟩:=b8d hs;rw [hl.1]at h2;have hr:=d3z (w:=w) hu hS (a:=a) (OE.mc (h.get hp) hv).1 h0 h1 h2 (.inl rfl) (.inl rfl);exact a7r rfl (by simpa using hn) hg (fun a ha=>by simp [execOp,ha.op hx,ha.op hy,ha.op hz,hr]) (k _ _ _ ⟨by omega,by omega,rfl,rfl,rfl⟩)
theorem r_rsl_l{α:Type}{r:Rp α}{t e:TypeId}{x y:Operand}{a:Option Addr}{m c base p:Nat}{l l2:List α}{xs:List Value}{lo:Int}{en:OE}(hu:P.underlying t=some (.slice e))(hS:SizeIs P e r.k)(hg:isOn opr env g=true)(hn:Nat.blt d n=true)(h:HS F0 w0 X F O w)
 (hx:opv env x=some (.slice a m c)) (hy:opv env y=some (.int .i64 lo)) (hp:O[p]?=some en) (hv:en.view=some (e,r.k,a,m,c,xs,base)) (hl:RowN r F m xs l) (hs:lsl l lo l.length=some l2)
 (k:∀a' m' c',SubR r.k a m c lo.toNat (l.length:Int).toNat a' m' c'->RW P opr Q rest n ((d,.slice a' m' c')::env) w):RW P opr Q (⟨some d,.slice t x (some y) none none,ty,pos,es,g⟩::rest) n env w:=by
 obtain⟨h0,h1,h2,-⟩:=b8d hs;have hm:=hl.1;have hr:=d3z (w:=w) hu hS (a:=a) (OE.mc (h.get hp) hv).1 h0 (hi:=(m:Int)) (by omega) (Int.le_refl _) (.inl rfl) (.inr ⟨rfl,rfl⟩);rw [hm]at k;exact a7r rfl (by simpa using hn) hg (fun a ha=>by simp [execOp,ha.op hx,ha.op hy,hr]) (k _ _ _ ⟨by omega,by omega,rfl,rfl,rfl⟩)
theorem SubR.frozen{α:Type}{r:Rp α}{a a':Option Addr}{m c m' c':Nat}{lo hi:Int}{l l2:List α}(h:SubR r.k a m c lo.toNat hi.toNat a' m' c')(hs:SlR r F a m c l)(hl:lsl l lo hi=some l2):SlR r F a' m' c' l2:=by
 obtain⟨h0,h1,h2,rfl⟩:=b8d hl;obtain⟨h3,h4,rfl,rfl,rfl⟩:=h;exact hs.part h3 (by have:=hs.1;omega)
theorem HS.cutRow{α:Type}{r:Rp α}(h:HS F0 w0 X F O w){e:TypeId}{a a':Option Addr}{m c m' c' p:Nat}{xs:List Value}{hi:Int}{l l2:List α}(hp:O[p]?=some (.row e r.k a m c xs))(hl:RowN r F m xs l)(hs:lsl l 0 hi=some l2)(hsub:SubR r.k a m c (0:Int).toNat hi.toNat a' m' c'):
 HS F0 w0 X F (O.set p (.row e r.k a' m' c' (xs.take (m'*r.k)))) w/\RowN r F m' (xs.take (m'*r.k)) l2:=by
 obtain⟨h0,h1,h2,rfl⟩:=b8d hs;obtain⟨h3,h4,rfl,rfl,rfl⟩:=hsub;simp only [Int.toNat_zero,Nat.sub_zero,Nat.zero_mul,List.drop_zero];have hok:=h.get hp;have hm:=hl.1;refine⟨h.upd hp (w':=w) ⟨rfl,rfl,rfl,Nat.le_refl _,fun _ _ _=>rfl⟩ ?_ ?_,hl.take h4⟩
 ·refine⟨by rw [List.length_take,hl.cells];have:=Nat.mul_le_mul_right r.k h4;omega,?_⟩;rcases hok.2 with⟨e1,e2⟩|⟨gb,cap,cur,e1,e5,e6,e3,e4,e7,e8⟩
  ·left;simp only [Value.slice.injEq]at e1;obtain⟨rfl,rfl,rfl⟩:=e1;simp;omega
  right;simp only [Value.slice.injEq]at e1;obtain⟨rfl,_,rfl⟩:=e1;refine⟨gb,_,cur,?_,e5,e6,by omega,e4,e7,?_⟩
  ·simp [a8d]
  rw [<-e8,List.take_take,Nat.min_eq_left (Nat.mul_le_mul_right _ h4)]
 intro b hb;left;cases a with
 |none=>simp [OE.blk,Value.ownBlock]at hb
 |some ad=>simpa [OE.blk,Value.ownBlock,Addr.add]using hb
def allF(w:World):Frz:=fun b=>w.heap[b]?
theorem c1g(w:World):Sat (allF w) w:=fun _ _ h=>h
theorem HS.leAll(h:HS F0 w0 X F O w):F.le (allF w):=fun b o hf=>h.sat b o hf
theorem HS.viewRow{α:Type}{r:Rp α}(h:HS F0 w0 X F O w){e:TypeId}{a:Option Addr}{m c p base:Nat}{xs:List Value}{en:OE}{l:List α}(hp:O[p]?=some en)(hv:en.view=some (e,r.k,a,m,c,xs,base))(hl:RowN r F m xs l):SlR r (allF w) a m c l:=by
 have hmc:=OE.mc (h.get hp) hv;refine⟨hl.1,by rw [hl.1];exact hmc.1,hmc.2,?_⟩;rcases Nat.eq_zero_or_pos m with h0|h0
 ·left;exact List.eq_nil_of_length_eq_zero (by rw [hl.1];exact h0)
 right;obtain⟨b,cur,ha,hb,_,hcur,_⟩:=OE.access (h.get hp) hv h0;exact⟨b,base,xs,ha,⟨cur,e,(0,0),hb,hcur⟩,hl.2.mono h.leAll⟩
end
def blks(e:OE):List Nat:=e.blk.toList
theorem HS.lendE{F:Frz}{w:World}{e:OE}(hs:Sat F w)(hb:e.ok w)(hf:∀b,e.blk=some b->F b=none):HS F w (blks e) F [e] w:=
 ⟨hs,Frz.refl F,fun _ h=> .inl h,by simpa using hb,by
  intro x hx b' hb';obtain rfl:=List.mem_singleton.1 hx;exact⟨hf b' hb',.inr (by simp [blks,hb'])⟩,by simp,rfl,rfl,rfl,Nat.le_refl _,fun _ _ _=>rfl⟩
section
variable{F0 F:Frz}{w0 w:World}{X:List Nat}{O:List OE}
theorem HS.lendableE(h:HS F0 w0 X F O w){i:Nat}{e:OE}(hi:O[i]?=some e):∀b,e.blk=some b->F b=none:=fun b hb=>(h.sep _ (List.mem_of_getElem? hi) b hb).1
theorem HS.callE(h:HS F0 w0 X F O w){i:Nat}{e e2 e2' e':OE}(hi:O[i]?=some e)(hsub:∀b,e2.blk=some b->e.blk=some b)(he':e'.blk=e.blk)(hb2:e2'.blk=e2.blk){F':Frz}{O2:List OE}{w':World}
 (h2:HS F w (blks e2) F' (e2'::O2) w') (hok:e'.ok w'):HS F0 w0 X F' (O2++O.set i e') w':=by
 obtain⟨hlt,hget⟩:=List.getElem?_eq_some_iff.1 hi;have hmem:e∈O:=List.mem_of_getElem? hi;have hX2:∀b,b∈blks e2->e.blk=some b:=fun b hb=>hsub b (by simpa [blks]using hb);have hg:w.grownBy w' e.blk:=⟨h2.os,h2.tape,h2.output,h2.size,fun k hk hne=>h2.old k hk (fun hb=>hne (hX2 k hb).symm)⟩
 have hcase:∀x∈O.set i e',x=e'∨(x∈O/\∀b,e.blk=some b->x.blk≠some b):=by
  intro x hx;obtain⟨j,hj,rfl⟩:=List.mem_iff_getElem.1 hx;rw [List.getElem_set]
  by_cases hij:i=j
  ·left;rw [if_pos hij]
  right;rw [if_neg hij];have hj':j<O.length:=by simpa using hj
  refine⟨List.getElem_mem hj',fun b hb hb'=> ?_⟩;have hp:=List.pairwise_iff_getElem.1 h.dis;rcases Nat.lt_or_ge i j with h1|h1
  ·exact hp i j hlt hj' h1 b (by rw [hget];exact hb) hb'
  exact hp j i hj' hlt (by omega) b hb' (by rw [hget];exact hb)
 have hd2:=List.pairwise_cons.1 h2.dis;have hO2:∀x∈O2,∀b',x.blk=some b'->F' b'=none/\w.heap.size<=b':=by
  intro x hx b' hb';obtain⟨h1,h3⟩:=h2.sep x (by simp [hx]) b' hb';refine⟨h1,?_⟩;rcases h3 with h3|h3
  ·exact h3
  exact absurd hb' (hd2.1 x hx b' (by rw [hb2];simpa [blks]using h3))
 have hF':∀b,F b=none->b<w.heap.size->F' b=none:=by
  intro b hb hbw;cases hf:F' b with
  |none=>rfl
  |some o=>
   rcases h2.new b (by simp [hf])with h4|h4
   ·exact absurd hb h4
   omega
 refine⟨h2.sat,h.le.trans h2.le,fun b' hb'=> ?_,fun x hx=> ?_,fun x hx b' hb'=> ?_,?_,h2.os.trans h.os,h2.tape.trans h.tape,h2.output.trans h.output,Nat.le_trans h.size h2.size,fun b' hb' hx=> ?_⟩
 ·rcases h2.new b' hb' with h1|h1
  ·exact h.new b' h1
  exact .inr (Nat.le_trans h.size h1)
 ·rcases List.mem_append.1 hx with hx|hx
  ·exact h2.own x (by simp [hx])
  rcases hcase x hx with rfl|⟨hx,hne⟩
  ·exact hok
  exact OE.kept (h.own x hx) hg (fun b1 hb1 e1=>hne b1 e1.symm hb1)
 ·rcases List.mem_append.1 hx with hx|hx
  ·obtain⟨h1,h3⟩:=hO2 x hx b' hb';exact⟨h1,.inl (Nat.le_trans h.size h3)⟩
  rcases hcase x hx with rfl|⟨hx,_⟩
  ·rw [he']at hb';have h1:=h.sep e hmem b' hb';exact⟨hF' b' h1.1 (OE.lt (h.own e hmem) hb'),h1.2⟩
  have h1:=h.sep x hx b' hb';exact⟨hF' b' h1.1 (OE.lt (h.own x hx) hb'),h1.2⟩
 ·refine List.pairwise_append.2 ⟨hd2.2,?_,fun x hx y hy b' hb1 hb2=> ?_⟩
  ·rw [List.pairwise_iff_getElem];intro j k hj hk hjk b' hb1 hb2;have hj':j<O.length:=by simpa using hj
   have hk':k<O.length:=by simpa using hk
   have hp:=List.pairwise_iff_getElem.1 h.dis j k hj' hk' hjk b';have hblk:∀l(hl:l<(O.set i e').length)(hl':l<O.length),(O.set i e')[l].blk=O[l].blk:=by
    intro l hl hl';rw [List.getElem_set];split
    ·rename_i e1;subst e1;rw [hget,he']
    rfl
   rw [hblk j hj hj']at hb1;rw [hblk k hk hk']at hb2;exact hp hb1 hb2
  have h1:=(hO2 x hx b' hb1).2;rcases hcase y hy with rfl|⟨hy,_⟩
  ·rw [he']at hb2;have:=OE.lt (h.own e hmem) hb2;omega
  have:=OE.lt (h.own y hy) hb2;omega
 have hne:b'∉blks e2:=fun hb=>by
  rcases(h.sep e hmem b' (hX2 b' hb)).2 with h1|h1
  ·omega
  exact hx h1
 rw [h2.old b' (Nat.lt_of_lt_of_le hb' h.size) hne];exact h.old b' hb' hx
theorem HS.subWin{α:Type}{r:Rp α}(h:HS F0 w0 X F O w){e:TypeId}{a a':Option Addr}{m c p base m' c' lo hi:Nat}{xs:List Value}{en:OE}{l:List α}(hp:O[p]?=some en)(hv:en.view=some (e,r.k,a,m,c,xs,base))(hl:RowN r F m xs l)(hsub:SubR r.k a m c lo hi a' m' c'):
 ∃pre mid post,(OE.win e r.k a' m' c' pre mid post).ok w/\(∀b,(OE.win e r.k a' m' c' pre mid post).blk=some b->F b=none)/\RowN r F m' mid ((l.take hi).drop lo)/\
  ∀F' mid' O2 w',HS F w (blks (OE.win e r.k a' m' c' pre mid post)) F' (OE.win e r.k a' m' c' pre mid' post::O2) w'->
   ∃xs',HS F0 w0 X F' (O2++O.set p (en.withCells xs')) w'/\∀l',RowN r F' m' mid' l'->RowN r F' m xs' (l.take lo++l'++l.drop hi):=by
 obtain⟨h3,h4,rfl,rfl,rfl⟩:=hsub;have hok:=h.get hp;have hmc:=OE.mc hok hv;have hxl:=hl.cells;have hmid:RowN r F (hi-lo) ((xs.take (hi*r.k)).drop (lo*r.k)) ((l.take hi).drop lo):=
  ⟨by have:=hl.1;simp;omega,RowR.drop lo (RowR.take hi hl.2)⟩
 have hk1:lo*r.k<=hi*r.k:=Nat.mul_le_mul_right _ h3;have hk2:hi*r.k<=xs.length:=by rw [hxl];exact Nat.mul_le_mul_right _ h4
 have hrow:∀F' mid' l',F.le F'->RowN r F' (hi-lo) mid' l'->RowN r F' m (xs.take (lo*r.k)++mid'++xs.drop (hi*r.k)) (l.take lo++l'++l.drop hi):=by
  intro F' mid' l' hle h';refine⟨by have:=hl.1;have:=h'.1;simp;omega,?_⟩;exact RowR.append (RowR.drop hi (hl.2.mono hle)) (RowR.append h'.2 (RowR.take lo (hl.2.mono hle)))
 by_cases he:hi-lo=0
 ·have hlohi:lo=hi:=by omega
  subst hlohi;refine⟨[],_,[],⟨hmid.cells,by omega,by omega,.inl he⟩,by simp [OE.blk],hmid,fun F' mid' O2 w' h2=> ?_⟩;have hmid0:mid'= []:=by
   have:=(h2.own _ (List.mem_cons_self ..)).1;exact List.eq_nil_of_length_eq_zero (by rw [this,he,Nat.zero_mul])
  subst hmid0;have hxs:xs.take (lo*r.k)++ []++xs.drop (lo*r.k)=xs:=by simp
  have hen:en.withCells xs=en:=by
   cases en with
   |box=>simp [OE.view]at hv
   |mp=>simp [OE.view]at hv
   |it=>simp [OE.view]at hv
   |row e' k' a' m' c' xs'=>simp only [OE.view,Option.some.injEq,Prod.mk.injEq]at hv;obtain⟨rfl,rfl,rfl,rfl,rfl,rfl,rfl⟩:=hv;rfl
   |win e' k' a' m' c' pre xs' post=>simp only [OE.view,Option.some.injEq,Prod.mk.injEq]at hv;obtain⟨rfl,rfl,rfl,rfl,rfl,rfl,rfl⟩:=hv;rfl
  refine⟨xs,h.callE hp (e':=en.withCells xs) (by simp [OE.blk]) (OE.withCells_blk _ _) (by simp [OE.blk]) h2 ?_,fun l' hl'=> ?_⟩
  ·rw [hen];refine OE.kept (row:=none) hok ⟨h2.os,h2.tape,h2.output,h2.size,fun k hk _=>h2.old k hk (by simp [blks,OE.blk])⟩ (by simp)
  have:=hrow F' [] l' h2.le hl'
  rwa [hxs]at this
 obtain⟨b,cur,rfl,hb,hblk,hcur,⟨_,hbound⟩,hst⟩:=OE.access hok hv (by omega);have hcl:c≠lo:=by omega
 obtain⟨t,ht⟩:=hcur;have hxc:xs.length<=(cur.toList.drop base).length:=by rw [<-ht];simp
 have hadr:(if c=lo then some (⟨b,base,none⟩:Addr)else(some ⟨b,base,none⟩:Option Addr).map (·.add (lo*r.k)))=some ⟨b,base+lo*r.k,none⟩:=by simp [hcl,a8d]
 rw [hadr];have hcurl:base+lo*r.k<=cur.toList.length:=by rw [Array.length_toList];omega
 have hsplit:cur.toList=cur.toList.take (base+lo*r.k)++(xs.take (hi*r.k)).drop (lo*r.k)++cur.toList.drop (base+hi*r.k):=by
  have e1:cur.toList=cur.toList.take base++(xs++t):=by rw [ht,List.take_append_drop]
  have e0:(cur.toList.take base).length=base:=by rw [List.length_take,Array.length_toList];omega
  have e2:cur.toList.take (base+lo*r.k)=cur.toList.take base++xs.take (lo*r.k):=by
   rw [List.take_add,<-ht,List.take_append_of_le_length (by omega)]
  have e3:cur.toList.drop (base+hi*r.k)=xs.drop (hi*r.k)++t:=by
   rw [<-List.drop_drop,<-ht,List.drop_append_of_le_length (by omega)]
  have e4:xs=xs.take (lo*r.k)++(xs.take (hi*r.k)).drop (lo*r.k)++xs.drop (hi*r.k):=by
   have:xs.take (lo*r.k)=(xs.take (hi*r.k)).take (lo*r.k):=by rw [List.take_take,Nat.min_eq_left hk1]
   rw [this,List.take_append_drop,List.take_append_drop]
  rw [e2,e3]
  conv=>lhs;rw [e1,e4]
  simp [List.append_assoc]
 have hplen:(cur.toList.take (base+lo*r.k)).length=base+lo*r.k:=by rw [List.length_take];omega
 refine⟨cur.toList.take (base+lo*r.k),(xs.take (hi*r.k)).drop (lo*r.k),cur.toList.drop (base+hi*r.k),⟨hmid.cells,by omega,by omega,.inr ⟨b,by rw [hplen],?_⟩⟩,?_,hmid,fun F' mid' O2 w' h2=> ?_⟩
 ·rw [<-hsplit];simpa using hb
 ·intro b' hb';simp only [OE.blk,if_neg he,Option.map_some,Option.some.injEq]at hb';subst hb';exact h.lendableE hp b hblk
 obtain⟨w1,w2,w3,w4⟩:=h2.own _ (List.mem_cons_self ..);rcases w4 with w4|⟨b',hb',w4⟩
 ·exact absurd w4 he
 simp only [Option.some.injEq,Addr.mk.injEq]at hb';obtain⟨rfl,_⟩:=hb';have hlen:mid'.length=hi*r.k-lo*r.k:=by rw [w1,Nat.sub_mul]
 refine⟨xs.take (lo*r.k)++mid'++xs.drop (hi*r.k),h.callE hp (fun b1 hb1=>by simp only [OE.blk,if_neg he,Option.map_some,Option.some.injEq]at hb1;subst hb1;exact hblk) (OE.withCells_blk _ _) (by simp [OE.blk]) h2 ?_,fun l' hl'=>hrow F' mid' l' h2.le hl'⟩;have h5:=hst (lo*r.k) mid' (by omega);rw [show lo*r.k+mid'.length=hi*r.k from by omega,show base+lo*r.k+mid'.length=base+hi*r.k from by omega]at h5;have hheap:(w.setRow b (cur.toList.take (base+lo*r.k)++mid'++cur.toList.drop (base+hi*r.k)).toArray).heap[b]?=w'.heap[b]?:=by
  rw [setRow_heap w b _ _ _ _ hb,w4]
 cases en with
 |box=>simp [OE.view]at hv
 |mp=>simp [OE.view]at hv
 |it=>simp [OE.view]at hv
 |row e' k' a' m' c' xs'=>
  simp only [OE.view,Option.some.injEq,Prod.mk.injEq]at hv;obtain⟨rfl,rfl,rfl,rfl,rfl,rfl,rfl⟩:=hv;refine⟨h5.1,?_⟩;rcases h5.2 with h6|⟨g,cap,cur',h6,h7,h8,h9⟩
  ·exact .inl h6
  simp only [Value.slice.injEq,Option.some.injEq,Addr.mk.injEq]at h6;obtain⟨⟨rfl,_⟩,_,rfl⟩:=h6;exact .inr ⟨b,c',cur',rfl,h7,by rw [<-hheap];exact h8,h9⟩
 |win e' k' a' m' c' pre xs' post=>
  simp only [OE.view,Option.some.injEq,Prod.mk.injEq]at hv;obtain⟨rfl,rfl,rfl,rfl,rfl,rfl,rfl⟩:=hv;refine⟨h5.1,h5.2.1,h5.2.2.1,?_⟩;rcases h5.2.2.2 with h6|⟨b',h6,h7⟩
  ·exact .inl h6
  simp only [Option.some.injEq,Addr.mk.injEq]at h6;obtain⟨rfl,_⟩:=h6;exact .inr ⟨b,rfl,by rw [<-hheap];exact h7⟩
end
section
variable{P:Program}{Q:Exit->Act->World->Prop}{n:Nat}{env:Env}{w:World}
variable{opr:Array Oper}{rest:List Oper}{d:Nat}{g:Option (Nat×Bool)}{ty:TypeId}{pos:String}{es:Array Edge}
variable{F0 F:Frz}{w0:World}{X:List Nat}{O:List OE}
theorem e8r{α:Type}{r:Rp α}{cl:Operand}{al:List Operand}{ts:Array TypeId}{f:FuncId}{vl:List Value}{R:Value->Frz->List Value->List OE->Prop}{e:TypeId}{a a':Option Addr}{m c p base m' c' lo hi:Nat}{xs:List Value}{en:OE}{l:List α}(he:Ent P f)(hg:isOn opr env g=true)(hn:Nat.blt d n=true)
 (hc:opv env cl=some (.func (.func f) #[] #[])) (hl:opvs env al=some vl) (h:HS F0 w0 X F O w) (hp:O[p]?=some en) (hv:en.view=some (e,r.k,a,m,c,xs,base)) (hrn:RowN r F m xs l) (hsub:SubR r.k a m c lo hi a' m' c')
 (hC:∀pre mid post,(OE.win e r.k a' m' c' pre mid post).ok w->(∀b,(OE.win e r.k a' m' c' pre mid post).blk=some b->F b=none)->RowN r F m' mid ((l.take hi).drop lo)->
  Calls P f vl.toArray w fun x w'=>∃v F' mid' O',x= .returned v/\HS F w (blks (OE.win e r.k a' m' c' pre mid post)) F' (OE.win e r.k a' m' c' pre mid' post::O') w'/\R v F' mid' O')
 (k:∀v F' mid' O' w' xs',F.le F'->HS F0 w0 X F' (O'++O.set p (en.withCells xs')) w'->(∀l',RowN r F' m' mid' l'->RowN r F' m xs' (l.take lo++l'++l.drop hi))->R v F' mid' O'->RW P opr Q rest n ((d,v)::env) w'):
 RW P opr Q (⟨some d,.call ⟨.value cl,al.toArray,ts⟩,ty,pos,es,g⟩::rest) n env w:=by
 obtain⟨pre,mid,post,h1,h2,h3,h4⟩:=h.subWin hp hv hrn hsub;exact d1o (first:= #[]) (cap:= #[]) (R:=fun v w'=>∃F' mid' O',HS F w (blks (OE.win e r.k a' m' c' pre mid post)) F' (OE.win e r.k a' m' c' pre mid' post::O') w'/\R v F' mid' O') he hg hn hc hl
  (by simpa using(hC pre mid post h1 h2 h3).mono fun _ _⟨v,F',mid',O',e1,e2,e3⟩=>⟨v,e1,F',mid',O',e2,e3⟩)
  (fun v w'⟨F',mid',O',e2,e3⟩=>by
   obtain⟨xs',e4,e5⟩:=h4 F' mid' O' w' e2;exact k v F' mid' O' w' xs' e2.le e4 e5 e3)
theorem SubR.full(k:Nat)(a:Option Addr)(m c:Nat):SubR k a m c 0 m a m c:=by
 refine⟨Nat.zero_le _,Nat.le_refl _,rfl,rfl,?_⟩;split
 ·rfl
 cases a with
 |none=>rfl
 |some ad=>simp [Addr.add]
end
theorem HS.cutN{α:Type}{r:Rp α}{F0 F:Frz}{w0 w:World}{X:List Nat}{O:List OE}(h:HS F0 w0 X F O w){e:TypeId}{a:Option Addr}{m c m' p:Nat}{xs:List Value}{l:List α}(hp:O[p]?=some (.row e r.k a m c xs))(hl:RowN r F m xs l)(hle:m'<=m):
 HS F0 w0 X F (O.set p (.row e r.k a m' c (xs.take (m'*r.k)))) w/\RowN r F m' (xs.take (m'*r.k)) (l.take m'):=by
 have h2:=h.cutRow (hi:=(m':Int)) (a':=a) (m':=m') (c':=c) (l2:=l.take m') hp hl (by have:=hl.1;unfold lsl;rw [if_pos ⟨Int.le_refl _,by omega,by omega⟩];simp) (by
  refine⟨by simp,by simpa using hle,by simp,by simp,?_⟩;simp only [Int.toNat_zero,Nat.zero_mul];split
  ·rfl
  cases a with
  |none=>rfl
  |some ad=>simp [Addr.add])
 exact h2
theorem SlR.takeN{α:Type}{r:Rp α}{F:Frz}{a:Option Addr}{m c m':Nat}{l q:List α}(h:SlR r F a m c l)(hle:m'<=m)(hq:q=l.take m'):SlR r F a m' c q:=by
 subst hq;have h2:=h.part (p:=0) (q:=m') (Nat.zero_le _) (by have:=h.1;omega);simp only [Nat.zero_mul,Nat.sub_zero,List.drop_zero]at h2;have e:(if c=0 then a else a.map (·.add 0))=a:=by
  split
  ·rfl
  cases a with
  |none=>rfl
  |some ad=>simp [Addr.add]
 rwa [e]at h2
section
variable{P:Program}{Q:Exit->Act->World->Prop}{n:Nat}{env:Env}{w:World}
variable{opr:Array Oper}{rest:List Oper}{d:Nat}{g:Option (Nat×Bool)}{ty:TypeId}{pos:String}{es:Array Edge}
variable{F0 F:Frz}{w0:World}{X:List Nat}{O:List OE}
theorem f3e{α:Type}{r:Rp α}{t e:TypeId}{x z:Operand}{a:Option Addr}{m c:Nat}{xs ys:List α}{hi:Int}(hu:P.underlying t=some (.slice e))(hS:SizeIs P e r.k)(hg:isOn opr env g=true)(hn:Nat.blt d n=true)
 (hx:opv env x=some (.slice a m c)) (hz:opv env z=some (.int .i64 hi)) (hs:SlR r F a m c xs) (hl:lsl xs 0 hi=some ys)
 (k:SlR r F a hi.toNat c ys->ys=xs.take hi.toNat->hi.toNat<=m->RW P opr Q rest n ((d,.slice a hi.toNat c)::env) w):RW P opr Q (⟨some d,.slice t x none (some z) none,ty,pos,es,g⟩::rest) n env w:=by
 obtain⟨h0,h1,h2,h3⟩:=b8d hl;have hm:=hs.1;have hle:hi.toNat<=m:=by omega
 have hr:=d3z (w:=w) hu hS (a:=a) (m:=m) (c:=c) (by have:=hs.2.1;omega) (lo:=0) (Int.le_refl _) h1 (by omega) (.inr ⟨rfl,rfl⟩) (.inl rfl);have e:(if c=(0:Int).toNat then a else a.map (·.add ((0:Int).toNat*r.k)))=a:=by
  simp only [Int.toNat_zero,Nat.zero_mul];split
  ·rfl
  cases a with
  |none=>rfl
  |some ad=>simp [Addr.add]
 rw [e]at hr;simp only [Int.toNat_zero,Nat.sub_zero]at hr;have hq:ys=xs.take hi.toNat:=by rw [h3];simp
 exact a7r rfl (by simpa using hn) hg (fun a ha=>by simp [execOp,ha.op hx,ha.op hz,hr]) (k (hs.takeN hle hq) hq hle)
theorem c6u{α:Type}{cl:Operand}{al:List Operand}{ts:Array TypeId}{f:FuncId}{vl:List Value}{a:Option Addr}{m c:Nat}{l q:List α}(he:Ent P f)(hg:isOn opr env g=true)(hn:Nat.blt d n=true)
 (hc:opv env cl=some (.func (.func f) #[] #[])) (hl:opvs env al=some vl)
 (hC:Calls P f vl.toArray w fun e w'=>∃m',e= .returned (.slice a m' c)/\w'=w/\m'<=m/\q=l.take m')
 (k:∀m',m'<=m->q=l.take m'->RW P opr Q rest n ((d,.slice a m' c)::env) w):RW P opr Q (⟨some d,.call ⟨.value cl,al.toArray,ts⟩,ty,pos,es,g⟩::rest) n env w:=
 d1o (first:= #[]) (cap:= #[]) (R:=fun v w'=>∃m',v= .slice a m' c/\w'=w/\m'<=m/\q=l.take m') he hg hn hc hl
  (by simpa using hC.mono fun _ _⟨m',e1,e2,e3,e4⟩=>⟨_,e1,m',rfl,e2,e3,e4⟩)
  (fun v w'⟨m',e1,e2,e3,e4⟩=>by subst e1 e2;exact k m' e3 e4)
theorem b3w{α:Type}{r:Rp α}{T e:TypeId}{x y:Operand}{m c base p o b q:Nat}{i:Int}{a:Option Addr}{xs cs':List Value}{en:OE}{v:Value}{l l':List α}{u':α}(hS:SizeIs P T q)(hg:isOn opr env g=true)(h:HS F0 w0 X F O w)
 (hx:opv env x=some (.pointer (some ⟨b,o,none⟩))) (hy:opv env y=some v) (hq:v.cells.size=q) (h1:v.cells.toList.all Value.oneCell'=true) (hqk:q=r.k)
 (hp:O[p]?=some en) (hv:en.view=some (e,r.k,a,m,c,xs,base)) (ha:a=some ⟨b,base,none⟩) (ho:o=base+i.toNat*r.k) (hl:RowN r F m xs l)
 (hnew:v.cells.toList=cs') (hR:r.R F cs' u') (hset:lset l i u'=some l')
 (k:∀w' xs',HS F0 w0 X F (O.set p (en.withCells xs')) w'->RowN r F m xs' l'->RW P opr Q rest n env w'):RW P opr Q (⟨none,.store T x y,ty,pos,es,g⟩::rest) n env w:=by
 obtain⟨h0,hlt,-⟩:=d1e hset;have hex:∃z,l[i.toNat]?=some z:=⟨_,List.getElem?_eq_getElem (by omega)⟩
 obtain⟨z,hz⟩:=hex;obtain⟨cs,hcs,hpre⟩:=RowR.get hl.2 hz;have hk:=r.len hcs;refine d6o (j:=0) hS hg h hx hy hq h1 hp hv ha ho hpre hl (cs':=cs') ?_ (by simp [hk,hqk]) hk hR hset (fun w' xs' h1 h2 _=>k w' xs' h1 h2);rw [List.take_zero,List.nil_append,hnew,Nat.zero_add,List.drop_of_length_le (by omega),List.append_nil]
theorem c6k{α:Type}{r:Rp α}{t e:TypeId}{a:Option Addr}{m c base:Nat}{i:Int}{l:List α}{v:α}{xs:List Value}{p:Nat}{en:OE}(hu:P.underlying t=some (.slice e))(hS:SizeIs P e r.k)
 (h:HS F0 w0 X F O w) (hp:O[p]?=some en) (hv:en.view=some (e,r.k,a,m,c,xs,base)) (hl:RowN r F m xs l) (hi:ix l i=some v):
 ∃b o cs,a=some ⟨b,base,none⟩/\o=base+i.toNat*r.k/\r.R F cs v/\cs<+:xs.drop (i.toNat*r.k)/\∀(ik:IntKind)(w:World),(Instr.indexAt t (.slice a m c) (.int ik i)).run P w= .ok (.pointer (some ⟨b,o,none⟩)) w:=by
 obtain⟨h0,h1,h2,h3⟩:=hl.ix_lt hi;obtain⟨b,cur,ha,_⟩:=OE.access (h.get hp) hv (by omega);obtain⟨cs,hcs,hpre⟩:=RowR.get hl.2 h3;subst ha;exact⟨b,_,cs,rfl,rfl,hcs,hpre,fun ik w=>a9c hu hS h0 h1⟩
theorem e8f{x:Operand}{xt yt e:TypeId}{a:Option Addr}{m c:Nat}(hu:P.underlying xt=some (.slice e))(hg:isOn opr env g=true)(hn:Nat.blt d n=true)(hx:opv env x=some (.slice a m c))
 (k:RW P opr Q rest n ((d,.bool a.isNone)::env) w):RW P opr Q (⟨some d,.binOp .eql xt x (.const (.slice none 0 0)) yt,ty,pos,es,g⟩::rest) n env w:=
 a7r rfl (by simpa using hn) hg (fun a' ha=>by
  have e1:=run_equal_slice_nil (P:=P) w xt e a m c hu;have e2:(eqGuard .eql xt x (.const (.slice none 0 0)) (.slice a m c) (.slice none 0 0)).run P w= .ok () w:=by unfold eqGuard;simp
  simp [execOp,ha.op hx,ha.op (x:= .const (.slice none 0 0)) (v:= .slice none 0 0) rfl,e2,binOp,e1]) k
def RV(P:Program)(w:World)(n:Nat)(env:Env)(rv:ResultVar)(v:Value):Prop:=
 ∀a,Has n a env->((match rv with| .tmp t=>pure (a.tmps.getD t undef)| .cell c t=>do loadVar t (<-asAddr (a.tmps.getD c undef)):Sem Value)).run P w= .ok v w
theorem a6z{t:Nat}{v:Value}(h:env.lookup t=some v):RV P w n env (.tmp t) v:=fun a ha=>by
 show(pure (a.tmps.getD t undef):Sem Value).run P w=_;rw [ha.tmp h];rfl
theorem c2q{T:TypeId}{m b i c:Nat}{cs:List Value}(hA:b3x P T true)(hS:SizeIs P T m)(hm:cs.length=m)(h:HS F0 w0 X F O w)(hc:env.lookup c=some (.pointer (some ⟨b,0,none⟩)))(hi:O[i]?=some (.box b T cs)):RV P w n env (.cell c T) (.agg cs.toArray):=fun a ha=>by
 show(do loadVar T (<-asAddr (a.tmps.getD c undef)):Sem Value).run P w=_;simp [ha.tmp hc,asAddr,e2d (P:=P) h hA hS hm hi]
def RVs(P:Program)(w:World)(n:Nat)(env:Env):List ResultVar->List Value->Prop | [],[]=>True |r::rs,v::vs=>RV P w n env r v/\RVs P w n env rs vs |_,_=>False
theorem c3d{f:ResultVar->Sem Value}(hf:∀r v,RV P w n env r v->(f r).run P w= .ok v w):∀{l:List ResultVar}{vl:List Value},RVs P w n env l vl->(l.mapM f).run P w= .ok vl w
 | [],[],_=>by simp
 |r::rs,v::vs,⟨h1,h2⟩=>by
  rw [List.mapM_cons];simp only [Sem.run_bind,hf r v h1,Result.andThen_ok,c3d hf h2,Sem.run_pure]
 | [],_::_,h=>h.elim
 |_::_,[],h=>h.elim
theorem d3o{fn:Func}{a:Act}{l:List ResultVar}{vl:List Value}(hf:fn.results=l.toArray)(ha:Has n a env)(h:RVs P w n env l vl)(hl:vl.length≠1):(results fn a.tmps).run P w= .ok (.tuple vl.toArray) w:=by
 unfold results;rw [hf];simp only [List.mapM_toArray];rw [Sem.run_bind,Sem.run_map,c3d (fun r v hr=> ?_) h]
 ·simp [hl]
 have:=hr a ha;cases r<;>exact this
theorem a9t{fn:Func}{R:Ending->World->Prop}{l:List ResultVar}{vl:List Value}(hf:fn.results=l.toArray)(h:RVs P w n env l vl)(hl:vl.length≠1)(hR:R (.returned (.tuple vl.toArray)) w):QW (bodyPost P fn R) .ret n env w:=
 d7w (fun _ ha=>d3o hf ha h hl) hR
section
variable{ops:Array Oper}{S:World->Prop}{fuel fuel':Nat}{listed listed':Array Bool}
theorem d0b(t:Nat){b c:Bool}(ht:env.lookup t=some (.bool b))(hb:b=c)(k:DW P ops Q S fuel listed n ((t,.bool c)::env) w):DW P ops Q S fuel listed n env w:=
 fun a ha=>k a ⟨ha.size,ha.defers,fun j v hj=>by
  rw [List.lookup_cons]at hj;split at hj
  ·rename_i e;have e:j=t:=by simpa using e
   subst e;cases hj;subst hb;exact ha.get _ _ ht
  exact ha.get _ _ hj⟩
theorem e6f(J:Act->World->Prop)(h2:∀a w',J a w'->wpAnyH P .any ops (NP Q) S fuel' listed' a w')
 (h1:(∀a w',J a w'->wpAnyH P .any ops (NP Q) S fuel' listed' a w')->DW P ops Q S fuel listed n env w):DW P ops Q S fuel listed n env w:=h1 h2
theorem d2j{J:Act->World->Prop}(h2:∀a w',J a w'->wpAnyH P .any ops (NP Q) S fuel listed' a w')(hl:listed=listed')(h:∀a,Has n a env->J a w):DW P ops Q S fuel listed n env w:=by
 subst hl;exact fun a ha=>h2 a w (h a ha)
theorem c4j{a:Act}(ha:Has n a env)(h:DW P ops Q S fuel listed n env w):wpAnyH P .any ops (NP Q) S fuel listed a w:=h a ha
end
def FX(F:Frz)(v:Nat)(cs:List Value):Prop:=∃t z,F v=some (.cells cs.toArray t z)
theorem FX.mono{F F':Frz}{v:Nat}{cs:List Value}(hF:F.le F')(h:FX F v cs):FX F' v cs:=by
 obtain⟨t,z,h1⟩:=h;exact⟨t,z,hF _ _ h1⟩
theorem FX.fc{F:Frz}{v:Nat}{cs:List Value}(h:FX F v cs):FC F v 0 cs:=by
 obtain⟨t,z,h1⟩:=h;exact⟨_,t,z,h1,by simp⟩
theorem e3c{x y:Code}{Q':Exit->Act->World->Prop}(J:Act->World->Prop)(h2:∀a w',J a w'->y.wp P Q a w')(h1:CW P x (Exit.then J Q') n env w):CW P x (Exit.then (y.wp P Q) Q') n env w:=
 fun a ha=>Code.wp_mono (fun e a' w' hq=>by cases e<;>first|exact h2 _ _ hq|exact hq) (h1 a ha)
def lput{α:Type}(l:List α)(lo:Int)(l':List α)(hi:Int):List α:=l.take lo.toNat++l'++l.drop hi.toNat
end
end Rt
namespace Wrap
open Go Go.ChangeShapes Go.WideShapes Go.ChangeAt Go.RowKit Rt
theorem own:ownKnob Tryz.prog.godebug=none:=by kernel_rfl
theorem laidOut:laidOutB Tryz.prog=true:=by kernel_rfl
def all(W:World):Frz:=fun b=>W.heap[b]?
theorem f0p(W:World):Sat (all W) W:=fun _ _ h=>h
section
variable{H:Type}{enc:TypeId×Value->H}{P:Program}
theorem c0q(hl:laidOutB P=true){W W':World}(hb:Below W.heap.size W W'){sp:Nat->Bool}:
 ∀{ts:List TypeId}{vs:List Value}{ds:List (DataW H)}{ps:List MemPlace},(∀t∈ts,P.readableRec t=true/\t<P.types.size)->DataW.TrodAll enc P W 0 (fun _=>true) true ts vs ds ps->
  (∀x∈ps,x.block<W.heap.size)->(∀x∈ps,sp x.block=true)->DataW.TrodAll enc P W' 0 sp true ts vs ds ps
 | [],_,_,_,_,h,_,_=>by
  obtain⟨rfl,rfl,rfl⟩:=trodAll_nil h;exact trodAll_mk0
 |t::ts,_,_,_,ht,h,hlt,hsp=>by
  obtain⟨v,vs,d,ds,p,q,rfl,rfl,rfl,h1,h2⟩:=trodAll_cons h;have h3:=ht t (by simp);exact trodAll_cons_mk (WideElems.Trod_stays hl h3.1 h3.2 h1 (fun x hx=>hb.same (hlt x (by simp [hx]))) (fun x hx=>hsp x (by simp [hx])))
   (c0q hl hb (fun t' ht'=>ht t' (by simp [ht'])) h2 (fun x hx=>hlt x (by simp [hx])) (fun x hx=>hsp x (by simp [hx])))
theorem e3g(hl:laidOutB P=true){f:Func}{s:ChangeSpec}{W W':World}{args:Array Value}{ds gs:List (DataW H)}{before:List MemPlace}{tb:TypeId}
 (hts:∀t∈f.params.toList,P.readableRec t=true/\t<P.types.size) (hv:s.vars= []) (hrt:f.resultTypes= #[tb]) (htb:P.underlying tb=some .bool)
 (hs:s.fn H (ds++gs)={results:= [.lit (.bool true)],args:=ds})
 (hW:DataW.Whole enc P f.params.toList s.vars false W args.toList ds gs before) (hb:Below W.heap.size W W'):s.post enc P f false true false false W args (.bool true) W':=by
 have hlt:∀x∈before,x.block<W.heap.size:=fun x hx=>by simpa using hW.lt x hx
 have hW':=hW;obtain⟨p,q,hA,hV,rfl,hz,hn⟩:=hW;rw [hv]at hV;obtain⟨rfl,rfl⟩:=trodVars_none hV;simp only [List.append_nil]at*;have harg:∀sp:Nat->Bool,(∀x∈p,sp x.block=true)->DataW.TrodAll enc P W' 0 sp true f.params.toList args.toList ds p:=fun sp hsp=>c0q hl hb hts hA hlt hsp;have hres:∀(b:Nat)(sp:Nat->Bool)(hd:Bool),DataW.TrodAll enc P W' b sp hd f.resultTypes.toList ((Value.bool true).resultList f.resultTypes.size) [.lit (.bool true)] []:=by
  intro b sp hd;rw [hrt];exact trodAll_cons_mk (shut_bool htb true) trodAll_mk0
 refine⟨ds,[],p,[],p,[],hW',?_,?_,?_,?_,fun h=>by cases h⟩
 ·simp only [List.append_nil,hs];exact hres _ _ _
 ·simp only [List.append_nil,hs];exact harg _ (fun x hx=>by simpa using hlt x hx)
 ·simp only [List.append_nil,hs,hv];exact rfl
 exact hb.frame _
end
theorem e3p{P:Program}{W:World}{name:String}{g:Nat}{cs:List Value}(hg:P.globalNamed name=some g)(h:W.var? P name=some cs.toArray):FX (all W) g cs:=by
 unfold World.var? at h;rw [hg]at h;simp only [b_s]at h;split at h
 ·rename_i cells t fz hh;cases h;exact⟨_,_,hh⟩
 cases h
def b3p(P:Program)(W:World)(T:TypeId){α:Type}(r:Rp α)(ok:α->Prop):Prop:=
 ∀{H:Type}(enc:TypeId×Value->H)(fuel:Nat)(cs:List Value)(x:DataW H×List MemPlace),DataW.trod enc P W 0 (fun _=>true) true fuel T cs=some x->∃y,r.R (all W) cs y/\ok y
section
variable{P:Program}{W:World}{T:TypeId}
theorem d8r{k:IntKind}(ht:P.underlying T=some (.int k)):b3p P W T (Rp.int k) (fun z=>k.min<=z/\z<=k.max):=by
 intro H enc fuel cs x h;obtain⟨n,rfl,_,hw⟩:=DataW.trod_int ht h;exact⟨n,rfl,by simpa [Lit.wf]using hw⟩
theorem d9w(ht:P.underlying T=some .string):b3p P W T Rp.str (fun s=>s.length<=maxLen):=by
 intro H enc fuel cs x h;obtain⟨s,rfl,_,hs⟩:=DataW.trod_string ht h;exact⟨s.data.toList,by rw [d8h];rfl,by simpa using hs⟩
theorem e1f{α:Type}{r:Rp α}{F:Frz}{k:Nat}(hk:r.k=k):∀(n:Nat)(C:Nat->List Value)(X:Nat->α),(∀i,i<n->r.R F (C i) (X i))->RowR r F ((List.range n).flatMap C) ((List.range n).map X)
 |0,_,_,_=>by simp [RowR]
 |n+1,C,X,h=>by
  rw [List.range_succ,List.flatMap_append,List.map_append];refine RowR.append ?_ (e1f hk n C X fun i hi=>h i (by omega));simpa [RowR]using h n (by omega)
theorem c4h{k:Nat}:∀(n:Nat)(C:Nat->List Value),(∀i,i<n->(C i).length=k)->((List.range n).flatMap C).length=n*k
 |0,_,_=>by simp
 |n+1,C,h=>by
  rw [List.range_succ,List.flatMap_append,List.length_append,c4h n C fun i hi=>h i (by omega)];simp [h n (by omega),Nat.add_mul]
theorem d0s{k:Nat}:∀(n:Nat)(C:Nat->List Value),(∀i,i<n->(C i).length=k)->∀i j,i<n->j<k->((List.range n).flatMap C)[i*k+j]?=(C i)[j]?
 |0,_,_,_,_,hi,_=>by omega
 |n+1,C,h,i,j,hi,hj=>by
  have hl:=c4h n C fun i hi=>h i (by omega);rw [List.range_succ,List.flatMap_append]
  by_cases e:i=n
  ·subst e;rw [List.getElem?_append_right (by omega),hl];simp
  have h1:i*k+j<n*k:=by
   have h2:(i+1)*k<=n*k:=Nat.mul_le_mul_right _ (by omega);rw [Nat.add_mul]at h2;omega
  rw [List.getElem?_append_left (by omega)];exact d0s n C (fun i hi=>h i (by omega)) i j (by omega) hj
theorem f4x{b o:Nat}{l:List Value}(h:∀i v,l[i]?=some v->W.cell? ⟨b,o+i,none⟩=some v)(h0:l≠ []):FC (all W) b o l:=by
 have h1:=h 0 (l.head h0) (by rw [<-List.head?_eq_getElem?,List.head?_eq_some_head h0]);unfold World.cell? at h1;cases hb:W.heap[b]? with
 |none=>simp [hb]at h1
 |some ob=>
  cases ob with
  |cells cells t fz=>
   refine⟨cells,t,fz,hb,?_⟩;rw [List.prefix_iff_getElem?];intro i hi;have h2:=h i l[i] (by simp [hi]);simp only [World.cell?,hb]at h2;rw [List.getElem?_drop,Array.getElem?_toList];simpa using h2
  |_=>simp [hb]at h1
theorem e4c(a:Addr)(i j:Nat):(a.add i).add j=a.add (i+j):=by
 unfold Addr.add
 by_cases hi:i=0
 ·subst hi;simp
 by_cases hj:j=0
 ·subst hj;simp
 simp [hi,hj,Nat.add_assoc]
theorem b2i{e:TypeId}{α:Type}{r:Rp α}{ok:α->Prop}(ht:P.underlying T=some (.slice e))(hc:P.cellsOf e=r.k)(hp:0<r.k)(he:b3p P W e r ok):
 b3p P W T (Rp.sl r) (fun l=>l.length<=maxLen/\∀x∈l,ok x):=by
 intro H enc fuel cs x h;rcases Go.Deep.open_slice ht h with⟨rfl,_⟩|⟨a,len,cap,m,n,D,Pl,rfl,_,hl,hm,hmm,_,hx⟩
 ·exact⟨[],⟨none,0,0,rfl,SlR.nil r _⟩,by simp [maxLen],by simp⟩
 simp only [if_true]at hmm;have hx':∀i,i<len->∃q:List Value×α,W.cells? 0 (a.add (i*P.cellsOf e)) (P.cellsOf e)=some q.1/\r.R (all W) q.1 q.2/\ok q.2:=by
  intro i hi;obtain⟨cs',h1,h2⟩:=hx i (by omega);obtain⟨y,h3,h4⟩:=he enc _ _ _ h2;exact⟨(cs',y),h1,h3,h4⟩
 by_cases h0:len=0
 ·subst h0;exact⟨[],⟨some a,0,cap,rfl,rfl,by simp,hm,.inl rfl⟩,by simp [maxLen],by simp⟩
 obtain⟨d,_⟩:=hx' 0 (by omega);have hne:Nonempty (List Value×α):=⟨d⟩
 obtain⟨Q,hQ⟩:∃Q:Nat->List Value×α,∀i,i<len->W.cells? 0 (a.add (i*P.cellsOf e)) (P.cellsOf e)=some (Q i).1/\r.R (all W) (Q i).1 (Q i).2/\ok (Q i).2:=
  ⟨fun i=>if hi:i<len then Classical.choose (hx' i hi)else d,fun i hi=>by simp only [hi,dif_pos];exact Classical.choose_spec (hx' i hi)⟩
 have hlen:∀i,i<len->(Q i).1.length=r.k:=fun i hi=>r.len (hQ i hi).2.1;have hrow:=e1f (r:=r) rfl len (fun i=>(Q i).1) (fun i=>(Q i).2) fun i hi=>(hQ i hi).2.1;have hcell:∀i j,i<len->j<r.k->W.cell? (a.add (i*r.k+j))=(Q i).1[j]?:=by
  intro i j hi hj;have h1:=(World.cells?_some (hQ i hi).1).2.2 j (by rw [hc];exact hj);rw [hc]at h1
  rwa [e4c]at h1
 have hspot:a.spot=none:=by
  have h1:=hcell 0 0 (by omega) hp;have h2:=hlen 0 (by omega);rw [List.getElem?_eq_getElem (by omega)]at h1;have e0:a.add (0*r.k+0)=a:=by simp [Addr.add]
  rw [e0]at h1;exact World.cell?_spot h1
 obtain⟨b,o,spot⟩:=a;simp only at hspot;subst hspot;have hflen:=c4h len (fun i=>(Q i).1) hlen;refine⟨(List.range len).map fun i=>(Q i).2,⟨some ⟨b,o,none⟩,len,cap,by simp,by simp,by simpa using hl,hm,.inr ⟨b,o,_,rfl,f4x ?_ ?_,hrow⟩⟩,by simpa using Nat.le_trans hl hm,?_⟩
 ·intro i v hv;have hi:i<len*r.k:=by rw [<-hflen];exact(List.getElem?_eq_some_iff.1 hv).1
  have h1:i/r.k<len:=Nat.div_lt_of_lt_mul (by rw [Nat.mul_comm];exact hi);have h2:i %r.k<r.k:=Nat.mod_lt _ hp;have h3:i/r.k*r.k+i %r.k=i:=Nat.div_add_mod' i r.k;have h4:=hcell _ _ h1 h2;have h5:=d0s len (fun i=>(Q i).1) hlen _ _ h1 h2;rw [h3]at h4 h5;rw [h5]at hv;rw [hv,Go.WideShapes.add_plain]at h4;exact h4
 ·intro e0;have:=congrArg List.length e0;rw [hflen]at this;have:0<len*r.k:=Nat.mul_pos (by omega) hp;simp only [List.length_nil]at*;omega
 intro x hx;obtain⟨i,hi,rfl⟩:=List.mem_map.1 hx;exact(hQ i (List.mem_range.1 hi)).2.2
theorem a6d{fs:Array Field}{H:Type}{enc:TypeId×Value->H}{n:Nat}{cs:List Value}{xs:List (DataW H×List MemPlace)}(hl:xs.length=fs.size)
 (h:∀(i:Nat)(f:Field),fs[i]?=some f->DataW.trod enc P W 0 (fun _=>true) true n f.type ((cs.drop f.offset).take (P.cellsOf f.type))=xs[i]?)
 {i:Nat} {f:Field} (hf:fs[i]?=some f) {α:Type} {r:Rp α} {ok:α->Prop} (ho:b3p P W f.type r ok):∃y,r.R (all W) ((cs.drop f.offset).take (P.cellsOf f.type)) y/\ok y:=by
 have h1:=h i f hf;have h2:i<xs.length:=by rw [hl];exact(Array.getElem?_eq_some_iff.1 hf).1
 rw [List.getElem?_eq_getElem h2]at h1;exact ho enc _ _ _ h1
theorem a5k(cs:List Value)(o k:Nat):cs.drop o=(cs.drop o).take k++cs.drop (o+k):=by
 rw [<-List.drop_drop,List.take_append_drop]
theorem c3r{α:Type}{r:Rp α}{ok:α->Prop}(ho:b3p P W T r ok){H:Type}{enc:TypeId×Value->H}{v:Value}{d:DataW H}{ps:List MemPlace}(h:DataW.Trod enc P W 0 (fun _=>true) true T v d ps):∃y,r.R (all W) v.cells.toList y/\ok y:=by
 obtain⟨fuel,hf⟩:=h;exact ho enc _ _ _ hf
theorem e3q{e:TypeId}{α:Type}{r:Rp α}{ok:List α->Prop}(ht:P.underlying T=some (.slice e))(ho:b3p P W T (Rp.sl r) ok){b0:Nat}{re:Reach}{H:Type}{enc:TypeId×Value->H}{v:Value}{d:DataW H}{ps:List MemPlace}
 (hval:Value.okWide P W re b0 T v) (h:DataW.Trod enc P W 0 (fun _=>true) true T v d ps):∃a n c l,v= .slice a n c/\SlR r (all W) a n c l/\ok l:=by
 obtain⟨a0,n0,c0,rfl⟩:=okWide_slice ht hval;obtain⟨y,⟨a,m,c,h1,h2⟩,h3⟩:=c3r ho h;simp only [Value.cells,List.cons.injEq,and_true]at h1;exact⟨a,m,c,y,h1,h2,h3⟩
end
section
variable{P:Program}{W:World}{T:TypeId}
theorem e5d{e:TypeId}{α:Type}{r:Rp α}{ok:α->Prop}{H:Type}{enc:TypeId×Value->H}{fuel:Nat}{cs:List Value}{x:DataW H×List MemPlace}(ht:P.underlying T=some (.slice e))(hc:P.cellsOf e=r.k)(hp:0<r.k)
 (h:DataW.trod enc P W 0 (fun _=>true) true fuel T cs=some x) (he:∀(n:Nat)(cs':List Value)(x':DataW H×List MemPlace),fuel=n+1->DataW.trod enc P W 0 (fun _=>true) true n e cs'=some x'->∃y,r.R (all W) cs' y/\ok y):
 ∃l,(Rp.sl r).R (all W) cs l/\(l.length<=maxLen/\∀x∈l,ok x):=by
 rcases DataW.trod_slice ht h with⟨rfl,_⟩|⟨a,len,cap,elems,rest,n,hfu,rfl,_,_,hl,hm,hlen0,hel,_,_⟩
 ·exact⟨[],⟨none,0,0,rfl,SlR.nil r _⟩,by simp [maxLen],by simp⟩
 have hx':∀i,i<len->∃q:List Value×α,W.cells? 0 (a.add (i*P.cellsOf e)) (P.cellsOf e)=some q.1/\r.R (all W) q.1 q.2/\ok q.2:=by
  intro i hi;have h1:=hel i hi;have h2:i<elems.length:=by omega
  rw [List.getElem?_eq_getElem h2,Option.bind_eq_some_iff]at h1;obtain⟨cs',h3,h4⟩:=h1;obtain⟨y,h5,h6⟩:=he n cs' _ hfu h4;exact⟨(cs',y),h3,h5,h6⟩
 by_cases h0:len=0
 ·subst h0;exact⟨[],⟨some a,0,cap,rfl,rfl,by simp,hm,.inl rfl⟩,by simp [maxLen],by simp⟩
 obtain⟨d,_⟩:=hx' 0 (by omega);have hne:Nonempty (List Value×α):=⟨d⟩
 obtain⟨Q,hQ⟩:∃Q:Nat->List Value×α,∀i,i<len->W.cells? 0 (a.add (i*P.cellsOf e)) (P.cellsOf e)=some (Q i).1/\r.R (all W) (Q i).1 (Q i).2/\ok (Q i).2:=
  ⟨fun i=>if hi:i<len then Classical.choose (hx' i hi)else d,fun i hi=>by simp only [hi,dif_pos];exact Classical.choose_spec (hx' i hi)⟩
 have hlen:∀i,i<len->(Q i).1.length=r.k:=fun i hi=>r.len (hQ i hi).2.1;have hrow:=e1f (r:=r) rfl len (fun i=>(Q i).1) (fun i=>(Q i).2) fun i hi=>(hQ i hi).2.1;have hcell:∀i j,i<len->j<r.k->W.cell? (a.add (i*r.k+j))=(Q i).1[j]?:=by
  intro i j hi hj;have h1:=(World.cells?_some (hQ i hi).1).2.2 j (by rw [hc];exact hj);rw [hc]at h1
  rwa [e4c]at h1
 have hspot:a.spot=none:=by
  have h1:=hcell 0 0 (by omega) hp;have h2:=hlen 0 (by omega);rw [List.getElem?_eq_getElem (by omega)]at h1;have e0:a.add (0*r.k+0)=a:=by simp [Addr.add]
  rw [e0]at h1;exact World.cell?_spot h1
 obtain⟨b,o,spot⟩:=a;simp only at hspot;subst hspot;have hflen:=c4h len (fun i=>(Q i).1) hlen;refine⟨(List.range len).map fun i=>(Q i).2,⟨some ⟨b,o,none⟩,len,cap,by simp,by simp,by simpa using hl,hm,.inr ⟨b,o,_,rfl,f4x ?_ ?_,hrow⟩⟩,by simpa using Nat.le_trans hl hm,?_⟩
 ·intro i v hv;have hi:i<len*r.k:=by rw [<-hflen];exact(List.getElem?_eq_some_iff.1 hv).1
  have h1:i/r.k<len:=Nat.div_lt_of_lt_mul (by rw [Nat.mul_comm];exact hi);have h2:i %r.k<r.k:=Nat.mod_lt _ hp;have h3:i/r.k*r.k+i %r.k=i:=Nat.div_add_mod' i r.k;have h4:=hcell _ _ h1 h2;have h5:=d0s len (fun i=>(Q i).1) hlen _ _ h1 h2;rw [h3]at h4 h5;rw [h5]at hv;rw [hv,Go.WideShapes.add_plain]at h4;exact h4
 ·intro e0;have:=congrArg List.length e0;rw [hflen]at this;have:0<len*r.k:=Nat.mul_pos (by omega) hp;simp only [List.length_nil]at*;omega
 intro x hx;obtain⟨i,hi,rfl⟩:=List.mem_map.1 hx;exact(hQ i (List.mem_range.1 hi)).2.2
end
end Wrap
namespace Rt
open Go Go.RowKit
def imax(x y:Int):Int:=if x<y then y else x
section
variable{P:Program}{Q:Exit->Act->World->Prop}{n:Nat}{env:Env}{w:World}
variable{opr:Array Oper}{rest:List Oper}{d:Nat}{g:Option (Nat×Bool)}{ty:TypeId}{pos:String}{es:Array Edge}
end
section
variable{P:Program}{Q:Exit->Act->World->Prop}{n:Nat}{env:Env}{w:World}{F0 F:Frz}{w0:World}{X:List Nat}{O:List OE}
variable{opr:Array Oper}{rest:List Oper}{d:Nat}{g:Option (Nat×Bool)}{ty:TypeId}{pos:String}{es:Array Edge}
theorem b7w{T:TypeId}{x:Operand}{b i m:Nat}{t:TypeId}{cs:List Value}(hA:b3x P T true)(hS:SizeIs P T m)(hg:isOn opr env g=true)(hn:Nat.blt d n=true)(h:HS F0 w0 X F O w)(hx:opv env x=some (.pointer (some ⟨b,0,none⟩)))
 (hi:O[i]?=some (.box b t cs)) (hm:cs.length=m) (k:RW P opr Q rest n ((d,.agg cs.toArray)::env) w):RW P opr Q (⟨some d,.load T x,ty,pos,es,g⟩::rest) n env w:=
 e4t hA hS hg hn h hx hi (by rw [List.drop_zero];exact List.take_of_length_le (Nat.le_of_eq hm)) hm k
end
section
variable{P:Program}{Q:Exit->Act->World->Prop}{n:Nat}{env:Env}{w:World}{ops:Array Oper}{d:Nat}{S:World->Prop}{fuel:Nat}{listed:Array Bool}{F:Frz}{O:List OE}
def tkOk(ops:Array Oper)(listed:Array Bool)(i:Nat):Bool:=Region.noSelect ops&&Region.free .any ops listed i&&(Region.ready .any ops listed).contains i
theorem a8w{i:Nat}(h:tkOk ops listed i=true):Region.noSelect ops=true/\Region.free .any ops listed i=true/\(Region.ready .any ops listed).contains i=true:=by
 unfold tkOk at h;simp only [Bool.and_eq_true]at h;exact⟨h.1.1,h.1.2,h.2⟩
theorem d_tk(i:Nat){o:Oper}{v:Value}(hi:ops[i]?=some o)(hc:tkOk ops listed i=true)(hd:o.dst=some d)(hn:Nat.blt d n=true)(hg:isOn ops env o.guard=true)(ho:plainOp o.op=true)(hS:SH F O w)
 (hv:∀w' A B,F.le A->HS A w' B A O w'->RW P ops (QQ (fun w''=>w''=w') d v) [o] n env w') (k:DW P ops Q (SH F O) fuel (listed.setIfInBounds i true) n ((d,v)::env) w):DW P ops Q (SH F O) (fuel+1) listed n env w:=
 f3k i hi (a8w hc).1 (a8w hc).2.1 (a8w hc).2.2 hd hn hg ho hS (fun w'⟨A,B,h1,h2⟩=>hv w' A B h1 h2) k
theorem d_of(i:Nat){o:Oper}(hi:ops[i]?=some o)(hc:tkOk ops listed i=true)(hd:o.dst=some d)(hn:Nat.blt d n=true)(hg:c9r ops env o.guard=true)(hS:S w)
 (k:DW P ops Q S fuel (listed.setIfInBounds i true) n ((d,undef)::env) w):DW P ops Q S (fuel+1) listed n env w:=
 f5j i hi (a8w hc).1 (a8w hc).2.1 (a8w hc).2.2 hd hn hg hS k
end
section
variable{P:Program}{Qa:Act->Prop}{n:Nat}{env:Env}{opr:Array Oper}{rest:List Oper}{d:Nat}{F0 F:Frz}{w0:World}{X:List Nat}{O:List OE}
theorem a3v{o:Oper}{v:Value}(hd:o.dst=some d)(hn:Nat.blt d n=true)(hg:isOn opr env o.guard=true)(ho:plainOp o.op=true)(hs:∀w F',F.le F'->HS F0 w0 X F' O w->RW P opr (QQ (fun w'=>w'=w) d v) [o] n env w)
 (k:QR P opr (CH F0 w0 X F O) Qa rest n ((d,v)::env)):QR P opr (CH F0 w0 X F O) Qa (o::rest) n env:=
 f3v hd hn hg ho (fun w⟨F',h1,h2⟩=>hs w F' h1 h2) k
end
theorem Y{α:Sort _}{a:α}:a=a:=rfl
def nodB:List Nat->Bool | []=>true |x::l=> !(l.contains x)&&nodB l
theorem nodB_ok:∀{l:List Nat},nodB l=true->l.Nodup
 | [],_=>List.nodup_nil
 |x::l,h=>by
  unfold nodB at h;rw [Bool.and_eq_true,Bool.not_eq_true',List.contains_eq_mem,decide_eq_false_iff_not]at h;exact List.nodup_cons.2 ⟨h.1,nodB_ok h.2⟩
section
variable{P:Program}{n:Nat}{env:Env}{w w0:World}{ops:Array Oper}{d:Nat}{F0 F:Frz}{X:List Nat}{O:List OE}
theorem HS.Yp(h:HS F0 w0 X F O w)(l:List Nat)(hl:nodB l=true){O':List OE}(hO:Rt.pick O l=O'):HS F0 w0 X F O' w:=h.pick l (nodB_ok hl) hO
theorem HS.Ys(h:HS F0 w0 X F O w){F1:Frz}(hle:F1.le F)(l:List Nat)(hl:nodB l=true){O1:List OE}(hO:Rt.pick O l=O1):SH F1 O1 w:=h.sh hle l (nodB_ok hl) hO
theorem Yf:F.le F:=Frz.refl F
theorem Yn{v:Value}:RW P ops (QQ (fun w''=>w''=w) d v) [] n ((d,v)::env) w:=a0f (qq rfl)
theorem Yb{α β:Type}{x:Option α}{f:α->Option β}{r:β}(h:x.bind f=some r):∃a,x=some a/\f a=some r:=bind_some h
theorem Yo{α:Type}{a b:α}(h:some a=some b):a=b:=Option.some.inj h
end
def GFn(P:Program)(F:Frz)(fv:Value)(enc:Frz->List Value->Option Value->Prop):Prop:= ∃f cap,fv= .func (.func f) #[] cap/\Ent P f/\∀F',F.le F'->∀args r w,Sat F' w->enc F' args (some r)->Calls P f (args.toArray++cap) w fun e w'=>∃v F2 O',e= .returned v/\HS F' w [] F2 O' w'/\(v=r/\O'= [])
theorem GFn.mono{P:Program}{F F2:Frz}{fv:Value}{enc:Frz->List Value->Option Value->Prop}(hF:F.le F2)(h:GFn P F fv enc):GFn P F2 fv enc:=by
 obtain⟨f,cap,h1,h2,h3⟩:=h;exact⟨f,cap,h1,h2,fun F' hF'=>h3 F' (hF.trans hF')⟩
section
variable{P:Program}{Q:Exit->Act->World->Prop}{n:Nat}{env:Env}{w:World}{F0 F:Frz}{w0:World}{X:List Nat}{O:List OE}
variable{opr:Array Oper}{rest:List Oper}{d:Nat}{g:Option (Nat×Bool)}{ty:TypeId}{pos:String}{es:Array Edge}
end
section
variable{P:Program}{Q:Exit->Act->World->Prop}{n:Nat}{env:Env}{w:World}
variable{ops:Array Oper}{d:Nat}{S:World->Prop}{fuel:Nat}{listed:Array Bool}{F:Frz}
variable{g:Option (Nat×Bool)}{ty:TypeId}{pos:String}{es:Array Edge}
theorem e5f{α:Type}{r:Rp α}{t e:TypeId}(hu:P.underlying t=some (.slice e))(hS:SizeIs P e r.k){a:Option Addr}{m c:Nat}{xs ys:List α}{lo hi:Int}(hs:SlR r F a m c xs)(hl:lsl xs lo hi=some ys){lo' hi':Option Value}
 (ha:lo'=some (.int .i64 lo)∨lo'=none/\lo=0) (hb:hi'=some (.int .i64 hi)∨hi'=none/\hi=xs.length):
 ∃a' m' c',(∀w,(Instr.sliceAt t (.slice a m c) lo' hi' none).run P w= .ok (.slice a' m' c') w)/\SlR r F a' m' c' ys:=by
 have hm:=hs.1;subst hm;unfold lsl at hl;split at hl
 ·rename_i hc;cases hl;obtain⟨h0,h1,h2⟩:=hc;obtain⟨p,rfl⟩:=Int.eq_ofNat_of_zero_le h0;obtain⟨q,rfl⟩:=Int.eq_ofNat_of_zero_le (show 0<=hi by omega);have h1':p<=q:=by omega
  have h2':q<=xs.length:=by omega
  have h3:=hs.2.1;have e1:∀(w:World)(c:BoundsCode)(y:Nat),q<=y->(Instr.sliceBound (.int .i64 (q:Int)) y c).run P w= .ok q w:=fun w c y hy=>by simp [Instr.sliceBound,asIntOf,hy]
  have e2:∀(w:World)(c:BoundsCode)(y:Nat),p<=y->(Instr.sliceBound (.int .i64 (p:Int)) y c).run P w= .ok p w:=fun w c y hy=>by simp [Instr.sliceBound,asIntOf,hy]
  have hq:q<=c:=by omega
  refine⟨_,_,_,fun w=> ?_,by simpa using hs.part h1' h2'⟩;rcases ha with rfl|⟨rfl,hp⟩<;>rcases hb with rfl|⟨rfl,hqq⟩
  ·simp [Instr.sliceAt,Instr.slice,Instr.sliceBounds,underlying,hu,e1,e2,h1',hq,hS w]
  ·obtain rfl:q=xs.length:=by omega
   simp [Instr.sliceAt,Instr.slice,Instr.sliceBounds,underlying,hu,e2,h1',hS w]
  ·obtain rfl:p=0:=by omega
   simp [Instr.sliceAt,Instr.slice,Instr.sliceBounds,underlying,hu,e1,hq,hS w]
  obtain rfl:p=0:=by omega
  obtain rfl:q=xs.length:=by omega
  simp [Instr.sliceAt,Instr.slice,Instr.sliceBounds,underlying,hu,hS w]
 cases hl
def e5o(P:Program)(ops:Array Oper)(Q:Exit->Act->World->Prop)(S:World->Prop)(fuel:Nat)(listed:Array Bool)(n:Nat)(env:Env)(w:World)(l:List Nat):Prop:= ∀i,i∈l->∃o,ops[i]?=some o/\RW P ops (QK fun a w'=>S w'/\wpAnyH P .any ops (NP Q) S fuel (listed.setIfInBounds i true) a w') [o] n env w
theorem steps_nil:e5o P ops Q S fuel listed n env w []:=fun _ h=>absurd h List.not_mem_nil
theorem a3j{i:Nat}{l:List Nat}{o:Oper}(hi:ops[i]?=some o)(h:RW P ops (QK fun a w'=>S w'/\wpAnyH P .any ops (NP Q) S fuel (listed.setIfInBounds i true) a w') [o] n env w)(hl:e5o P ops Q S fuel listed n env w l):e5o P ops Q S fuel listed n env w (i::l):=by
 intro j hj;rcases List.mem_cons.1 hj with rfl|hj
 ·exact⟨o,hi,h⟩
 exact hl j hj
theorem d2k(l:List Nat)(hr:Region.ready .any ops listed=l)(hl:l.isEmpty=false)(h:e5o P ops Q S fuel listed n env w l):DW P ops Q S (fuel+1) listed n env w:=by
 have one:∀(k:Nat)(x:Oper),ops[k]?=some x->RW P ops (QK fun a w'=>S w'/\wpAnyH P .any ops (NP Q) S fuel (listed.setIfInBounds k true) a w') [x] n env w->∀a,Has n a env->
  wpOp P ops (NP Q) k (fun a' w'=>S w'/\wpAnyH P .any ops (NP Q) S fuel (listed.setIfInBounds k true) a' w') a w:=by
  intro k x hk hx a ha;have h1:=hx a ha;unfold wpList at h1;unfold wpOp;simp only [hk];split at h1
  ·rename_i hw;rw [if_pos hw];rcases h1 with h1|⟨_,_,_,h2,_⟩
   ·left;unfold Oper.wp at*;refine c8x ?_;have:(wpList P ops (QK fun a w'=>S w'/\wpAnyH P .any ops (NP Q) S fuel (listed.setIfInBounds k true) a w') [])=fun a w'=>(QK fun a w'=>S w'/\wpAnyH P .any ops (NP Q) S fuel (listed.setIfInBounds k true) a w') .normal a w':=rfl;rw [this]at h1;exact Oper.wp_mono (o:=x) (w:=w) (fun a w' hh=>hh.2) h1
   cases h2
  rename_i hw;rw [if_neg hw];exact h1.2
 intro a ha;refine wpAnyH_all hr (by cases l<;>simp at hl⊢) ?_;intro k hk;obtain⟨o,ho,h2⟩:=h k hk;exact one k o ho h2 a ha
end
end Rt
namespace M
open Go Go.RowKit Rt
structure Expr where
 Op:Int
 N:Int
 Name:Bs
 Args:List Expr
instance:Inhabited Expr:=⟨⟨0,0,[],[]⟩⟩
mutual
def ExprR(F:Frz)(cs:List Value):Expr->Prop |⟨o,n,s,l⟩=>∃a m c,cs= [.int .i64 o,.int .i64 n,vs s,.slice a m c]/\l.length=m/\l.length<=c/\c<=maxLen/\(l= []∨∃b off row,a=some ⟨b,off,none⟩/\FC F b off row/\ExprRow F row l)
def ExprRow(F:Frz)(cs:List Value):List Expr->Prop | []=>cs= [] |x::xs=>∃c1 ys,cs=c1++ys/\ExprR F c1 x/\ExprRow F ys xs end
mutual
theorem ExprR.mono{F F':Frz}(hF:F.le F'):∀{cs:List Value}(x:Expr),ExprR F cs x->ExprR F' cs x
 |cs,⟨o,n,s,l⟩,h=>by
  simp only [ExprR]at h⊢;obtain⟨a,m,c,h1,h0,h2,h3,h4⟩:=h;refine⟨a,m,c,h1,h0,h2,h3,h4.imp id ?_⟩;rintro⟨b,off,row,e1,e2,e3⟩;exact⟨b,off,row,e1,e2.mono hF,ExprRow.mono hF l e3⟩
theorem ExprRow.mono{F F':Frz}(hF:F.le F'):∀{cs:List Value}(l:List Expr),ExprRow F cs l->ExprRow F' cs l
 |cs,[],h=>by simp only [ExprRow]at h⊢;exact h
 |cs,x::xs,h=>by
  simp only [ExprRow]at h⊢;obtain⟨c1,ys,h1,h2,h3⟩:=h;exact⟨c1,ys,h1,ExprR.mono hF x h2,ExprRow.mono hF xs h3⟩
 end
theorem ExprR.open{F:Frz}{cs:List Value}{x:Expr}(h:ExprR F cs x):∃a m c,cs= [.int .i64 x.Op,.int .i64 x.N,vs x.Name,.slice a m c]:=by
 obtain⟨o,n,s,l⟩:=x;simp only [ExprR]at h;obtain⟨a,m,c,h1,_⟩:=h;exact⟨a,m,c,h1⟩
def rp_Expr:Rp Expr where
 k:=4
 R:=ExprR
 len:=fun h=>by obtain⟨a,m,c,rfl⟩:=h.open;rfl
 mono:=fun hF h=>ExprR.mono hF _ h
 one:=fun h u hu=>by
  obtain⟨a,m,c,rfl⟩:=h.open;simp at hu;rcases hu with rfl|rfl|rfl|rfl<;>rfl
theorem b4v{F:Frz}:∀{l:List Expr}{cs:List Value},ExprRow F cs l↔RowR rp_Expr F cs l
 | [],cs=>by simp only [ExprRow,RowR]
 |x::xs,cs=>by
  simp only [ExprRow,RowR];constructor
  ·rintro⟨c1,ys,h1,h2,h3⟩;exact⟨c1,ys,h1,h2,b4v.1 h3⟩
  rintro⟨c1,ys,h1,h2,h3⟩;exact⟨c1,ys,h1,h2,b4v.2 h3⟩
theorem expr_iff{F:Frz}{cs:List Value}{x:Expr}:rp_Expr.R F cs x↔∃a m c,cs= [.int .i64 x.Op,.int .i64 x.N,vs x.Name,.slice a m c]/\SlR rp_Expr F a m c x.Args:=by
 obtain⟨o,n,s,l⟩:=x;show ExprR F cs ⟨o,n,s,l⟩↔_;simp only [ExprR,SlR];constructor
 ·rintro⟨a,m,c,h1,h0,h2,h3,h4⟩;refine⟨a,m,c,h1,h0,h2,h3,h4.imp id ?_⟩;rintro⟨b,off,row,e1,e2,e3⟩;exact⟨b,off,row,e1,e2,b4v.1 e3⟩
 rintro⟨a,m,c,h1,h0,h2,h3,h4⟩;refine⟨a,m,c,h1,h0,h2,h3,h4.imp id ?_⟩;rintro⟨b,off,row,e1,e2,e3⟩;exact⟨b,off,row,e1,e2,b4v.2 e3⟩
def a2m{α:Type}(_n:Nat)(x:List α)(k:Int):Option (List α):=match x with
 | [a]=>if 0<=k/\k<=1000 then some (List.replicate k.toNat a)else none
 |_=>none
def b5b{α:Type}(_n:Nat)(x:List α)(k:Int):Option (List α):=match x with
 | []=>if 0<=k/\k<=1000000 then some []else none
 |_=>none
def b5f{α:Type}(n:Nat)(x:List α)(k:Int):Option (List α):=b5b n x k
def b5a{α:Type}(n:Nat)(x:List α)(k:Int):Option (List α):=b5b n x k
end M
end Go.Proofs.YthaegflpecbfgaaGreatDoor
