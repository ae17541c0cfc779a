/- Several texts in one, for ProofTells.card: what the theorem leans on. -/
import Derived.WalkKit
import Derived.LoopN
import Derived.Scope
import Derived.Lib.Strings
import Derived.Below
import Derived.Laws.StructEq
import Derived.Laws.BytesString
import Derived.Deep.Quiet
import Derived.OrdersHeld
import Derived.WideMake
import Derived.Laws.OwnMore
import Derived.Laws.Cover3
import Derived.Lib.ConvBytes
import Derived.Laws.Pointers
import Derived.WideLaws
namespace Go.Proofs.YtjegnogjkddnbaaGreatDoor
namespace Rt
open Go
theorem b_s {α β:Type _}(a:α)(f:α->Option β):(some a).bind f=f a:=rfl
abbrev Bs:=List UInt8
abbrev Env:=List (Nat×Value)
def vs(l:Bs):Value:= .string ⟨l.toArray⟩
theorem c7w(s:ByteArray):Value.string s=vs s.data.toList:=by unfold vs;rw [Lib.mk_data]
structure Has(n:Nat)(a:Act)(env:Env):Prop where
 size:a.tmps.size=n
 defers:a.defers= []
 get:∀k v,env.lookup k=some v->a.tmps[k]?=some v
def opv(env:Env):Operand->Option Value | .tmp t=>env.lookup t | .const v=>some v | .func f=>some (.func (.func f) #[] #[]) | .global g=>some (.pointer (some ⟨g,0,none⟩))
theorem Has.op{n:Nat}{a:Act}{env:Env}(h:Has n a env){x:Operand}{v:Value}(hx:opv env x=some v):a.eval x=v:=by
 cases x with
 |tmp t=>simp only [opv]at hx;simp [Act.eval,Array.getD_eq_getD_getElem?,h.get t v hx]
 |const u=>simp only [opv,Option.some.injEq]at hx;exact hx
 |global g=>simp only [opv,Option.some.injEq]at hx;exact hx
 |func f=>simp only [opv,Option.some.injEq]at hx;exact hx
theorem Has.put{n:Nat}{a:Act}{env:Env}(h:Has n a env){d:Nat}(hd:d<n)(v:Value):Has n (a.put (some d) v) ((d,v)::env):=by
 refine⟨by simp [Act.put,h.size],by simp [Act.put,h.defers],fun k u hk=> ?_⟩;rw [List.lookup_cons]at hk;simp only [Act.put];split at hk
 ·rename_i e;have e:k=d:=by simpa using e
  subst e;cases hk;simp [h.size,hd]
 rename_i e;have e:k≠d:=by simpa using e
 rw [Array.getElem?_setIfInBounds_ne (by omega)];exact h.get k u hk
theorem Has.mono{n:Nat}{a:Act}{env env':Env}(h:Has n a env)(he:∀k v,env'.lookup k=some v->env.lookup k=some v):Has n a env':=
 ⟨h.size,h.defers,fun k v hk=>h.get k v (he k v hk)⟩
def cut(env:Env):List Nat->Option Env
 | []=>some []
 |k::r=>match env.lookup k,cut env r with
  |some v,some e=>some ((k,v)::e)
  |_,_=>none
theorem Has.cut{n:Nat}{a:Act}{env:Env}(h:Has n a env):∀{l:List Nat}{e:Env},cut env l=some e->Has n a e
 | [],e,he=>by simp only [Rt.cut,Option.some.injEq]at he;subst he;exact⟨h.size,h.defers,fun k v hk=>by simp at hk⟩
 |k::r,e,he=>by
  simp only [Rt.cut]at he;split at he
  ·rename_i v e' hv he';cases he;have:=h.cut he';refine⟨h.size,h.defers,fun j u hj=> ?_⟩;rw [List.lookup_cons]at hj;split at hj
   ·rename_i e;have e:j=k:=by simpa using e
    subst e;cases hj;exact h.get _ _ hv
   exact this.get j u hj
  cases he
section
variable{P:Program}{Q:Exit->Act->World->Prop}{n:Nat}{env:Env}{w:World}
def CW(P:Program)(c:Code)(Q:Exit->Act->World->Prop)(n:Nat)(env:Env)(w:World):Prop:=∀a,Has n a env->c.wp P Q a w
def RW(P:Program)(ops:Array Oper)(Q:Exit->Act->World->Prop)(l:List Oper)(n:Nat)(env:Env)(w:World):Prop:=∀a,Has n a env->wpList P ops Q l a w
def QW(Q:Exit->Act->World->Prop)(e:Exit)(n:Nat)(env:Env)(w:World):Prop:=∀a,Has n a env->Q e a w
theorem a3x{x y:Code}(h:CW P x (Exit.then (y.wp P Q) Q) n env w):CW P (.seq x y) Q n env w:=fun a ha=>wp_seq (h a ha)
theorem a1k{id:Nat}{l:List Oper}(h:RW P l.toArray Q l n env w):CW P (.region id l.toArray false) Q n env w:=fun a ha=>wp_region_lit (h a ha)
theorem b7d{id:Nat}{c:Code}(h:CW P c (Exit.inBlock id Q) n env w):CW P (.block id c) Q n env w:=fun a ha=>wp_block (h a ha)
theorem b4f(h:QW Q .normal n env w):CW P .skip Q n env w:=fun a ha=>wp_skip (h a ha)
theorem c4u{id:Nat}(h:QW Q (.exit id) n env w):CW P (.exit id) Q n env w:=fun a ha=>wp_exit (h a ha)
theorem e5t(h:QW Q .ret n env w):CW P .ret Q n env w:=fun a ha=>wp_ret (h a ha)
theorem b8f{c:Operand}{x y:Code}(hc:opv env c=some (.bool true))(h:CW P x Q n env w):CW P (.cond c x y) Q n env w:=fun a ha=>wp_cond_true (ha.op hc) (h a ha)
theorem a9p{c:Operand}{x y:Code}(hc:opv env c=some (.bool false))(h:CW P y Q n env w):CW P (.cond c x y) Q n env w:=fun a ha=>wp_cond_false (ha.op hc) (h a ha)
theorem a1z{x:Code}{Q':Exit->Act->World->Prop}(h:CW P x Q n env w):QW (Exit.then (x.wp P Q) Q') .normal n env w:=h
theorem a1v{id:Nat}{K:Act->World->Prop}(h:QW Q (.exit id) n env w):QW (Exit.then K Q) (.exit id) n env w:=h
theorem c7l{K:Act->World->Prop}(h:QW Q .ret n env w):QW (Exit.then K Q) .ret n env w:=h
theorem d3r{id:Nat}(h:QW Q .normal n env w):QW (Exit.inBlock id Q) .normal n env w:=h
theorem b2k{id:Nat}(h:QW Q .normal n env w):QW (Exit.inBlock id Q) (.exit id) n env w:=fun a ha=>by simpa [Exit.inBlock]using h a ha
theorem b0e{id j:Nat}(hj:j≠id)(h:QW Q (.exit j) n env w):QW (Exit.inBlock id Q) (.exit j) n env w:=fun a ha=>by simpa [Exit.inBlock,hj]using h a ha
theorem a7h{ops:Array Oper}(h:QW Q .normal n env w):RW P ops Q [] n env w:=fun a ha=>wpList_nil (h a ha)
def isOn(ops:Array Oper)(env:Env):Option (Nat×Bool)->Bool
 |none=>true
 |some (j,b)=>match(ops[j]?).bind (·.dst)with
  |some t=>match env.lookup t with
   |some (.bool c)=>c==b
   |_=>false
  |none=>false
theorem a8i{ops:Array Oper}{a:Act}{o:Oper}(ha:Has n a env)(h:isOn ops env o.guard=true):Region.wanted o (yielded ops a.tmps)=true:=by
 unfold Region.wanted;cases hg:o.guard with
 |none=>rfl
 |some jb=>
  obtain⟨j,b⟩:=jb;simp only [hg,isOn]at h;simp only [yielded];cases hd:(ops[j]?).bind (·.dst)with
  |none=>simp [hd]at h
  |some t=>
   simp only [hd]at h;cases hl:env.lookup t with
   |none=>simp [hl]at h
   |some v=>
    have hg2:=ha.get t v hl;cases v<;>simp_all
def d6b(ops:Array Oper)(env:Env):Option (Nat×Bool)->Bool
 |none=>false
 |some (j,b)=>match(ops[j]?).bind (·.dst)with
  |some t=>match env.lookup t with
   |some (.bool c)=>c !=b
   |some _=>true
   |none=>false
  |none=>false
theorem c6v{ops:Array Oper}{a:Act}{o:Oper}(ha:Has n a env)(h:d6b ops env o.guard=true):Region.wanted o (yielded ops a.tmps)=false:=by
 unfold Region.wanted;cases hg:o.guard with
 |none=>simp [hg,d6b]at h
 |some jb=>
  obtain⟨j,b⟩:=jb;simp only [hg,d6b]at h;simp only [yielded];cases hd:(ops[j]?).bind (·.dst)with
  |none=>simp [hd]at h
  |some t=>
   simp only [hd]at h;cases hl:env.lookup t with
   |none=>simp [hl]at h
   |some v=>
    have hg2:=ha.get t v hl;cases v<;>simp_all
theorem e5b{ops:Array Oper}{o:Oper}{rest:List Oper}{d:Nat}(hd:o.dst=some d)(hn:d<n)(h:d6b ops env o.guard=true)
 (k:RW P ops Q rest n ((d,undef)::env) w):RW P ops Q (o::rest) n env w:=fun a ha=>by
 unfold wpList;rw [if_neg (by simp [c6v ha h]),hd];exact k _ (ha.put hn undef)
theorem b2e{ops:Array Oper}{o:Oper}{rest:List Oper}{d:Nat}{v:Value}(hd:o.dst=some d)(hn:d<n)(hg:isOn ops env o.guard=true)
 (hv:∀a,Has n a env->(execOp a.eval o).run P w= .ok (.value v) w) (k:RW P ops Q rest n ((d,v)::env) w):RW P ops Q (o::rest) n env w:=fun a ha=>by
 unfold wpList;rw [if_pos (a8i ha hg)];refine .inl ?_;unfold Oper.wp;rw [hv a ha,Oper.upon_value,hd];exact k _ (ha.put hn v)
theorem f0s{ops:Array Oper}{o:Oper}{rest:List Oper}{d:Nat}{v:Value}{w':World}(hd:o.dst=some d)(hn:d<n)(hg:isOn ops env o.guard=true)
 (hv:∀a,Has n a env->(execOp a.eval o).run P w= .ok (.value v) w') (k:RW P ops Q rest n ((d,v)::env) w'):RW P ops Q (o::rest) n env w:=fun a ha=>by
 unfold wpList;rw [if_pos (a8i ha hg)];refine .inl ?_;unfold Oper.wp;rw [hv a ha,Oper.upon_value,hd];exact k _ (ha.put hn v)
theorem f0y{ops:Array Oper}{o:Oper}{rest:List Oper}{w':World}(hd:o.dst=none)(hg:isOn ops env o.guard=true)
 (hv:∀a,Has n a env->(execOp a.eval o).run P w= .ok .skip w') (k:RW P ops Q rest n env w'):RW P ops Q (o::rest) n env w:=fun a ha=>by
 unfold wpList;rw [if_pos (a8i ha hg)];refine .inl ?_;unfold Oper.wp;rw [hv a ha,Oper.upon_skip,hd];exact k _ ha
theorem e5o{ops:Array Oper}{o:Oper}{rest:List Oper}{d:Nat}{f:FuncId}{args:Array Value}{R:Value->World->Prop}(hd:o.dst=some d)(hn:d<n)(hg:isOn ops env o.guard=true)
 (hv:∀a,Has n a env->(execOp a.eval o).run P w= .ok (.enter f args) w)
 (hc:Calls P f args w fun e w'=>∃v,e= .returned v/\R v w')
 (k:∀v w',R v w'->RW P ops Q rest n ((d,v)::env) w'):RW P ops Q (o::rest) n env w:=fun a ha=>by
 unfold wpList;rw [if_pos (a8i ha hg)];refine .inl ?_;unfold Oper.wp;rw [hv a ha,Oper.upon_enter];refine hc.mono ?_;rintro e w' ⟨v,rfl,hR⟩;rw [hd];exact k v w' hR _ (ha.put hn v)
theorem f0b{ops:Array Oper}{l:List Oper}(t:Nat){b c:Bool}(ht:env.lookup t=some (.bool b))(hb:b=c)(k:RW P ops Q l n ((t,.bool c)::env) w):RW P ops Q l n env w:=
 fun a ha=>k a ⟨ha.size,ha.defers,fun j v hj=>by
  rw [List.lookup_cons]at hj;split at hj
  ·rename_i e;have e:j=t:=by simpa using e
   subst e;cases hj;subst hb;exact ha.get _ _ ht
  exact ha.get _ _ hj⟩
theorem b6k{x:Code}(t:Nat){b c:Bool}(ht:env.lookup t=some (.bool b))(hb:b=c)(k:CW P x Q n ((t,.bool c)::env) w):CW P x Q n env w:=
 fun a ha=>k a ⟨ha.size,ha.defers,fun j v hj=>by
  rw [List.lookup_cons]at hj;split at hj
  ·rename_i e;have e:j=t:=by simpa using e
   subst e;cases hj;subst hb;exact ha.get _ _ ht
  exact ha.get _ _ hj⟩
def iadd(k:IntKind)(x y:Int):Int:=k.wrap (x+y)
def isub(k:IntKind)(x y:Int):Int:=k.wrap (x-y)
def imul(k:IntKind)(x y:Int):Int:=k.wrap (x*y)
def iand(k:IntKind)(x y:Int):Int:=k.wrap (BitVec.ofInt k.bits x&&&BitVec.ofInt k.bits y).toNat
def ior(k:IntKind)(x y:Int):Int:=k.wrap (BitVec.ofInt k.bits x|||BitVec.ofInt k.bits y).toNat
def ixor(k:IntKind)(x y:Int):Int:=k.wrap (BitVec.ofInt k.bits x^^^BitVec.ofInt k.bits y).toNat
def c3i(op:BinOp)(k:IntKind)(x y:Int):Option Value:=
 match op with
 | .add=>some (.int k (iadd k x y))
 | .sub=>some (.int k (isub k x y))
 | .mul=>some (.int k (imul k x y))
 | .and=>some (.int k (iand k x y))
 | .or=>some (.int k (ior k x y))
 | .xor=>some (.int k (ixor k x y))
 | .eql=>some (.bool (x==y))
 | .neq=>some (.bool (x !=y))
 | .lss=>some (.bool (decide (x<y)))
 | .leq=>some (.bool (decide (x<=y)))
 | .gtr=>some (.bool (decide (y<x)))
 | .geq=>some (.bool (decide (y<=x)))
 |_=>none
theorem b4l{op:BinOp}{k:IntKind}{x y:Int}{v:Value}{t:TypeId}(h:c3i op k x y=some v):(binOp op t (.int k x) (.int k y)).run P w= .ok v w:=by
 cases op<;>simp only [c3i,Option.some.injEq,reduceCtorEq]at h<;>subst h<;>simp [binOp,Op.intArith,Op.intBits,Op.intCmp,iadd,isub,imul,iand,ior,ixor]
theorem a1n{op:BinOp}{t:TypeId}{x y:Operand}{k k':IntKind}{a b:Int}:(eqGuard op t x y (.int k a) (.int k' b)).run P w= .ok () w:=by
 unfold eqGuard;split<;>simp
theorem a3v{op:BinOp}{t:TypeId}{x y:Operand}{a b:ByteArray}:(eqGuard op t x y (.string a) (.string b)).run P w= .ok () w:=by
 unfold eqGuard;split<;>simp
theorem a5y{op:BinOp}{t:TypeId}{x y:Operand}{a b:Bool}:(eqGuard op t x y (.bool a) (.bool b)).run P w= .ok () w:=by
 unfold eqGuard;split<;>simp
variable{ops:Array Oper}{rest:List Oper}{d:Nat}{g:Option (Nat×Bool)}{ty:TypeId}{pos:String}{es:Array Edge}
theorem a2a{x:Operand}{v:Value}(hg:isOn ops env g=true)(hn:Nat.blt d n=true)(hx:opv env x=some v)(k:RW P ops Q rest n ((d,v)::env) w):
 RW P ops Q (⟨some d,.move x,ty,pos,es,g⟩::rest) n env w:=
 b2e rfl (by simpa using hn) hg (fun a ha=>by simp [execOp,ha.op hx]) k
theorem a3h{x:Operand}{v:Value}(hg:isOn ops env g=true)(hn:Nat.blt d n=true)(hx:opv env x=some v)(k:RW P ops Q rest n ((d,v)::env) w):
 RW P ops Q (⟨some d,.assign x,ty,pos,es,g⟩::rest) n env w:=
 b2e rfl (by simpa using hn) hg (fun a ha=>by simp [execOp,ha.op hx]) k
theorem b0k{c x y:Operand}{v:Value}(hg:isOn ops env g=true)(hn:Nat.blt d n=true)(hc:opv env c=some (.bool false))(hx:opv env y=some v)(k:RW P ops Q rest n ((d,v)::env) w):
 RW P ops Q (⟨some d,.pick c x y,ty,pos,es,g⟩::rest) n env w:=
 b2e rfl (by simpa using hn) hg (fun a ha=>by simp [execOp,ha.op hx,ha.op hc,asBool]) k
theorem d0h{op:BinOp}{xt yt:TypeId}{x y:Operand}{i:IntKind}{m q:Int}{v:Value}(hg:isOn ops env g=true)(hn:Nat.blt d n=true)(hx:opv env x=some (.int i m))(hy:opv env y=some (.int i q))
 (hv:c3i op i m q=some v) (k:RW P ops Q rest n ((d,v)::env) w):RW P ops Q (⟨some d,.binOp op xt x y yt,ty,pos,es,g⟩::rest) n env w:=
 b2e rfl (by simpa using hn) hg (fun a ha=>by simp [execOp,ha.op hx,ha.op hy,a1n,b4l hv]) k
theorem f0j{xt:TypeId}{x:Operand}{b:Bool}(hg:isOn ops env g=true)(hn:Nat.blt d n=true)(hx:opv env x=some (.bool b))(k:RW P ops Q rest n ((d,.bool (!b))::env) w):
 RW P ops Q (⟨some d,.unOp .not xt x,ty,pos,es,g⟩::rest) n env w:=
 b2e rfl (by simpa using hn) hg (fun a ha=>by simp [execOp,ha.op hx,Op.unary]) k
end
def sidx(l:Bs)(i:Int):Option Int:=if 0<=i then(l[i.toNat]?).map fun b=>(b.toNat:Int)else none
def ssl(l:Bs)(lo hi:Int):Option Bs:=if 0<=lo/\lo<=hi/\hi<=l.length then some ((l.take hi.toNat).drop lo.toNat)else none
def scat(a b:Bs):Option Bs:=if a.length+b.length<=9223372036854775807 then some (a++b)else none
def quo(k:IntKind)(x y:Int):Option Int:=if y=0 then none else some (k.wrap (x.tdiv y))
def rem(x y:Int):Option Int:=if y=0 then none else some (x.tmod y)
def shl(k:IntKind)(x y:Int):Option Int:=if y<0 then none else some (k.wrap (x*2^(min y.toNat k.bits)))
def shr(k:IntKind)(x y:Int):Option Int:=if y<0 then none else some (x.fdiv (2^(min y.toNat k.bits)))
theorem bind_some{α β:Type}{x:Option α}{f:α->Option β}{r:β}(h:x.bind f=some r):∃a,x=some a/\f a=some r:=by
 cases x with
 |none=>cases h
 |some a=>exact⟨a,rfl,h⟩
theorem a6j{α:Type}{b:Bool}{x y:Option α}{r:α}(h:(bif b then x else y)=some r):(b=true/\x=some r)∨(b=false/\y=some r):=by
 cases b
 ·exact .inr ⟨rfl,h⟩
 exact .inl ⟨rfl,h⟩
theorem a2k(l:Bs):(⟨l.toArray⟩:ByteArray).size=l.length:=by simp [ByteArray.size]
theorem c9u(l:Bs):(⟨l.toArray⟩:ByteArray).toList=l:=by rw [Lib.toList_data]
theorem c9q(a b:Bs):Value.string ((⟨a.toArray⟩:ByteArray)++⟨b.toArray⟩)=vs (a++b):=by
 rw [c7w];simp
section
variable{P:Program}{Q:Exit->Act->World->Prop}{n:Nat}{env:Env}{w:World}
variable{opr:Array Oper}{rest:List Oper}{d:Nat}{g:Option (Nat×Bool)}{ty:TypeId}{pos:String}{es:Array Edge}
theorem c3e{xt:TypeId}(hu:P.underlying xt=some .string){l:Bs}{k:IntKind}{i c:Int}(h:sidx l i=some c):(Instr.index xt (vs l) (.int k i)).run P w= .ok (.int .u8 c) w:=by
 unfold sidx at h;split at h
 ·rename_i h0;simp only [Option.map_eq_some_iff]at h;obtain⟨b,hb,rfl⟩:=h;have hlt:i.toNat<l.length:=(List.getElem?_eq_some_iff.1 hb).1;have e:(⟨l.toArray⟩:ByteArray)[i.toNat]?=some b:=by
   rw [getElem?_pos _ _ (by rw [a2k];exact hlt)];have:=(List.getElem?_eq_some_iff.1 hb).2;rw [<-this];rfl
  simp [Instr.index,asIntOf,vs,underlying,hu,h0,e]
 cases h
theorem d9u{xt:TypeId}{x y:Operand}{l:Bs}{k:IntKind}{i c:Int}(hu:P.underlying xt=some .string)(hg:isOn opr env g=true)(hn:Nat.blt d n=true)(hx:opv env x=some (vs l))(hy:opv env y=some (.int k i))
 (hc:sidx l i=some c) (kk:RW P opr Q rest n ((d,.int .u8 c)::env) w):RW P opr Q (⟨some d,.index xt x y,ty,pos,es,g⟩::rest) n env w:=
 b2e rfl (by simpa using hn) hg (fun a ha=>by simp [execOp,ha.op hx,ha.op hy,c3e hu hc]) kk
theorem c6j{xt ty:TypeId}(hu:P.underlying xt=some .string)(l:Bs):(Builtin.len_ #[xt] ty #[vs l]).run P w= .ok (.int .i64 l.length) w:=by
 simp [Builtin.len_,vs,underlying,hu,goInt,a2k]
theorem b9v{xt:TypeId}{x:Operand}{l:Bs}(hu:P.underlying xt=some .string)(hg:isOn opr env g=true)(hn:Nat.blt d n=true)(hx:opv env x=some (vs l))
 (kk:RW P opr Q rest n ((d,.int .i64 l.length)::env) w):RW P opr Q (⟨some d,.call ⟨.builtin .len, #[x], #[xt]⟩,ty,pos,es,g⟩::rest) n env w:=
 b2e rfl (by simpa using hn) hg (fun a ha=>by simp [execOp,resolve,invoke,builtin,ha.op hx,c6j hu]) kk
theorem e0p(l:Bs)(a b:Nat):Value.string ((⟨l.toArray⟩:ByteArray).extract a b)=vs ((l.take b).drop a):=by
 rw [c7w,Lib.extract_data,List.drop_take]
theorem c1q{xt:TypeId}(hu:P.underlying xt=some .string){l:Bs}{lo hi:Int}{r:Bs}(h:ssl l lo hi=some r){a b:Option Value}
 (ha:a=some (.int .i64 lo)∨a=none/\lo=0) (hb:b=some (.int .i64 hi)∨b=none/\hi=l.length):(Instr.slice xt (vs l) a b none).run P w= .ok (vs r) w:=by
 unfold ssl at h;split at h
 ·rename_i hc;cases h;obtain⟨h0,h1,h2⟩:=hc;obtain⟨p,rfl⟩:=Int.eq_ofNat_of_zero_le h0;obtain⟨q,rfl⟩:=Int.eq_ofNat_of_zero_le (show 0<=hi by omega);have h1':p<=q:=by omega
  have h2':q<=l.length:=by omega
  have key:∀(a' b':Nat),(Result.ok (Value.string ((⟨l.toArray⟩:ByteArray).extract a' b')) w:Result Value)= .ok (vs ((l.take b').drop a')) w:=fun a' b'=>by rw [e0p]
  have e1:∀(c:BoundsCode)(y:Nat),q<=y->(Instr.sliceBound (.int .i64 (q:Int)) y c).run P w= .ok q w:=fun c y hy=>by simp [Instr.sliceBound,asIntOf,hy]
  have e2:∀(c:BoundsCode)(y:Nat),p<=y->(Instr.sliceBound (.int .i64 (p:Int)) y c).run P w= .ok p w:=fun c y hy=>by simp [Instr.sliceBound,asIntOf,hy]
  simp only [Int.toNat_natCast];rw [<-key];rcases ha with rfl|⟨rfl,hp⟩<;>rcases hb with rfl|⟨rfl,hq⟩
  ·simp [Instr.slice,Instr.sliceBounds,vs,underlying,hu,a2k,e1,e2,h1',h2']
  ·have hq:q=l.length:=by omega
   subst hq;simp [Instr.slice,Instr.sliceBounds,vs,underlying,hu,a2k,e2,h1']
  ·have hp:p=0:=by omega
   subst hp;simp [Instr.slice,Instr.sliceBounds,vs,underlying,hu,a2k,e1,h2']
  have hq:q=l.length:=by omega
  have hp:p=0:=by omega
  subst hq hp;have e3:(⟨l.toArray⟩:ByteArray)=(⟨l.toArray⟩:ByteArray).extract 0 l.length:=by
   have h3:=e0p l 0 l.length;simp only [List.take_length,List.drop_zero,vs,Value.string.injEq]at h3;exact h3.symm
  simp [Instr.slice,Instr.sliceBounds,vs,underlying,hu,<-e3]
 cases h
theorem a7x{xt:TypeId}(hu:P.underlying xt=some .string)(x:Value)(a b c:Option Value):(Instr.sliceAt xt x a b c).run P w=(Instr.slice xt x a b c).run P w:=by
 simp [Instr.sliceAt,underlying,hu]
theorem e2a{xt:TypeId}{x y:Operand}{l r:Bs}{lo:Int}(hu:P.underlying xt=some .string)(hg:isOn opr env g=true)(hn:Nat.blt d n=true)(hx:opv env x=some (vs l))(hy:opv env y=some (.int .i64 lo))
 (hc:ssl l lo l.length=some r) (kk:RW P opr Q rest n ((d,vs r)::env) w):RW P opr Q (⟨some d,.slice xt x (some y) none none,ty,pos,es,g⟩::rest) n env w:=
 b2e rfl (by simpa using hn) hg (fun a ha=>by simp [execOp,ha.op hx,ha.op hy,a7x hu,c1q hu hc (.inl rfl) (.inr ⟨rfl,rfl⟩)]) kk
theorem e6a{xt:TypeId}{x z:Operand}{l r:Bs}{hi:Int}(hu:P.underlying xt=some .string)(hg:isOn opr env g=true)(hn:Nat.blt d n=true)(hx:opv env x=some (vs l))(hz:opv env z=some (.int .i64 hi))
 (hc:ssl l 0 hi=some r) (kk:RW P opr Q rest n ((d,vs r)::env) w):RW P opr Q (⟨some d,.slice xt x none (some z) none,ty,pos,es,g⟩::rest) n env w:=
 b2e rfl (by simpa using hn) hg (fun a ha=>by simp [execOp,ha.op hx,ha.op hz,a7x hu,c1q hu hc (.inr ⟨rfl,rfl⟩) (.inl rfl)]) kk
def b4m(op:BinOp)(a b:Bs):Option Value:=
 match op with
 | .add=>(scat a b).map vs
 | .eql=>some (.bool (a==b))
 | .neq=>some (.bool (!(a==b)))
 | .lss=>some (.bool (Op.bytesLess a b))
 | .leq=>some (.bool (Op.bytesLess a b||a==b))
 | .gtr=>some (.bool (!(Op.bytesLess a b||a==b)))
 | .geq=>some (.bool (!(Op.bytesLess a b)))
 |_=>none
theorem a9v{op:BinOp}{t:TypeId}{a b:Bs}{v:Value}(h:b4m op a b=some v):(binOp op t (vs a) (vs b)).run P w= .ok v w:=by
 have hb:binOp op t (vs a) (vs b)=Op.stringOp op ⟨a.toArray⟩ ⟨b.toArray⟩:=by cases op<;>rfl
 rw [hb];cases op<;>simp only [b4m,Option.some.injEq,reduceCtorEq]at h
 case add=>
  unfold scat at h;split at h
  ·rename_i hl;cases h;have:¬(((⟨a.toArray⟩:ByteArray).size+(⟨b.toArray⟩:ByteArray).size:Nat):Int)>IntKind.i64.max:=by
    rw [a2k,a2k,show IntKind.i64.max=9223372036854775807 from by decide];omega
   unfold Op.stringOp;simp only [if_neg this];rw [<-c9q];rfl
  cases h
 all_goals subst h;simp only [Op.stringOp,c9u];rfl
theorem f0a{op:BinOp}{xt yt:TypeId}{x y:Operand}{p q:Bs}{v:Value}(hg:isOn opr env g=true)(hn:Nat.blt d n=true)(hx:opv env x=some (vs p))(hy:opv env y=some (vs q))
 (hv:b4m op p q=some v) (k:RW P opr Q rest n ((d,v)::env) w):RW P opr Q (⟨some d,.binOp op xt x y yt,ty,pos,es,g⟩::rest) n env w:=
 b2e rfl (by simpa using hn) hg (fun a ha=>by
  have e:(eqGuard op xt x y (vs p) (vs q)).run P w= .ok () w:=a3v;simp [execOp,ha.op hx,ha.op hy,e,a9v hv]) k
theorem b9d{x:Operand}{i:Nat}{vv:Array Value}{v:Value}(hg:isOn opr env g=true)(hn:Nat.blt d n=true)(hx:opv env x=some (.tuple vv))(hi:vv[i]?=some v)(k:RW P opr Q rest n ((d,v)::env) w):
 RW P opr Q (⟨some d,.extract x i,ty,pos,es,g⟩::rest) n env w:=
 b2e rfl (by simpa using hn) hg (fun a ha=>by simp [execOp,ha.op hx,Instr.extract,hi]) k
def opvs(env:Env):List Operand->Option (List Value)
 | []=>some []
 |x::r=>match opv env x,opvs env r with
  |some v,some l=>some (v::l)
  |_,_=>none
theorem Has.opvs{a:Act}(ha:Has n a env):∀{l:List Operand}{vl:List Value},Rt.opvs env l=some vl->l.map a.eval=vl
 | [],vl,h=>by simp only [Rt.opvs,Option.some.injEq]at h;subst h;rfl
 |x::r,vl,h=>by
  simp only [Rt.opvs]at h;split at h
  ·rename_i v l hv hl;cases h;simp [ha.op hv,ha.opvs hl]
  cases h
def Ent(P:Program)(f:FuncId):Prop:=∀args w,(callFunc f args).run P w= .ok (.enter f args) w
theorem d9m{c:Operand}{l:List Operand}{ts:Array TypeId}{f:FuncId}{first cap:Array Value}{vl:List Value}{R:Value->World->Prop}(he:Ent P f)(hg:isOn opr env g=true)(hn:Nat.blt d n=true)
 (hc:opv env c=some (.func (.func f) first cap)) (hl:opvs env l=some vl)
 (hC:Calls P f (first++vl.toArray++cap) w fun e w'=>∃v,e= .returned v/\R v w')
 (k:∀v w',R v w'->RW P opr Q rest n ((d,v)::env) w'):RW P opr Q (⟨some d,.call ⟨.value c,l.toArray,ts⟩,ty,pos,es,g⟩::rest) n env w:=
 e5o rfl (by simpa using hn) hg (fun a ha=>by
  have e:=he (first++(vl.toArray++cap)) w;have e2:(List.map a.eval l)=vl:=ha.opvs hl;simp [execOp,resolve,invoke,Deferred.ofValue,ha.op hc,e2,e]) hC k
theorem e4e{c:Operand}{l:List Operand}{ts:Array TypeId}{f:FuncId}{first cap:Array Value}{vl:List Value}{v:Value}(he:Ent P f)(hg:isOn opr env g=true)(hn:Nat.blt d n=true)
 (hc:opv env c=some (.func (.func f) first cap)) (hl:opvs env l=some vl)
 (hC:Calls P f (first++vl.toArray++cap) w fun e w'=>e= .returned v/\w'=w)
 (k:RW P opr Q rest n ((d,v)::env) w):RW P opr Q (⟨some d,.call ⟨.value c,l.toArray,ts⟩,ty,pos,es,g⟩::rest) n env w:=
 d9m (R:=fun u w'=>u=v/\w'=w) he hg hn hc hl (hC.mono fun e w' h=>⟨v,h.1,rfl,h.2⟩) (fun u w' h=>by obtain⟨rfl,rfl⟩:=h;exact k)
theorem b1c{c:Operand}{l:List Operand}{ts:Array TypeId}{f:FuncId}{vl:List Value}{v:Value}(he:Ent P f)(hg:isOn opr env g=true)(hn:Nat.blt d n=true)
 (hc:opv env c=some (.func (.func f) #[] #[])) (hl:opvs env l=some vl)
 (hC:Calls P f vl.toArray w fun e w'=>e= .returned v/\w'=w)
 (k:RW P opr Q rest n ((d,v)::env) w):RW P opr Q (⟨some d,.call ⟨.value c,l.toArray,ts⟩,ty,pos,es,g⟩::rest) n env w:=
 e4e he hg hn hc hl (by simpa using hC) k
def imin(x y:Int):Int:=if y<x then y else x
theorem f1z{fn:Func}{R:Ending->World->Prop}{v:Value}(hr:∀a,Has n a env->(results fn a.tmps).run P w= .ok v w)(hR:R (.returned v) w):QW (bodyPost P fn R) .ret n env w:=
 fun a ha=>⟨ha.defers,v,hr a ha,hR⟩
theorem Has.tmp{a:Act}(ha:Has n a env){t:Nat}{v:Value}(h:env.lookup t=some v):a.tmps.getD t undef=v:=by
 simp [Array.getD_eq_getD_getElem?,ha.get t v h]
theorem d0s{fn:Func}{R:Ending->World->Prop}{t:Nat}{v:Value}(hf:fn.results= #[.tmp t])(h:env.lookup t=some v)(hR:R (.returned v) w):QW (bodyPost P fn R) .ret n env w:=
 f1z (fun a ha=>by rw [results_tmp hf,ha.tmp h]) hR
theorem b7e{f:FuncId}{fn:Func}{c:Code}{args:List Value}{R:Ending->World->Prop}(m:Nat)(hf:P.funcs[f]?=some fn)(hb:fn.body=some c)(hm:fn.ntmps=m)(hle:Nat.ble args.length m=true)
 (h:CW P c (bodyPost P fn R) m (args.zipIdx.map fun x=>(x.2,x.1)) w):Calls P f args.toArray w R:=by
 refine calls_of_wp hf hb (h _ ⟨?_,rfl,fun k v hk=> ?_⟩)
 ·have:=Nat.le_of_ble_eq_true hle;simp [hm];omega
 have key:∀(l:List Value)(o:Nat),((l.zipIdx o).map fun x=>(x.2,x.1)).lookup k=some v->o<=k/\l[k-o]?=some v:=by
  intro l;induction l with
  |nil=>intro o h;simp at h
  |cons b l ih=>
   intro o h;simp only [List.zipIdx_cons,List.map_cons,List.lookup_cons]at h;split at h
   ·rename_i e;have e:k=o:=by simpa using e
    subst e;cases h;simp
   rename_i e;have e:k≠o:=by simpa using e
   obtain⟨h1,h2⟩:=ih (o+1) h;refine⟨by omega,?_⟩;have e2:k-o=(k-(o+1))+1:=by omega
   rw [e2,List.getElem?_cons_succ];exact h2
 have:=(key args 0 hk).2;simp only [Nat.sub_zero]at this;have hlt:=(List.getElem?_eq_some_iff.1 this).1;simp only;rw [Array.getElem?_append_left (by simpa using hlt)];simpa using this
theorem f2f{σ R:Type}{c:Code}(L:Nat->σ->Option R)(r:R)(I:σ->Act->World->Prop)(h0:∀s,L 0 s=none)
 (hs:∀m(K:Act->World->Prop),(∀s a w,L m s=some r->I s a w->K a w)->∀s a w,L (m+1) s=some r->I s a w->c.wp P (Exit.then K Q) a w)
 {m:Nat} {s:σ} {a:Act} {w:World} (h:L m s=some r) (hi:I s a w):(Code.loop c).wp P Q a w:=by
 have key:∀m s a w,L m s=some r->I s a w->Code.rounds P c Q m a w:=by
  intro m;induction m with
  |zero=>intro s a w h;rw [h0]at h;cases h
  |succ m ih=>intro s a w h hi;exact hs m _ ih s a w h hi
 exact wp_loop_rounds m (key m s a w h hi)
theorem c3d{c:Code}{a:Act}(ha:Has n a env)(h:CW P c Q n env w):c.wp P Q a w:=h a ha
theorem c4w{e:Exit}{a:Act}(ha:Has n a env)(h:QW Q e n env w):Q e a w:=h a ha
theorem e9o{σ τ R:Type}{c:Code}{id:Nat}(L:Nat->σ->Option R)(k:τ->Option R)(r:R)(I:σ->Act->World->Prop)(J:τ->Act->World->Prop)(h0:∀s,L 0 s=none)
 (hk:∀y a w,k y=some r->J y a w->Q (.exit id) a w)
 (hs:(∀y a w,k y=some r->J y a w->Q (.exit id) a w)->∀m(K:Act->World->Prop),(∀s a w,L m s=some r->I s a w->K a w)->∀s a w,L (m+1) s=some r->I s a w->c.wp P (Exit.then K Q) a w)
 {m:Nat} {s:σ} {a:Act} {w:World} (h:L m s=some r) (hi:I s a w):(Code.loop c).wp P Q a w:=f2f L r I h0 (hs hk) h hi
theorem e0y{K:Act->World->Prop}(h:∀a,Has n a env->K a w):QW (Exit.then K Q) .normal n env w:=h
end
end Rt
namespace Rt
open Go Go.RowKit
abbrev Frz:=Nat->Option Obj
def Frz.le(F F':Frz):Prop:=∀b o,F b=some o->F' b=some o
theorem Frz.refl(F:Frz):F.le F:=fun _ _ h=>h
theorem Frz.le.trans{F F' F'':Frz}(h:F.le F')(h':F'.le F''):F.le F'':=fun b o e=>h' b o (h b o e)
def Sat(F:Frz)(w:World):Prop:=∀b o,F b=some o->w.heap[b]?=some o
inductive OE where
 |box (b:Nat) (t:TypeId) (cs:List Value)
 |row (e:TypeId) (k:Nat) (a:Option Addr) (n c:Nat) (xs:List Value)
 |mp (b:Nat) (es:List MapEntry) (clock:Nat)
 |win (e:TypeId) (k:Nat) (a:Option Addr) (m c:Nat) (pre xs post:List Value)
 |it (b:Nat) (o:Obj)
def a4l(es:List MapEntry)(clock:Nat):Prop:=(es.map (·.born)).Nodup/\∀e,e∈es->e.born<clock
def OE.ok(w:World):OE->Prop | .box b t cs=>w.heap[b]?=some (.cells cs.toArray t (0,0)) | .row e k a n c xs=>w.ownsRow 0 e k (.slice a n c) n xs | .mp b es clock=>w.heap[b]?=some (.map es.toArray clock)/\a4l es clock | .it b o=>w.heap[b]?=some o | .win e k a m c pre xs post=>xs.length=m*k/\m<=c/\c<=maxLen/\(m=0∨∃b,a=some ⟨b,pre.length,none⟩/\w.heap[b]?=some (.cells (pre++xs++post).toArray e (0,0)))
def OE.blk:OE->Option Nat | .box b _ _=>some b | .row _ _ a n c _=>(Value.slice a n c).ownBlock | .mp b _ _=>some b | .it b _=>some b | .win _ _ a m _ _ _ _=>if m=0 then none else a.map (·.block)
theorem OE.lt{w:World}{e:OE}(h:e.ok w){b:Nat}(hb:e.blk=some b):b<w.heap.size:=by
 cases e with
 |box b' t cs=>simp only [OE.blk,Option.some.injEq]at hb;subst hb;exact(Array.getElem?_eq_some_iff.1 h).1
 |row e k a n c xs=>exact(World.ownsRow.lt h b hb).2
 |mp b' es clock=>simp only [OE.blk,Option.some.injEq]at hb;subst hb;exact(Array.getElem?_eq_some_iff.1 h.1).1
 |it b' o=>simp only [OE.blk,Option.some.injEq]at hb;subst hb;exact(Array.getElem?_eq_some_iff.1 h).1
 |win e k a m c pre xs post=>
  simp only [OE.blk]at hb;split at hb
  ·cases hb
  rename_i hm;rcases h.2.2.2 with h0|⟨b',rfl,h1⟩
  ·exact absurd h0 hm
  simp only [Option.map_some,Option.some.injEq]at hb;subst hb;exact(Array.getElem?_eq_some_iff.1 h1).1
theorem OE.kept{w w':World}{e:OE}{row:Option Nat}(h:e.ok w)(hg:w.grownBy w' row)(hne:∀b,e.blk=some b->some b≠row):e.ok w':=by
 cases e with
 |box b t cs=>show w'.heap[b]?=_;rw [hg.block b (OE.lt h rfl) (hne b rfl)];exact h
 |row e k a n c xs=>
  refine World.ownsRow.kept h hg ?_;cases hv:(Value.slice a n c).ownBlock with
  |none=>exact .inl rfl
  |some b=>exact .inr (hne b hv)
 |mp b es clock=>refine⟨?_,h.2⟩;show w'.heap[b]?=_;rw [hg.block b (OE.lt h rfl) (hne b rfl)];exact h.1
 |it b o=>show w'.heap[b]?=_;rw [hg.block b (OE.lt h rfl) (hne b rfl)];exact h
 |win e k a m c pre xs post=>
  refine⟨h.1,h.2.1,h.2.2.1,?_⟩;rcases h.2.2.2 with h0|⟨b,rfl,h1⟩
  ·exact .inl h0
  by_cases hm:m=0
  ·exact .inl hm
  refine .inr ⟨b,rfl,?_⟩;have hb:(OE.win e k (some ⟨b,pre.length,none⟩) m c pre xs post).blk=some b:=by simp [OE.blk,hm]
  rw [hg.block b (OE.lt h hb) (hne b hb)];exact h1
structure HS(F0:Frz)(w0:World)(X:List Nat)(F:Frz)(O:List OE)(w:World):Prop where
 sat:Sat F w
 le:F0.le F
 new:∀b,F b≠none->F0 b≠none∨w0.heap.size<=b
 own:∀e∈O,e.ok w
 sep:∀e∈O,∀b,e.blk=some b->F b=none/\(w0.heap.size<=b∨b∈X)
 dis:O.Pairwise fun e e'=>∀b,e.blk=some b->e'.blk≠some b
 os:w.os=w0.os
 tape:w.tape=w0.tape
 output:w.output=w0.output
 size:w0.heap.size<=w.heap.size
 old:∀b,b<w0.heap.size->b∉X->w.heap[b]?=w0.heap[b]?
theorem HS.init{F:Frz}{w:World}(h:Sat F w):HS F w [] F [] w:=
 ⟨h,Frz.refl F,fun _ h=> .inl h,by simp,by simp,List.Pairwise.nil,rfl,rfl,rfl,Nat.le_refl _,fun _ _ _=>rfl⟩
section
variable{F0 F:Frz}{w0 w:World}{X:List Nat}{O:List OE}
theorem HS.below(h:HS F0 w0 [] F O w):Below w0.heap.size w0 w:=⟨h.os,h.tape,h.output,h.size,fun k hk=>h.old k hk (by simp)⟩
theorem Sat.lt(h:Sat F w){b:Nat}(hb:F b≠none):b<w.heap.size:=by
 cases hf:F b with
 |none=>exact absurd hf hb
 |some o=>exact(Array.getElem?_eq_some_iff.1 (h b o hf)).1
theorem HS.upd(h:HS F0 w0 X F O w){i:Nat}{e e':OE}(hi:O[i]?=some e){w':World}(hg:w.grownBy w' e.blk)(he:e'.ok w')
 (hb:∀b,e'.blk=some b->e.blk=some b∨w.heap.size<=b):HS F0 w0 X F (O.set i e') w':=by
 obtain⟨hlt,hget⟩:=List.getElem?_eq_some_iff.1 hi;have hmem:e∈O:=hget▸List.getElem_mem hlt;have hsep:=h.sep e hmem;have hdis:∀j(hj:j<O.length),j≠i->∀b,O[j].blk=some b->e.blk≠some b:=by
  intro j hj hne b hb1 hb2;have hp:=List.pairwise_iff_getElem.1 h.dis;rcases Nat.lt_or_ge j i with hlt'|hge
  ·exact hp j i hj hlt hlt' b hb1 (hget▸hb2)
  exact hp i j hlt hj (by omega) b (hget▸hb2) hb1
 have hnew:∀j(hj:j<O.length),j≠i->∀b,O[j].blk=some b->e'.blk≠some b:=by
  intro j hj hne b hb1 hb2;rcases hb b hb2 with h1|h1
  ·exact hdis j hj hne b hb1 h1
  have:=OE.lt (h.own _ (List.getElem_mem hj)) hb1;omega
 refine⟨fun b o hf=> ?_,h.le,h.new,fun x hx=> ?_,fun x hx b hb'=> ?_,?_,hg.os.trans h.os,hg.tape.trans h.tape,hg.output.trans h.output,Nat.le_trans h.size hg.size,fun b hb' hx=> ?_⟩
 ·rw [hg.block b (h.sat.lt (by simp [hf])) (fun e1=>by have:=(hsep b e1.symm).1;simp [hf]at this)];exact h.sat b o hf
 ·obtain⟨j,hj,rfl⟩:=List.mem_iff_getElem.1 hx;rw [List.getElem_set];split
  ·exact he
  rename_i hne;have hj':j<O.length:=by simpa using hj
  exact OE.kept (h.own _ (List.getElem_mem hj')) hg fun b hb1 hb2=>hdis j hj' (by omega) b hb1 hb2.symm
 ·obtain⟨j,hj,rfl⟩:=List.mem_iff_getElem.1 hx;have hj':j<O.length:=by simpa using hj
  rw [List.getElem_set]at hb';split at hb'
  ·rcases hb b hb' with h1|h1
   ·exact hsep b h1
   refine⟨?_,.inl (Nat.le_trans h.size h1)⟩;cases hf:F b with
   |none=>rfl
   |some o=>have:=h.sat.lt (b:=b) (by simp [hf]);omega
  exact h.sep _ (List.getElem_mem hj') b hb'
 ·rw [List.pairwise_iff_getElem];intro p q hp hq hpq b hb1 hb2;have hp':p<O.length:=by simpa using hp
  have hq':q<O.length:=by simpa using hq
  rw [List.getElem_set]at hb1 hb2;split at hb1<;>split at hb2
  ·omega
  ·exact hnew q hq' (by omega) b hb2 hb1
  ·exact hnew p hp' (by omega) b hb1 hb2
  exact List.pairwise_iff_getElem.1 h.dis p q hp' hq' hpq b hb1 hb2
 rw [hg.block b (Nat.lt_of_lt_of_le hb' h.size) (fun e1=> ?_)]
 ·exact h.old b hb' hx
 rcases(hsep b e1.symm).2 with h1|h1
 ·omega
 exact hx h1
theorem HS.add(h:HS F0 w0 X F O w){e':OE}{w':World}(hg:w.grownBy w' none)(he:e'.ok w')
 (hb:∀b,e'.blk=some b->w.heap.size<=b):HS F0 w0 X F (e'::O) w':=by
 refine⟨fun b o hf=> ?_,h.le,h.new,fun x hx=> ?_,fun x hx b hb'=> ?_,?_,hg.os.trans h.os,hg.tape.trans h.tape,hg.output.trans h.output,Nat.le_trans h.size hg.size,fun b hb' hx=> ?_⟩
 ·rw [hg.block b (h.sat.lt (by simp [hf])) (by simp)];exact h.sat b o hf
 ·rcases List.mem_cons.1 hx with rfl|hx
  ·exact he
  exact OE.kept (h.own x hx) hg (by simp)
 ·rcases List.mem_cons.1 hx with rfl|hx
  ·refine⟨?_,.inl (Nat.le_trans h.size (hb b hb'))⟩;cases hf:F b with
   |none=>rfl
   |some o=>have:=h.sat.lt (b:=b) (by simp [hf]);have:=hb b hb';omega
  exact h.sep x hx b hb'
 ·refine List.pairwise_cons.2 ⟨fun x hx b hb1 hb2=> ?_,h.dis⟩;have:=OE.lt (h.own x hx) hb2;have:=hb b hb1;omega
 rw [hg.block b (Nat.lt_of_lt_of_le hb' h.size) (by simp)];exact h.old b hb' hx
theorem HS.grow(h:HS F0 w0 X F O w){w':World}(hg:w.grownBy w' none):HS F0 w0 X F O w':=by
 have:=h.add (e':= .row 0 0 none 0 0 []) hg (World.ownsRow_nil _ _ _ _) (by simp [OE.blk,Value.ownBlock]);exact⟨this.sat,this.le,this.new,fun e he=>this.own e (List.mem_cons_of_mem _ he),fun e he=>this.sep e (List.mem_cons_of_mem _ he),(List.pairwise_cons.1 this.dis).2,this.os,this.tape,this.output,this.size,this.old⟩
theorem HS.sub(h:HS F0 w0 X F O w){O':List OE}(hs:O'.Sublist O):HS F0 w0 X F O' w:=
 ⟨h.sat,h.le,h.new,fun e he=>h.own e (hs.subset he),fun e he=>h.sep e (hs.subset he),h.dis.sublist hs,h.os,h.tape,h.output,h.size,h.old⟩
def pick(O:List OE):List Nat->List OE
 | []=> []
 |i::r=>match O[i]? with
  |some e=>e::pick O r
  |none=>pick O r
theorem HS.pick(h:HS F0 w0 X F O w)(l:List Nat)(hl:l.Nodup){O':List OE}(hO:Rt.pick O l=O'):HS F0 w0 X F O' w:=by
 subst hO;have hmem:∀l,∀e∈Rt.pick O l,∃i∈l,O[i]?=some e:=by
  intro l;induction l with
  |nil=>intro e he;simp [Rt.pick]at he
  |cons i r ih=>
   intro e he;simp only [Rt.pick]at he;split at he
   ·rename_i e0 h0;rcases List.mem_cons.1 he with rfl|he
    ·exact⟨i,by simp,h0⟩
    obtain⟨j,hj,hje⟩:=ih e he;exact⟨j,by simp [hj],hje⟩
   obtain⟨j,hj,hje⟩:=ih e he;exact⟨j,by simp [hj],hje⟩
 have hin:∀e∈Rt.pick O l,e∈O:=fun e he=>by
  obtain⟨i,_,hi⟩:=hmem l e he;exact List.mem_of_getElem? hi
 refine⟨h.sat,h.le,h.new,fun e he=>h.own e (hin e he),fun e he=>h.sep e (hin e he),?_,h.os,h.tape,h.output,h.size,h.old⟩;clear hin;induction l with
 |nil=>exact .nil
 |cons i r ih=>
  simp only [Rt.pick];have hr:=List.nodup_cons.1 hl;split
  ·rename_i e0 h0;refine List.pairwise_cons.2 ⟨fun e he b hb1 hb2=> ?_,ih hr.2⟩;obtain⟨j,hj,hje⟩:=hmem r e he;have hij:i≠j:=fun e=>hr.1 (e▸hj);obtain⟨hi1,hi2⟩:=List.getElem?_eq_some_iff.1 h0;obtain⟨hj1,hj2⟩:=List.getElem?_eq_some_iff.1 hje;have hp:=List.pairwise_iff_getElem.1 h.dis;rcases Nat.lt_or_ge i j with hlt|hge
   ·exact hp i j hi1 hj1 hlt b (hi2▸hb1) (hj2▸hb2)
   exact hp j i hj1 hi1 (by omega) b (hj2▸hb2) (hi2▸hb1)
  exact ih hr.2
theorem HS.freeze(h:HS F0 w0 X F O w){e:OE}{r:List OE}(hO:O=e::r){b:Nat}(hb:e.blk=some b)(hX:w0.heap.size<=b){o:Obj}(ho:w.heap[b]?=some o):
 HS F0 w0 X (fun k=>if k=b then some o else F k) r w:=by
 subst hO;have hs:=(h.sep e (by simp) b hb).1;have hd:=List.pairwise_cons.1 h.dis;refine⟨fun k o' hk=> ?_,fun k o' hk=> ?_,fun k hk=> ?_,fun x hx=>h.own x (by simp [hx]),fun x hx k hk=> ?_,hd.2,h.os,h.tape,h.output,h.size,h.old⟩
 ·replace hk:(if k=b then some o else F k)=some o':=hk
  split at hk
  ·rename_i e1;subst e1;cases hk;exact ho
  exact h.sat k o' hk
 ·have:=h.le k o' hk;show(if k=b then some o else F k)=some o';split
  ·rename_i e1;subst e1;rw [hs]at this;cases this
  exact this
 ·by_cases e1:k=b
  ·subst e1;exact .inr hX
  exact h.new k (by simpa [e1]using hk)
 have h1:=h.sep x (by simp [hx]) k hk;have:k≠b:=fun e1=>hd.1 x hx b hb (e1▸hk);exact⟨by simpa [this]using h1.1,h1.2⟩
theorem a8w{b:Nat}{o:Obj}(hb:F b=none):F.le (fun k=>if k=b then some o else F k):=fun k o' hk=>by
 show(if k=b then some o else F k)=some o';split
 ·rename_i e1;subst e1;rw [hb]at hk;cases hk
 exact hk
theorem HS.call(h:HS F0 w0 X F O w){F':Frz}{O2:List OE}{w':World}(h2:HS F w [] F' O2 w'):HS F0 w0 X F' (O2++O) w':=by
 have hold:∀b,b<w.heap.size->w'.heap[b]?=w.heap[b]?:=fun b hb=>h2.old b hb (by simp);have hg:w.grownBy w' none:=⟨h2.os,h2.tape,h2.output,h2.size,fun k hk _=>hold k hk⟩
 refine⟨h2.sat,h.le.trans h2.le,fun b hb=> ?_,fun e he=> ?_,fun e he b hb=> ?_,?_,h2.os.trans h.os,h2.tape.trans h.tape,h2.output.trans h.output,Nat.le_trans h.size h2.size,fun b hb hx=> ?_⟩
 ·rcases h2.new b hb with h1|h1
  ·exact h.new b h1
  exact .inr (Nat.le_trans h.size h1)
 ·rcases List.mem_append.1 he with he|he
  ·exact h2.own e he
  exact OE.kept (h.own e he) hg (by simp)
 ·rcases List.mem_append.1 he with he|he
  ·obtain⟨h1,h3⟩:=h2.sep e he b hb;refine⟨h1,.inl ?_⟩;rcases h3 with h3|h3
   ·exact Nat.le_trans h.size h3
   cases h3
  obtain⟨h1,h3⟩:=h.sep e he b hb;refine⟨?_,h3⟩;cases hf:F' b with
  |none=>rfl
  |some o=>
   rcases h2.new b (by simp [hf])with h4|h4
   ·exact absurd h1 h4
   have:=OE.lt (h.own e he) hb;omega
 ·refine List.pairwise_append.2 ⟨h2.dis,h.dis,fun e he e' he' b hb1 hb2=> ?_⟩;rcases(h2.sep e he b hb1).2 with h3|h3
  ·have:=OE.lt (h.own e' he') hb2;omega
  cases h3
 rw [hold b (Nat.lt_of_lt_of_le hb h.size)];exact h.old b hb hx
end
structure Rp(α:Type)where
 k:Nat
 R:Frz->List Value->α->Prop
 len:∀{F cs x},R F cs x->cs.length=k
 mono:∀{F F':Frz}{cs x},F.le F'->R F cs x->R F' cs x
 one:∀{F cs x},R F cs x->∀u∈cs,u.oneCell'=true
def RowR{α:Type}(r:Rp α)(F:Frz):List Value->List α->Prop |vs,[]=>vs= [] |vs,x::xs=>∃cs ys,vs=cs++ys/\r.R F cs x/\RowR r F ys xs
section
variable{α:Type}{r:Rp α}{F F':Frz}
theorem RowR.mono(hF:F.le F'):∀{xs:List α}{l:List Value},RowR r F l xs->RowR r F' l xs
 | [],_,h=>h
 |_::_,_,⟨cs,ys,h1,h2,h3⟩=>⟨cs,ys,h1,r.mono hF h2,RowR.mono hF h3⟩
theorem RowR.len:∀{xs:List α}{l:List Value},RowR r F l xs->l.length=xs.length*r.k
 | [],l,h=>by simp only [RowR]at h;subst h;simp
 |x::xs,_,⟨cs,ys,h1,h2,h3⟩=>by subst h1;rw [List.length_append,r.len h2,RowR.len h3,List.length_cons,Nat.add_mul];omega
theorem RowR.one:∀{xs:List α}{l:List Value},RowR r F l xs->∀u∈l,u.oneCell'=true
 | [],l,h=>by simp only [RowR]at h;subst h;simp
 |x::xs,_,⟨cs,ys,h1,h2,h3⟩=>by
  subst h1;intro u hu;rcases List.mem_append.1 hu with hu|hu
  ·exact r.one h2 u hu
  exact RowR.one h3 u hu
theorem RowR.snoc{cs:List Value}{x:α}(hx:r.R F cs x):∀{xs:List α}{l:List Value},RowR r F l xs->RowR r F (l++cs) (xs++ [x])
 | [],l,h=>by simp only [RowR]at h;subst h;exact⟨cs,[],by simp,hx,rfl⟩
 |y::xs,_,⟨c1,ys,h1,h2,h3⟩=>⟨c1,ys++cs,by rw [h1,List.append_assoc],h2,RowR.snoc hx h3⟩
theorem RowR.append{l2:List Value}{ys:List α}(h2:RowR r F l2 ys):∀{xs:List α}{l:List Value},RowR r F l xs->RowR r F (l++l2) (xs++ys)
 | [],l,h=>by simp only [RowR]at h;subst h;simpa using h2
 |y::xs,_,⟨c1,zs,h1,h3,h4⟩=>⟨c1,zs++l2,by rw [h1,List.append_assoc],h3,RowR.append h2 h4⟩
theorem RowR.get:∀{xs:List α}{l:List Value}{i:Nat}{x:α},RowR r F l xs->xs[i]?=some x->∃cs,r.R F cs x/\cs<+:l.drop (i*r.k)
 | [],_,_,_,_,h=>by simp at h
 |y::xs,_,0,x,⟨cs,ys,h1,h2,h3⟩,h=>by simp at h;subst h;exact⟨cs,h2,by simp [h1]⟩
 |y::xs,_,i+1,x,⟨cs,ys,h1,h2,h3⟩,h=>by
  obtain⟨c,hc,hp⟩:=RowR.get h3 (by simpa using h);refine⟨c,hc,?_⟩;rw [h1,show(i+1)*r.k=cs.length+i*r.k from by rw [r.len h2,Nat.add_mul];omega,List.drop_append,List.drop_of_length_le (by omega)];simpa using hp
theorem RowR.drop:∀{xs:List α}{l:List Value}(i:Nat),RowR r F l xs->RowR r F (l.drop (i*r.k)) (xs.drop i)
 |_,_,0,h=>by simpa using h
 | [],_,i+1,h=>by simp only [RowR]at h;subst h;simp [RowR]
 |y::xs,_,i+1,⟨cs,ys,h1,h2,h3⟩=>by
  rw [h1,show(i+1)*r.k=cs.length+i*r.k from by rw [r.len h2,Nat.add_mul];omega,List.drop_append,List.drop_of_length_le (by omega)];simpa using RowR.drop i h3
theorem RowR.take:∀{xs:List α}{l:List Value}(i:Nat),RowR r F l xs->RowR r F (l.take (i*r.k)) (xs.take i)
 |_,_,0,h=>by simp [RowR]
 | [],_,i+1,h=>by simp only [RowR]at h;subst h;simp [RowR]
 |y::xs,_,i+1,⟨cs,ys,h1,h2,h3⟩=>by
  refine⟨cs,ys.take (i*r.k),?_,h2,RowR.take i h3⟩;rw [h1,show(i+1)*r.k=cs.length+i*r.k from by rw [r.len h2,Nat.add_mul];omega,List.take_append,List.take_of_length_le (by omega)];simp
end
def FC(F:Frz)(b o:Nat)(cs:List Value):Prop:=∃cells ty fz,F b=some (.cells cells ty fz)/\cs<+:cells.toList.drop o
theorem FC.mono{F F':Frz}{b o:Nat}{cs:List Value}(hF:F.le F')(h:FC F b o cs):FC F' b o cs:=by
 obtain⟨c,t,z,h1,h2⟩:=h;exact⟨c,t,z,hF _ _ h1,h2⟩
theorem FC.cell{F:Frz}{b o:Nat}{cs:List Value}{w:World}(h:FC F b o cs)(hs:Sat F w){j:Nat}{v:Value}(hj:cs[j]?=some v):w.cell? ⟨b,o+j,none⟩=some v:=by
 obtain⟨c,t,z,h1,ys,h2⟩:=h;have h3:=hs b _ h1;have:(c.toList.drop o)[j]?=some v:=by rw [<-h2,List.getElem?_append_left (List.getElem?_eq_some_iff.1 hj).1];exact hj
 rw [List.getElem?_drop]at this;simp [World.cell?,h3,<-Array.getElem?_toList,this]
def SlR{α:Type}(r:Rp α)(F:Frz)(a:Option Addr)(m c:Nat)(xs:List α):Prop:= xs.length=m/\xs.length<=c/\c<=maxLen/\(xs= []∨∃b o l,a=some ⟨b,o,none⟩/\FC F b o l/\RowR r F l xs)
theorem SlR.mono{α:Type}{r:Rp α}{F F':Frz}{a:Option Addr}{m c:Nat}{xs:List α}(hF:F.le F')(h:SlR r F a m c xs):SlR r F' a m c xs:=by
 obtain⟨h1,h2,h3,h4⟩:=h;refine⟨h1,h2,h3,h4.imp id ?_⟩;rintro⟨b,o,l,e1,e2,e3⟩;exact⟨b,o,l,e1,e2.mono hF,e3.mono hF⟩
theorem SlR.nil{α:Type}(r:Rp α)(F:Frz):SlR r F none 0 0 []:=⟨rfl,Nat.le_refl _,by simp [maxLen],.inl rfl⟩
theorem SlR.len{α:Type}{r:Rp α}{F:Frz}{a:Option Addr}{m c:Nat}{xs:List α}(h:SlR r F a m c xs):xs.length=m:=h.1
def RowN{α:Type}(r:Rp α)(F:Frz)(m:Nat)(l:List Value)(xs:List α):Prop:=xs.length=m/\RowR r F l xs
theorem RowN.mono{α:Type}{r:Rp α}{F F':Frz}{m:Nat}{l:List Value}{xs:List α}(hF:F.le F')(h:RowN r F m l xs):RowN r F' m l xs:=⟨h.1,h.2.mono hF⟩
theorem RowN.len{α:Type}{r:Rp α}{F:Frz}{m:Nat}{l:List Value}{xs:List α}(h:RowN r F m l xs):xs.length=m:=h.1
end Rt
namespace Rt
open Go Go.RowKit
def Rp.int(i:IntKind):Rp Int where
 k:=1
 R:=fun _ cs x=>cs= [.int i x]
 len:=by intros;simp_all
 mono:=fun _ h=>h
 one:=by intro F cs x h u hu;subst h;simp at hu;subst hu;rfl
def Rp.bool:Rp Bool where
 k:=1
 R:=fun _ cs x=>cs= [.bool x]
 len:=by intros;simp_all
 mono:=fun _ h=>h
 one:=by intro F cs x h u hu;subst h;simp at hu;subst hu;rfl
def Rp.str:Rp Bs where
 k:=1
 R:=fun _ cs x=>cs= [vs x]
 len:=by intros;simp_all
 mono:=fun _ h=>h
 one:=by intro F cs x h u hu;subst h;simp at hu;subst hu;rfl
def Rp.sl{α:Type}(r:Rp α):Rp (List α)where
 k:=1
 R:=fun F cs x=>∃a m c,cs= [.slice a m c]/\SlR r F a m c x
 len:=by rintro F cs x ⟨a,m,c,h,_⟩;simp [h]
 mono:=by rintro F F' cs x hF ⟨a,m,c,h,h2⟩;exact⟨a,m,c,h,h2.mono hF⟩
 one:=by rintro F cs x ⟨a,m,c,h,_⟩ u hu;subst h;simp at hu;subst hu;rfl
def ix{α:Type}(l:List α)(i:Int):Option α:=if 0<=i then l[i.toNat]? else none
def lsl{α:Type}(l:List α)(lo hi:Int):Option (List α):=if 0<=lo/\lo<=hi/\hi<=l.length then some ((l.take hi.toNat).drop lo.toNat)else none
def app{α:Type}(bytes:Nat)(l l2:List α):Option (List α):=if(l.length+l2.length)*bytes<=140737488355328 then some (l++l2)else none
section
variable{P:Program}{Q:Exit->Act->World->Prop}{n:Nat}{env:Env}{w:World}
variable{opr:Array Oper}{rest:List Oper}{d:Nat}{g:Option (Nat×Bool)}{ty:TypeId}{pos:String}{es:Array Edge}
variable{F0 F:Frz}{w0:World}{X:List Nat}{O:List OE}
def f1t(P:Program)(T:TypeId)(b:Bool):Prop:=∀w,(isAgg T).run P w= .ok b w
def a9f(P:Program)(T:TypeId)(k:Nat):Prop:=∀w,(sizeOf T).run P w= .ok k w
def b2v(P:Program)(T:TypeId)(z:Value):Prop:=∀w,(zeroValue T).run P w= .ok z w
def e3q(P:Program)(T j o:Nat):Prop:=∀(b p:Nat)w,(Instr.fieldAt T (.pointer (some ⟨b,p,none⟩)) j).run P w= .ok (.pointer (some ⟨b,p+o,none⟩)) w
theorem addr_add(b o m:Nat):(⟨b,o,none⟩:Addr).add m=⟨b,o+m,none⟩:=by unfold Addr.add;split<;>simp_all
theorem e4u{T:TypeId}{z:Value}{cs:List Value}(hZ:b2v P T z)(hcs:z.cells.toList=cs)(hg:isOn opr env g=true)(hn:Nat.blt d n=true)(h:HS F0 w0 X F O w)
 (k:∀b w',HS F0 w0 X F (.box b T cs::O) w'->RW P opr Q rest n ((d,.pointer (some ⟨b,0,none⟩))::env) w'):RW P opr Q (⟨some d,.alloc T,ty,pos,es,g⟩::rest) n env w:=
 f0s (w':=w.alloc (.cells z.cells T)) rfl (by simpa using hn) hg (fun a ha=>by simp [execOp,Instr.alloc,hZ w,newVar,newRow]) (k w.heap.size _ (h.add (World.grownBy_alloc w _ none) (by
  subst hcs;show(w.alloc _).heap[w.heap.size]?=_;rw [heap_alloc_new]) (by simp [OE.blk])))
theorem HS.get(h:HS F0 w0 X F O w){i:Nat}{e:OE}(hi:O[i]?=some e):e.ok w:=h.own e (List.mem_of_getElem? hi)
theorem a4e(w:World)(b:Nat)(cs:Array Value):w.grownBy (w.setRow b cs) (some b):=
 ⟨rfl,rfl,rfl,by simp [World.setRow],fun k _ hk=>setRow_other w b k cs (fun e=>hk (by rw [e]))⟩
theorem e4l{T:TypeId}{x y:Operand}{b o i m:Nat}{v:Value}{t:TypeId}{cs cs':List Value}(hS:a9f P T m)(hg:isOn opr env g=true)(h:HS F0 w0 X F O w)(hx:opv env x=some (.pointer (some ⟨b,o,none⟩)))(hy:opv env y=some v)
 (hm:v.cells.size=m) (h1:v.cells.toList.all Value.oneCell'=true) (hi:O[i]?=some (.box b t cs)) (hl:Nat.ble (o+m) cs.length=true) (hc:cs.take o++v.cells.toList++cs.drop (o+m)=cs')
 {O':List OE} (hO:O.set i (.box b t cs')=O') (k:∀w',HS F0 w0 X F O' w'->RW P opr Q rest n env w'):RW P opr Q (⟨none,.store T x y,ty,pos,es,g⟩::rest) n env w:=by
 have hb:w.heap[b]?=some (.cells cs.toArray t (0,0)):=h.get hi;have hst:=run_storeCells_at P b o t v.cells.toList 0 cs.toArray w hb (by have:=Nat.le_of_ble_eq_true hl;simp [hm];omega) (fun u hu=>by simpa using(List.all_eq_true.1 h1) u hu);refine f0y (w':=w.setRow b cs'.toArray) rfl hg (fun a ha=> ?_) (k _ ?_)
 ·simp only [Nat.add_zero]at hst;subst hc;simp [execOp,Instr.storeAt,Instr.sureAddr,ha.op hx,ha.op hy,storeVar,hS w,hm,hst]
 subst hO;exact h.upd hi (a4e w b _) (setRow_heap w b _ _ t _ hb) (fun k hk=> .inl hk)
def opvp(env:Env):List (Nat×Operand)->Option (List (Nat×Value))
 | []=>some []
 |p::r=>match opv env p.2,opvp env r with
  |some v,some l=>some ((p.1,v)::l)
  |_,_=>none
theorem b4r{a:Act}(ha:Has n a env):∀{l:List (Nat×Operand)}{vl:List (Nat×Value)},opvp env l=some vl->(l.map fun p=>(p.1,a.eval p.2))=vl
 | [],vl,h=>by simp only [opvp,Option.some.injEq]at h;subst h;rfl
 |p::l,vl,h=>by
  simp only [opvp]at h;split at h
  ·rename_i v l' hv hl;cases h;simp [ha.op hv,b4r ha hl]
  cases h
theorem a7n{a:Act}(ha:Has n a env){ps:List (Nat×Operand)}{vl:List (Nat×Value)}(h:opvp env ps=some vl):(ps.toArray.map fun(i,x)=>(i,a.eval x))=vl.toArray:=by
 rw [<-b4r ha h];apply Array.ext';simp
theorem HS.nilRow(h:HS F0 w0 X F O w)(e:TypeId)(k:Nat):HS F0 w0 X F (.row e k none 0 0 []::O) w:=
 h.add (w':=w) ⟨rfl,rfl,rfl,Nat.le_refl _,fun _ _ _=>rfl⟩ (World.ownsRow_nil _ _ _ _) (by simp [OE.blk,Value.ownBlock])
structure AppIs(P:Program)(t e:TypeId)(q bytes:Nat):Prop where
 under:P.underlying t=some (.slice e)
 info:∃i z,P.info? e=some i/\i.zero=some z/\i.size=q/\i.bytes=bytes/\z.cells.size=q
 pos:0<q
 pos2:0<bytes
theorem AppIs.of{t e:TypeId}{q bytes:Nat}{z:Value}(hu:P.underlying t=some (.slice e))(hi:(P.info? e).map (fun i=>(i.zero,i.size,i.bytes))=some (some z,q,bytes))(hz:z.cells.size=q)(h1:0<q)(h2:0<bytes):AppIs P t e q bytes:=by
 cases h:P.info? e with
 |none=>simp [h]at hi
 |some i=>
  simp only [h,Option.map_some,Option.some.injEq,Prod.mk.injEq]at hi;exact⟨hu,⟨i,z,h,hi.1,hi.2.1,hi.2.2,hz⟩,h1,h2⟩
end
def c8g(l:List Int):Bs:=l.map fun x=>UInt8.ofNat x.toNat
theorem a7p{α:Type}{l l2:List α}(h:l<+:l2)(m:Nat):l.drop m<+:l2.drop m:=by
 obtain⟨t,rfl⟩:=h;exact⟨t.drop (m-l.length),by rw [List.drop_append]⟩
theorem d2i(l:List Int):∀acc:ByteArray,(l.foldl (fun r n=>r.push (UInt8.ofNat n.toNat)) acc).data.toList=acc.data.toList++c8g l:=by
 induction l with
 |nil=>intro acc;simp [c8g]
 |cons x l ih=>intro acc;rw [List.foldl_cons,ih];simp [c8g]
section
variable{P:Program}{Q:Exit->Act->World->Prop}{n:Nat}{env:Env}{w:World}
variable{opr:Array Oper}{rest:List Oper}{d:Nat}{g:Option (Nat×Bool)}{ty:TypeId}{pos:String}{es:Array Edge}
variable{F0 F:Frz}{w0:World}{X:List Nat}{O:List OE}
theorem a7y{t e:TypeId}{q:Nat}(hu:P.underlying t=some (.slice e))(hS:a9f P e q){b o m c:Nat}{ik:IntKind}{i:Int}(h0:0<=i)(h1:i<m):
 (Instr.indexAt t (.slice (some ⟨b,o,none⟩) m c) (.int ik i)).run P w= .ok (.pointer (some ⟨b,o+i.toNat*q,none⟩)) w:=by
 simp [Instr.indexAt,asIntOf,underlying,hu,h0,h1,hS w,addr_add]
theorem SlR.part{α:Type}{r:Rp α}{a:Option Addr}{m c p q:Nat}{xs:List α}(hs:SlR r F a m c xs)(h1:p<=q)(h2:q<=xs.length):
 SlR r F (if c=p then a else a.map (·.add (p*r.k))) (q-p) (c-p) ((xs.take q).drop p):=by
 obtain⟨_,h3,h4,h5⟩:=hs;refine⟨by simp;omega,by simp;omega,by omega,?_⟩;rcases h5 with rfl|⟨b,o,l,rfl,hf,hr⟩
 ·left;simp
 by_cases hp:p=q
 ·left;subst hp;simp
 right;have hc:c≠p:=by omega
 refine⟨b,o+p*r.k,(l.take (q*r.k)).drop (p*r.k),by simp [hc,addr_add],?_,(hr.take q).drop p⟩;obtain⟨cells,cty,fz,h6,h7⟩:=hf;refine⟨cells,cty,fz,h6,?_⟩;rw [<-List.drop_drop];exact a7p ((List.take_prefix _ _).trans h7) _
theorem e3c{α:Type}{r:Rp α}{t e:TypeId}(hu:P.underlying t=some (.slice e))(hS:a9f P e r.k){a:Option Addr}{m c:Nat}{xs ys:List α}{lo hi:Int}(hs:SlR r F a m c xs)(hl:lsl xs lo hi=some ys){lo' hi':Option Value}
 (ha:lo'=some (.int .i64 lo)∨lo'=none/\lo=0) (hb:hi'=some (.int .i64 hi)∨hi'=none/\hi=xs.length):
 ∃a' m' c',(Instr.sliceAt t (.slice a m c) lo' hi' none).run P w= .ok (.slice a' m' c') w/\SlR r F a' m' c' ys:=by
 have hm:=hs.1;subst hm;unfold lsl at hl;split at hl
 ·rename_i hc;cases hl;obtain⟨h0,h1,h2⟩:=hc;obtain⟨p,rfl⟩:=Int.eq_ofNat_of_zero_le h0;obtain⟨q,rfl⟩:=Int.eq_ofNat_of_zero_le (show 0<=hi by omega);have h1':p<=q:=by omega
  have h2':q<=xs.length:=by omega
  have h3:=hs.2.1;have e1:∀(c:BoundsCode)(y:Nat),q<=y->(Instr.sliceBound (.int .i64 (q:Int)) y c).run P w= .ok q w:=fun c y hy=>by simp [Instr.sliceBound,asIntOf,hy]
  have e2:∀(c:BoundsCode)(y:Nat),p<=y->(Instr.sliceBound (.int .i64 (p:Int)) y c).run P w= .ok p w:=fun c y hy=>by simp [Instr.sliceBound,asIntOf,hy]
  have hq:q<=c:=by omega
  refine⟨_,_,_,?_,by simpa using hs.part h1' h2'⟩;rcases ha with rfl|⟨rfl,hp⟩<;>rcases hb with rfl|⟨rfl,hqq⟩
  ·simp [Instr.sliceAt,Instr.slice,Instr.sliceBounds,underlying,hu,e1,e2,h1',hq,hS w]
  ·obtain rfl:q=xs.length:=by omega
   simp [Instr.sliceAt,Instr.slice,Instr.sliceBounds,underlying,hu,e2,h1',hS w]
  ·obtain rfl:p=0:=by omega
   simp [Instr.sliceAt,Instr.slice,Instr.sliceBounds,underlying,hu,e1,hq,hS w]
  obtain rfl:p=0:=by omega
  obtain rfl:q=xs.length:=by omega
  simp [Instr.sliceAt,Instr.slice,Instr.sliceBounds,underlying,hu,hS w]
 cases hl
end
theorem HS.drew{F0 F:Frz}{w0 w:World}{X:List Nat}{O:List OE}(h:HS F0 w0 X F O w):HS F0 w0 X F O {w with drawn:=w.drawn+1}:=
 ⟨h.sat,h.le,h.new,fun e he=>by have:=h.own e he;cases e<;>exact this,h.sep,h.dis,h.os,h.tape,h.output,h.size,h.old⟩
section
variable{P:Program}{Q:Exit->Act->World->Prop}{Qa:Act->Prop}{n:Nat}{env:Env}{w:World}
variable{opr:Array Oper}{rest:List Oper}{d:Nat}{C:World->Prop}
variable{F0 F:Frz}{w0:World}{X:List Nat}{O:List OE}
end
theorem HS.lend{F:Frz}{w:World}{b:Nat}{t:TypeId}{cs:List Value}(hs:Sat F w)(hb:(OE.box b t cs).ok w)(hf:F b=none):HS F w [b] F [.box b t cs] w:=
 ⟨hs,Frz.refl F,fun _ h=> .inl h,by simpa using hb,by
   intro e he b' hb';obtain rfl:=List.mem_singleton.1 he;obtain rfl:b=b':=Option.some.inj hb';exact⟨hf,.inr (by simp)⟩,by simp,rfl,rfl,rfl,Nat.le_refl _,fun _ _ _=>rfl⟩
section
variable{F0 F:Frz}{w0 w:World}{X:List Nat}{O:List OE}
end
section
variable{P:Program}{Q:Exit->Act->World->Prop}{n:Nat}{env:Env}{w:World}
variable{opr:Array Oper}{rest:List Oper}{d:Nat}{g:Option (Nat×Bool)}{ty:TypeId}{pos:String}{es:Array Edge}
variable{F0 F:Frz}{w0:World}{X:List Nat}{O:List OE}
end
def SH(F:Frz)(O:List OE)(w:World):Prop:=∃F' X,F.le F'/\HS F' w X F' O w
section
variable{P:Program}{Q:Exit->Act->World->Prop}{n:Nat}{env:Env}{w:World}
variable{ops:Array Oper}{d:Nat}{S:World->Prop}{fuel:Nat}{listed:Array Bool}
variable{F0 F:Frz}{w0:World}{X:List Nat}{O:List OE}
theorem HS.sh(h:HS F0 w0 X F O w){F1:Frz}(hle:F1.le F)(l:List Nat)(hl:l.Nodup){O1:List OE}(hO:Rt.pick O l=O1):SH F1 O1 w:=by
 have h2:=h.pick l hl hO;refine⟨F,O1.filterMap OE.blk,hle,h2.sat,Frz.refl F,fun _ hb=> .inl hb,h2.own,fun e he b hb=>⟨(h2.sep e he b hb).1,.inr (List.mem_filterMap.2 ⟨e,he,hb⟩)⟩,h2.dis,rfl,rfl,rfl,Nat.le_refl _,fun _ _ _=>rfl⟩
end
def mget{K V:Type} [BEq K](l:List (K×V))(k:K):Option V:=(l.find? fun p=>k==p.1).map (·.2)
def mput{K V:Type} [BEq K]:List (K×V)->K->V->List (K×V) | [],k,v=> [(k,v)] |p::l,k,v=>if k==p.1 then(p.1,v)::l else p::mput l k v
def MpR{K V:Type}(ek:K->Value)(ev:V->Value):List MapEntry->List (K×V)->Prop | [],[]=>True |e::es,p::l=>e.key=ek p.1/\e.val=ev p.2/\MpR ek ev es l |_,_=>False
structure KeyIs(P:Program)(kt:TypeId){K:Type} [BEq K](ek:K->Value)(D:TypeDesc):Prop where
 desc:P.underlying kt=some D
 now:∀x y:K,Instr.sameNow D (ek x) (ek y)=some (x==y)
 check:∀(b:Bool)(x:K)(w:World),(Instr.checkKey b 10000 kt (ek x)).run P w= .ok () w
 bits:∀x y:K,(x==y)=true->Instr.sameBits 10000 (ek x) (ek y)=true
 eq:∀x y:K,(x==y)=true->x=y
 refl:∀x:K,(x==x)=true
theorem KeyIs.int{P:Program}{kt:TypeId}{k:IntKind}(h:P.underlying kt=some (.int k)):KeyIs P kt (K:=Int) (Value.int k) (.int k)where
 desc:=h
 now x y:=by simp [Instr.sameNow]
 check b x w:=by rw [show(10000:Nat)=9999+1 from rfl,Instr.checkKey];simp [underlying,h]
 bits x y e:=by simp only [beq_iff_eq]at e;subst e;simp [Instr.sameBits]
 eq x y e:=by simpa using e
 refl x:=by simp
theorem c9w(x y:Bs):((⟨x.toArray⟩:ByteArray)==⟨y.toArray⟩)=(x==y):=by
 show(x.toArray==y.toArray)=(x==y)
 simp
theorem KeyIs.str{P:Program}{kt:TypeId}(h:P.underlying kt=some .string):KeyIs P kt (K:=Bs) vs .string where
 desc:=h
 now x y:=by simp only [Instr.sameNow,vs];rw [c9w]
 check b x w:=by rw [show(10000:Nat)=9999+1 from rfl,Instr.checkKey];simp [underlying,h,vs]
 bits x y e:=by
  simp only [beq_iff_eq]at e;subst e;show((⟨x.toArray⟩:ByteArray)==⟨x.toArray⟩)=true;rw [c9w];simp
 eq x y e:=by simpa using e
 refl x:=by simp
section
variable{P:Program}{kt:TypeId}{K V:Type} [BEq K]{ek:K->Value}{ev:V->Value}{D:TypeDesc}
theorem b1n(hk:KeyIs P kt ek D)(k:K):∀{es:List MapEntry}{l:List (K×V)}(i:Nat),(∀p∈l,True)->MpR ek ev es l->
 (∃r,Instr.findNow D (ek k) es i=some r/\r.map (·.2)=((l.find? fun p=>k==p.1).map (·.2)).map ev)
 | [],[],_,_,_=>⟨none,rfl,rfl⟩
 |e::es,p::l,i,_,h=>by
  obtain⟨h1,h2,h3⟩:=h;simp only [Instr.findNow,h1,hk.now];cases hb:(k==p.1)
  ·obtain⟨r,h4,h5⟩:=b1n hk k (i+1) (fun _ _=>trivial) h3;exact⟨r,h4,by rw [h5,List.find?_cons,hb]⟩
  exact⟨some (i,e.val),rfl,by rw [List.find?_cons,hb];simp [h2]⟩
 | [],_::_,_,_,h=>h.elim
 |_::_,[],_,_,h=>h.elim
theorem b3c(hk:KeyIs P kt ek D)(k:K)(v:V):∀{es:List MapEntry}{l:List (K×V)}(i:Nat),MpR ek ev es l->
 (Instr.findNow D (ek k) es i=some none/\∀b,MpR ek ev (es++ [{key:=ek k,val:=ev v,born:=b}]) (mput l k v))∨
 ∃j e0,Instr.findNow D (ek k) es i=some (some (i+j,e0))/\(∃e,es[j]?=some e/\e.key=ek k)/\MpR ek ev (es.modify j fun e=>{e with key:=ek k,val:=ev v}) (mput l k v)
 | [],[],_,_=> .inl ⟨rfl,fun b=>⟨rfl,rfl,trivial⟩⟩
 |e::es,p::l,i,h=>by
  obtain⟨h1,h2,h3⟩:=h;simp only [Instr.findNow,h1,hk.now,mput];cases hb:(k==p.1)
  ·rcases b3c hk k v (i+1) h3 with⟨h4,h5⟩|⟨j,e0,h4,h5,h6⟩
   ·exact .inl ⟨h4,fun b=>⟨h1,h2,h5 b⟩⟩
   exact .inr ⟨j+1,e0,by simp only [h4,Nat.add_assoc,Nat.add_comm 1 j],by simpa using h5,by simpa [List.modify_succ_cons]using⟨h1,h2,h6⟩⟩
  have hkp:=hk.eq _ _ hb;exact .inr ⟨0,e.val,by simp,⟨e,rfl,by rw [h1,hkp]⟩,by simpa [MpR,hkp]using h3⟩
 | [],_::_,_,h=>h.elim
 |_::_,[],_,h=>h.elim
theorem c9r{es:List MapEntry}{clock:Nat}(h:a4l es clock)(k v:Value):a4l (es++ [{key:=k,val:=v,born:=clock}]) (clock+1):=by
 refine⟨?_,fun e he=> ?_⟩
 ·rw [List.map_append,List.nodup_append];refine⟨h.1,by simp,fun a ha b hb=> ?_⟩;obtain⟨x,hx,rfl⟩:=List.mem_map.1 ha;have hb:b=clock:=by simpa using hb
  have:=h.2 x hx;omega
 rcases List.mem_append.1 he with he|he
 ·have:=h.2 e he;omega
 obtain rfl:=List.mem_singleton.1 he;exact Nat.lt_succ_self _
theorem d3p{es:List MapEntry}{clock:Nat}(h:a4l es clock)(j:Nat)(k v:Value):a4l (es.modify j fun e=>{e with key:=k,val:=v}) clock:=by
 have hm:∀(es:List MapEntry)(j:Nat),(es.modify j fun e=>{e with key:=k,val:=v}).map (·.born)=es.map (·.born):=by
  intro es;induction es with
  |nil=>intro j;cases j<;>rfl
  |cons e es ih=>
   intro j;cases j with
   |zero=>rfl
   |succ j=>rw [List.modify_succ_cons,List.map_cons,List.map_cons,ih]
 refine⟨by rw [hm];exact h.1,fun e he=> ?_⟩;have h1:e.born∈(es.modify j fun e=>{e with key:=k,val:=v}).map (·.born):=List.mem_map.2 ⟨e,he,rfl⟩;rw [hm]at h1;obtain⟨x,hx,h2⟩:=List.mem_map.1 h1;rw [<-h2];exact h.2 x hx
theorem d1o(hk:KeyIs P kt ek D){t et:TypeId}(hu:P.underlying t=some (.map kt et)){w:World}{r clock:Nat}{es:List MapEntry}{l:List (K×V)}(hb:w.heap[r]?=some (.map es.toArray clock))(hst:a4l es clock)(hr:MpR ek ev es l)(k:K)(v:V):
 ∃es' clock',(Instr.mapUpdate t (.map (some r)) (ek k) (ev v)).run P w= .ok () {w with heap:=w.heap.setIfInBounds r (.map es'.toArray clock')}/\MpR ek ev es' (mput l k v)/\a4l es' clock':=by
 have hc:=hk.check false k w;rcases b3c hk k v 0 hr with⟨h1,h2⟩|⟨j,e0,h1,⟨e,h3,h4⟩,h5⟩
 ·refine⟨es++ [{key:=ek k,val:=ev v,born:=clock}],clock+1,?_,h2 clock,c9r hst _ _⟩;have hf:(Instr.findKey kt (ek k) es).run P w= .ok none w:=by simp [Instr.findKey,run_underlying hk.desc,h1]
  simp [Instr.mapUpdate,run_underlying hu,MapKept.run_getObj_map hb,hc,hf,MapKept.run_setObj_map _ hb,Result.andThen]
 refine⟨es.modify j fun e=>{e with key:=ek k,val:=ev v},clock,?_,h5,d3p hst _ _ _⟩;have hf:(Instr.findKey kt (ek k) es).run P w= .ok (some (j,e0)) w:=by
  rw [Nat.zero_add]at h1;simp [Instr.findKey,run_underlying hk.desc,h1]
 have hkk:=hk.refl k;have hst:(Instr.keyThatStays (ek k) (ek k)).run P w= .ok (ek k) w:=by simp [Instr.keyThatStays,hk.bits k k hkk]
 simp [Instr.mapUpdate,run_underlying hu,MapKept.run_getObj_map hb,hc,hf,h3,h4,hst,MapKept.run_setObj_map _ hb,Result.andThen]
theorem d1u(hk:KeyIs P kt ek D){t et:TypeId}(hu:P.underlying t=some (.map kt et)){w:World}{r clock:Nat}{es:List MapEntry}{l:List (K×V)}{z:Value}(hz:(zeroValue et).run P w= .ok z w)(hb:w.heap[r]?=some (.map es.toArray clock))(hr:MpR ek ev es l)(k:K):
 (Instr.lookup t (.map (some r)) (ek k) true).run P w= .ok (.tuple #[((mget l k).map ev).getD z,.bool (mget l k).isSome]) w:=by
 have hc:=hk.check es.isEmpty k w;obtain⟨q,h1,h2⟩:=b1n hk k (ev:=ev) 0 (fun _ _=>trivial) hr;have hf:(Instr.findKey kt (ek k) es).run P w= .ok q w:=by simp [Instr.findKey,run_underlying hk.desc,h1]
 have hm:(l.find? fun p=>k==p.1).map (·.2)=mget l k:=rfl;rw [hm]at h2;cases q with
 |none=>
  cases hg:mget l k with
  |none=>simp [Instr.lookup,run_underlying hu,MapKept.run_getObj_map hb,hc,hf,hz,Result.andThen]
  |some v=>rw [hg]at h2;cases h2
 |some p=>
  cases hg:mget l k with
  |none=>rw [hg]at h2;cases h2
  |some v=>
   rw [hg]at h2;have h3:p.2=ev v:=by simpa using h2
   simp [Instr.lookup,run_underlying hu,MapKept.run_getObj_map hb,hc,hf,h3,Result.andThen]
end
section
variable{P:Program}{Q:Exit->Act->World->Prop}{n:Nat}{env:Env}{w:World}
variable{opr:Array Oper}{rest:List Oper}{d:Nat}{g:Option (Nat×Bool)}{ty:TypeId}{pos:String}{es:Array Edge}
variable{F0 F:Frz}{w0:World}{X:List Nat}{O:List OE}
variable{kt:TypeId}{K V:Type} [BEq K]{ek:K->Value}{ev:V->Value}{D:TypeDesc}
theorem b7v(w:World)(r:Nat)(o:Obj):w.grownBy {w with heap:=w.heap.setIfInBounds r o} (some r):=
 ⟨rfl,rfl,rfl,by simp,fun k _ hne=>by
   have:r≠k:=fun e=>hne (by rw [e]);simp [this]⟩
end
def mks{α:Type}(bytes:Nat)(z:α)(n:Int):Option (List α):=if 0<=n/\n.toNat*bytes<=140737488355328 then some (List.replicate n.toNat z)else none
section
variable{α:Type}{r:Rp α}{F F':Frz}
theorem RowR.set{y:α}{cs':List Value}(hx:r.R F cs' y):∀{xs:List α}{l:List Value}{i:Nat},i<xs.length->RowR r F l xs->RowR r F (l.take (i*r.k)++cs'++l.drop (i*r.k+r.k)) (xs.set i y)
 | [],_,_,h,_=>by simp at h
 |z::xs,_,0,_,⟨c1,ys,h1,h2,h3⟩=>by
  refine⟨cs',ys,?_,hx,h3⟩;subst h1;have:=r.len h2;simp [this]
 |z::xs,_,i+1,h,⟨c1,ys,h1,h2,h3⟩=>by
  have h4:=RowR.set hx (by simpa using h) h3;refine⟨c1,_,?_,h2,h4⟩;subst h1;have hk:=r.len h2;rw [show(i+1)*r.k=c1.length+i*r.k from by rw [hk,Nat.add_mul];omega,show c1.length+i*r.k+r.k=c1.length+(i*r.k+r.k)from by omega,List.take_append,List.take_of_length_le (by omega),List.drop_append,List.drop_of_length_le (by omega)];simp [List.append_assoc]
theorem RowN.append{m m2:Nat}{l l2:List Value}{xs ys:List α}(h2:RowN r F m2 l2 ys)(h:RowN r F m l xs):RowN r F (m+m2) (l++l2) (xs++ys):=
 ⟨by rw [List.length_append,h.1,h2.1],RowR.append h2.2 h.2⟩
theorem RowN.take{m:Nat}{l:List Value}{xs:List α}(h:RowN r F m l xs){q:Nat}(hq:q<=m):RowN r F q (l.take (q*r.k)) (xs.take q):=
 ⟨by rw [List.length_take,h.1];omega,RowR.take q h.2⟩
theorem RowN.cells{m:Nat}{l:List Value}{xs:List α}(h:RowN r F m l xs):l.length=m*r.k:=by rw [RowR.len h.2,h.1]
theorem RowR.rep{zc:List Value}{z:α}(hz:r.R F zc z):∀(n:Nat)(l:List Value),l.length=n*r.k->(∀j v,l[j]?=some v->zc[j %r.k]?=some v)->RowR r F l (List.replicate n z)
 |0,l,h,_=>by
  have:l= []:=List.eq_nil_of_length_eq_zero (by simpa using h);subst this;rfl
 |n+1,l,h,hl=>by
  have hk:=r.len hz;rw [Nat.add_mul,Nat.one_mul]at h;refine⟨zc,l.drop r.k,?_,hz,RowR.rep hz n _ (by rw [List.length_drop];omega) (fun j v hj=> ?_)⟩
  ·have:l.take r.k=zc:=by
    apply List.ext_getElem?;intro j;rw [List.getElem?_take];split
    ·rename_i hlt;have hlen:j<l.length:=by omega
     have h3:=hl j l[j] (List.getElem?_eq_getElem hlen);rw [Nat.mod_eq_of_lt hlt]at h3;rw [h3,List.getElem?_eq_getElem hlen]
    rename_i hge;exact(List.getElem?_eq_none (by omega)).symm
   rw [<-this,List.take_append_drop]
  rw [List.getElem?_drop]at hj;have h3:=hl _ v hj
  rwa [Nat.add_mod_left]at h3
end
def OE.view:OE->Option (TypeId×Nat×Option Addr×Nat×Nat×List Value×Nat) | .row e k a m c xs=>some (e,k,a,m,c,xs,0) | .win e k a m c pre xs _=>some (e,k,a,m,c,xs,pre.length) |_=>none
def OE.withCells:OE->List Value->OE | .row e k a m c _,xs=> .row e k a m c xs | .win e k a m c pre _ post,xs=> .win e k a m c pre xs post |e,_=>e
theorem OE.access{w:World}{en:OE}{e:TypeId}{k m c base:Nat}{a:Option Addr}{xs:List Value}(h:en.ok w)(hv:en.view=some (e,k,a,m,c,xs,base))(hm:0<m):
 ∃b cur,a=some ⟨b,base,none⟩/\w.heap[b]?=some (.cells cur e (0,0))/\en.blk=some b/\xs<+:cur.toList.drop base/\(xs.length=m*k/\base+xs.length<=cur.size)/\
  ∀o vc,o+vc.length<=xs.length->(en.withCells (xs.take o++vc++xs.drop (o+vc.length))).ok (w.setRow b (cur.toList.take (base+o)++vc++cur.toList.drop (base+o+vc.length)).toArray):=by
 cases en with
 |box b t cs=>simp [OE.view]at hv
 |mp b es clock=>simp [OE.view]at hv
 |it b o=>simp [OE.view]at hv
 |row e' k' a' m' c' xs'=>
  simp only [OE.view,Option.some.injEq,Prod.mk.injEq]at hv;obtain⟨rfl,rfl,rfl,rfl,rfl,rfl,rfl⟩:=hv;rcases h.2 with⟨_,h0⟩|⟨g,cap,cur,he,h1,h2,h3,h4,h5,h6⟩
  ·omega
  simp only [Value.slice.injEq]at he;obtain⟨rfl,_,rfl⟩:=he;have hpre:xs'<+:cur.toList:=h6▸List.take_prefix _ _;have hlen:=hpre.length_le;refine⟨g,cur,rfl,h2,rfl,by simpa using hpre,⟨h.1,by simpa using hlen⟩,fun o vc ho=> ?_⟩;refine⟨?_,.inr ⟨g,_,_,rfl,h1,setRow_heap w g _ _ _ _ h2,h3,h4,?_,?_⟩⟩
  ·have:=h.1;simp;omega
  ·simp only [Array.length_toList]at hlen;simp;omega
  obtain⟨t,ht⟩:=hpre;rw [<-h.1,List.toList_toArray,Nat.zero_add,<-ht,List.take_append_of_le_length (l₁:=xs') (i:=o) (by omega),List.drop_append_of_le_length ho,<-List.append_assoc];exact List.take_left' (by simp;omega)
 |win e' k' a' m' c' pre xs' post=>
  simp only [OE.view,Option.some.injEq,Prod.mk.injEq]at hv;obtain⟨rfl,rfl,rfl,rfl,rfl,rfl,rfl⟩:=hv;obtain⟨h1,h2,h3,h4⟩:=h;rcases h4 with h4|⟨b,rfl,h5⟩
  ·omega
  refine⟨b,_,rfl,h5,by simp [OE.blk];omega,by simp,⟨h1,by simp⟩,fun o vc ho=> ?_⟩;refine⟨by simp;omega,h2,h3,.inr ⟨b,rfl,?_⟩⟩;rw [setRow_heap w b _ _ _ _ h5];simp only [List.append_assoc];rw [List.take_append,List.take_of_length_le (by omega),show pre.length+o-pre.length=o from by omega,List.drop_append,List.drop_of_length_le (by omega),show pre.length+o+vc.length-pre.length=o+vc.length from by omega,List.take_append_of_le_length (by omega),List.drop_append_of_le_length ho];simp [List.append_assoc]
section
variable{P:Program}{Q:Exit->Act->World->Prop}{n:Nat}{env:Env}{w:World}
variable{opr:Array Oper}{rest:List Oper}{d:Nat}{g:Option (Nat×Bool)}{ty:TypeId}{pos:String}{es:Array Edge}
variable{F0 F:Frz}{w0:World}{X:List Nat}{O:List OE}
def SubR(k:Nat)(a:Option Addr)(m c:Nat)(lo hi:Nat)(a':Option Addr)(m' c':Nat):Prop:= lo<=hi/\hi<=m/\m'=hi-lo/\c'=c-lo/\a'=if c=lo then a else a.map (·.add (lo*k))
theorem e1p{e t:TypeId}{k:Nat}(hu:P.underlying t=some (.slice e))(hS:a9f P e k){a:Option Addr}{m c:Nat}(hmc:m<=c){lo hi:Int}(h0:0<=lo)(h1:lo<=hi)(h2:hi<=m){lo' hi':Option Value}
 (ha:lo'=some (.int .i64 lo)∨lo'=none/\lo=0) (hb:hi'=some (.int .i64 hi)∨hi'=none/\hi=m):
 (Instr.sliceAt t (.slice a m c) lo' hi' none).run P w= .ok (.slice (if c=lo.toNat then a else a.map (·.add (lo.toNat*k))) (hi.toNat-lo.toNat) (c-lo.toNat)) w:=by
 obtain⟨p,rfl⟩:=Int.eq_ofNat_of_zero_le h0;obtain⟨q,rfl⟩:=Int.eq_ofNat_of_zero_le (show 0<=hi by omega);have h1':p<=q:=by omega
 have h2':q<=c:=by omega
 have e1:∀(c:BoundsCode)(y:Nat),q<=y->(Instr.sliceBound (.int .i64 (q:Int)) y c).run P w= .ok q w:=fun c y hy=>by simp [Instr.sliceBound,asIntOf,hy]
 have e2:∀(c:BoundsCode)(y:Nat),p<=y->(Instr.sliceBound (.int .i64 (p:Int)) y c).run P w= .ok p w:=fun c y hy=>by simp [Instr.sliceBound,asIntOf,hy]
 simp only [Int.toNat_natCast];rcases ha with rfl|⟨rfl,hp⟩<;>rcases hb with rfl|⟨rfl,hqq⟩
 ·simp [Instr.sliceAt,Instr.slice,Instr.sliceBounds,underlying,hu,e1,e2,h1',h2',hS w]
 ·obtain rfl:q=m:=by omega
  simp [Instr.sliceAt,Instr.slice,Instr.sliceBounds,underlying,hu,e2,h1',hS w]
 ·obtain rfl:p=0:=by omega
  simp [Instr.sliceAt,Instr.slice,Instr.sliceBounds,underlying,hu,e1,h2',hS w]
 obtain rfl:p=0:=by omega
 obtain rfl:q=m:=by omega
 simp [Instr.sliceAt,Instr.slice,Instr.sliceBounds,underlying,hu,hS w]
theorem d8m{α:Type}{l r:List α}{lo hi:Int}(h:lsl l lo hi=some r):0<=lo/\lo<=hi/\hi<=l.length/\r=(l.take hi.toNat).drop lo.toNat:=by
 unfold lsl at h;split at h
 ·rename_i h0;cases h;exact⟨h0.1,h0.2.1,h0.2.2,rfl⟩
 cases h
theorem SubR.frozen{α:Type}{r:Rp α}{a a':Option Addr}{m c m' c':Nat}{lo hi:Int}{l l2:List α}(h:SubR r.k a m c lo.toNat hi.toNat a' m' c')(hs:SlR r F a m c l)(hl:lsl l lo hi=some l2):SlR r F a' m' c' l2:=by
 obtain⟨h0,h1,h2,rfl⟩:=d8m hl;obtain⟨h3,h4,rfl,rfl,rfl⟩:=h;exact hs.part h3 (by have:=hs.1;omega)
def allF(w:World):Frz:=fun b=>w.heap[b]?
theorem c3c(w:World):Sat (allF w) w:=fun _ _ h=>h
end
section
variable{F0 F:Frz}{w0 w:World}{X:List Nat}{O:List OE}
end
section
variable{P:Program}{Q:Exit->Act->World->Prop}{n:Nat}{env:Env}{w:World}
variable{opr:Array Oper}{rest:List Oper}{d:Nat}{g:Option (Nat×Bool)}{ty:TypeId}{pos:String}{es:Array Edge}
variable{F0 F:Frz}{w0:World}{X:List Nat}{O:List OE}
end
theorem SlR.takeN{α:Type}{r:Rp α}{F:Frz}{a:Option Addr}{m c m':Nat}{l q:List α}(h:SlR r F a m c l)(hle:m'<=m)(hq:q=l.take m'):SlR r F a m' c q:=by
 subst hq;have h2:=h.part (p:=0) (q:=m') (Nat.zero_le _) (by have:=h.1;omega);simp only [Nat.zero_mul,Nat.sub_zero,List.drop_zero]at h2;have e:(if c=0 then a else a.map (·.add 0))=a:=by
  split
  ·rfl
  cases a with
  |none=>rfl
  |some ad=>simp [Addr.add]
 rwa [e]at h2
section
variable{P:Program}{Q:Exit->Act->World->Prop}{n:Nat}{env:Env}{w:World}
variable{opr:Array Oper}{rest:List Oper}{d:Nat}{g:Option (Nat×Bool)}{ty:TypeId}{pos:String}{es:Array Edge}
variable{F0 F:Frz}{w0:World}{X:List Nat}{O:List OE}
section
variable{ops:Array Oper}{S:World->Prop}{fuel fuel':Nat}{listed listed':Array Bool}
end
def FX(F:Frz)(v:Nat)(cs:List Value):Prop:=∃t z,F v=some (.cells cs.toArray t z)
theorem FX.mono{F F':Frz}{v:Nat}{cs:List Value}(hF:F.le F')(h:FX F v cs):FX F' v cs:=by
 obtain⟨t,z,h1⟩:=h;exact⟨t,z,hF _ _ h1⟩
end
def imax(x y:Int):Int:=if x<y then y else x
section
variable{P:Program}{Q:Exit->Act->World->Prop}{n:Nat}{env:Env}{w:World}
variable{opr:Array Oper}{rest:List Oper}{d:Nat}{g:Option (Nat×Bool)}{ty:TypeId}{pos:String}{es:Array Edge}
end
section
variable{P:Program}{Q:Exit->Act->World->Prop}{n:Nat}{env:Env}{w:World}{F0 F:Frz}{w0:World}{X:List Nat}{O:List OE}
variable{opr:Array Oper}{rest:List Oper}{d:Nat}{g:Option (Nat×Bool)}{ty:TypeId}{pos:String}{es:Array Edge}
end
section
variable{P:Program}{Q:Exit->Act->World->Prop}{n:Nat}{env:Env}{w:World}{ops:Array Oper}{d:Nat}{S:World->Prop}{fuel:Nat}{listed:Array Bool}{F:Frz}{O:List OE}
end
section
variable{P:Program}{Qa:Act->Prop}{n:Nat}{env:Env}{opr:Array Oper}{rest:List Oper}{d:Nat}{F0 F:Frz}{w0:World}{X:List Nat}{O:List OE}
end
def GFn(P:Program)(F:Frz)(fv:Value)(enc:Frz->List Value->Option Value->Prop):Prop:= ∃f cap,fv= .func (.func f) #[] cap/\Ent P f/\∀F',F.le F'->∀args r w,Sat F' w->enc F' args (some r)->Calls P f (args.toArray++cap) w fun e w'=>∃v F2 O',e= .returned v/\HS F' w [] F2 O' w'/\(v=r/\O'= [])
theorem GFn.mono{P:Program}{F F2:Frz}{fv:Value}{enc:Frz->List Value->Option Value->Prop}(hF:F.le F2)(h:GFn P F fv enc):GFn P F2 fv enc:=by
 obtain⟨f,cap,h1,h2,h3⟩:=h;exact⟨f,cap,h1,h2,fun F' hF'=>h3 F' (hF.trans hF')⟩
section
variable{P:Program}{Q:Exit->Act->World->Prop}{n:Nat}{env:Env}{w:World}{F0 F:Frz}{w0:World}{X:List Nat}{O:List OE}
variable{opr:Array Oper}{rest:List Oper}{d:Nat}{g:Option (Nat×Bool)}{ty:TypeId}{pos:String}{es:Array Edge}
end
end Rt
namespace Dp
open Go Go.RowKit Go.Proofs.YtjegnogjkddnbaaGreatDoor.Rt
set_option linter.unusedVariables false
inductive VT where
 |int (k:IntKind) (x:Int)
 |bool (b:Bool)
 |str (l:Bs)
 |agg (l:List VT)
 |sl (xs:List VT)
 |el (x:VT) (o:Nat)
 |clo (f:FuncId) (p l:List VT)
 |val (v:Value)
 |ifc
 |ifv (t:TypeId) (x:VT)
 deriving Inhabited
inductive DV where
 |v (x:VT)
 |lit (b:Bool)
 |nil
 |any
 |agg (l:List DV)
 |tup (l:List DV)
 |clo (f:FuncId) (p l:List DV)
 |row (i ver:Nat)
 |win (i ver lo len:Nat)
 |bp (i o:Nat)
 |rp (i ver st k o:Nat) (x:Option DV)
 |mr (i:Nat)
 deriving Inhabited
inductive Ob where
 |box (t:TypeId) (cs:List DV)
 |row (e q:Nat) (xs:List VT)
 |nest (e q:Nat) (xs:List DV)
 |mp (es:List (VT×VT))
 deriving Inhabited
structure Blk where
 ver:Nat
 st:Nat
 fz:Bool
 dr:Bool
 ap:Bool
 ob:Ob
 deriving Inhabited
abbrev DE:=List (Nat×DV)
abbrev DH:=List Blk
def nblk(o:Ob):Blk:=⟨0,0,false,false,false,o⟩
structure Ty(P:Program)where
 und:TypeId->Option TypeDesc
 agg:TypeId->Option Bool
 size:TypeId->Option Nat
 fld:TypeId->Nat->Option Nat
 fel:TypeId->Nat->Option (TypeId×Nat)
 zero:TypeId->Option Value
 bld:TypeId->Option (List (Nat×Nat))
 app:TypeId->Option (TypeId×Nat×Nat)
 gls:List (Nat×VT)
  /-- package variables that are integers nobody knows -/
 gis:List (Nat×IntKind)
  /-- rows are handed over to the function -/
 pass:FuncId->Bool
  /-- rows that come back are the caller's own -/
 own:FuncId->Bool
  /-- nothing that comes back leads to memory -/
 flat:FuncId->Bool
  /-- own rows may hold own rows -/
 nest:FuncId->Bool
  /-- functions that are reckoned at once -/
 ext:FuncId->Option (List VT->Option DV)
  /-- structs of plain fields alone -/
 eqs:TypeId->Option (List Nat)
  /-- nil slices become rows of the call's own where they may be appended to -/
 cv:Bool
  /-- functions that copy a slice -/
 cl:FuncId->Option (TypeId×Nat×Nat)
  /-- functions that work on a strings.Builder (of this type, and the type of bytes): copyCheck, String -/
 sp:FuncId->Option (Bool×TypeId×TypeId)
def lenK{α:Type}{β:Sort _}:List α->(Nat->β)->β | [],k=>k 0 |_::l,k=>lenK l fun n=>k (n+1)
def snoc{α:Type}(x:α):List α->List α | []=> [x] |y::l=>y::snoc x l
def setN{α:Type}(l:List α)(i:Nat)(x:α):List α:=match l,i with
 | [],_=> []
 |_::l,0=>x::l
 |y::l,i+1=>y::setN l i x
def getN{α:Type}(l:List α)(i:Nat):Option α:=match l,i with
 | [],_=>none
 |x::_,0=>some x
 |_::l,i+1=>getN l i
def a5c{α:Type}(l:List α)(i:Nat):List α:=match l,i with
 |l,0=>l
 | [],_+1=> []
 |_::l,i+1=>a5c l i
def takeN{α:Type}:Nat->List α->Option (List α)
 |0,_=>some []
 |_+1,[]=>none
 |m+1,x::l=>match takeN m l with
  |some r=>some (x::r)
  |none=>none
def setL{α:Type}:Nat->List α->List α->Option (List α)
 |0,[],l=>some l
 |0,_::_,[]=>none
 |0,v::vs,_::l=>match setL 0 vs l with
  |some r=>some (v::r)
  |none=>none
 |_+1,_,[]=>none
 |o+1,vs,x::l=>match setL o vs l with
  |some r=>some (x::r)
  |none=>none
def a0l{α:Type}(k:Nat):List (Nat×α)->Option α
 | []=>none
 |(j,x)::l=>match Nat.beq k j with
  |true=>some x
  |false=>a0l k l
def memN(k:Nat):List Nat->Bool
 | []=>false
 |j::l=>match Nat.beq k j with
  |true=>true
  |false=>memN k l
def posN(k:Nat):List Nat->Nat->Option Nat
 | [],_=>none
 |j::l,n=>match Nat.beq k j with
  |true=>some n
  |false=>posN k l (n+1)
mutual
def eqV:VT->VT->Bool | .int k x,.int k' y=>decide (k=k')&&x==y | .bool a,.bool b=>a==b | .str a,.str b=>a==b | .agg l,.agg r=>eqL l r |_,_=>false
def eqL:List VT->List VT->Bool | [],[]=>true |x::l,y::r=>eqV x y&&eqL l r |_,_=>false end
def e7z(k:VT):List (VT×VT)->Option VT
 | []=>none
 |(j,v)::l=>match eqV j k with
  |true=>some v
  |false=>e7z k l
def mput(k v:VT):List (VT×VT)->List (VT×VT)
 | []=> [(k,v)]
 |(j,u)::l=>match eqV j k with
  |true=>(j,v)::l
  |false=>(j,u)::mput k v l
def cellsV:VT->List VT | .agg l=>l |x=> [x]
def cellsD:DV->List DV | .agg l=>l | .v (.agg l)=>l.map .v |x=> [x]
def ofC:Value->DV
 | .int k x=> .v (.int k x)
 | .bool b=> .lit b
 | .string s=> .v (.str s.data.toList)
 | .slice none 0 0=> .nil
 | .func (.func f) fi ca=>match fi.toList,ca.toList with
   | [],[]=> .clo f [] []
   |_,_=> .v (.val (.func (.func f) fi ca))
 |v=> .v (.val v)
def ofV:Value->Option DV
 | .agg cs=>match cs.toList.all Value.oneCell' with
   |true=>some (.agg (cs.toList.map ofC))
   |false=>none
 |v=>match v.oneCell' with
  |true=>some (ofC v)
  |false=>none
def noTup:DV->Bool | .tup _=>false |_=>true
def vtC:Value->VT | .int k x=> .int k x | .bool b=> .bool b | .string s=> .str s.data.toList | .slice none 0 0=> .sl [] |v=> .val v
def vtV:Value->VT | .agg cs=> .agg (cs.toList.map vtC) |v=>vtC v
mutual
def pureD:DV->Option VT
 | .v x=>some x
 | .lit b=>some (.bool b)
 | .nil=>some (.sl [])
 | .agg l=>match pureL l with
   |some r=>some (.agg r)
   |none=>none
 | .clo f p l=>match pureL p with
   |some q=>match pureL l with
    |some r=>some (.clo f q r)
    |none=>none
   |none=>none
 |_=>none
def pureL:List DV->Option (List VT)
 | []=>some []
 |x::l=>match pureD x with
  |some y=>match pureL l with
   |some r=>some (y::r)
   |none=>none
  |none=>none
 end
mutual
def a1y(H:DH):Nat->DV->Option (VT×List Nat)
 |0,_=>none
 |_+1,.v x=>some (x,[])
 |_+1,.lit b=>some (.bool b,[])
 |_+1,.nil=>some (.sl [],[])
 |f+1,.agg l=>match a2z H f l with
  |some (r,is)=>some (.agg r,is)
  |none=>none
 |_+1,.tup _=>none
 |f+1,.clo g p l=>match a2z H f p with
  |some (q,js)=>match a2z H f l with
   |some (r,is)=>some (.clo g q r,js++is)
   |none=>none
  |none=>none
 |f+1,.row i ver=>match getN H i with
  |some ⟨v,_,_,_,_,o⟩=>match Nat.beq ver v with
   |true=>match o with
    | .row _ _ xs=>some (.sl xs,[i])
    | .nest _ _ xs=>match a2z H f xs with
      |some (r,is)=>some (.sl r,i::is)
      |none=>none
    |_=>none
   |false=>none
  |none=>none
 |f+1,.win i ver lo len=>match getN H i with
  |some ⟨v,_,_,_,_,o⟩=>match Nat.beq ver v with
   |true=>match o with
    | .row _ _ xs=>some (.sl ((xs.drop lo).take len),[i])
    | .nest _ _ xs=>match a2z H f ((xs.drop lo).take len)with
      |some (r,is)=>some (.sl r,i::is)
      |none=>none
    |_=>none
   |false=>none
  |none=>none
 |f+1,.bp i o=>match getN H i with
  |some ⟨_,_,_,_,_,.box _ cs⟩=>match a2z H f cs with
   |some (r,is)=>some (.el (.agg r) o,i::is)
   |none=>none
  |_=>none
 |f+1,.rp i ver _ k o _=>match getN H i with
  |some ⟨v,_,_,_,_,ob⟩=>match Nat.beq ver v with
   |true=>match ob with
    | .row _ _ xs=>match xs[k]? with
      |some x=>some (.el x o,[i])
      |none=>none
    | .nest _ _ xs=>match xs[k]? with
      |some x=>match a1y H f x with
       |some (r,is)=>some (.el r o,i::is)
       |none=>none
      |none=>none
    |_=>none
   |false=>none
  |none=>none
 |_+1,.mr _=>none
 |_+1,.any=>none
def a2z(H:DH):Nat->List DV->Option (List VT×List Nat)
 |0,_=>none
 |_+1,[]=>some ([],[])
 |f+1,x::l=>match a1y H f x with
  |some (y,is)=>match a2z H f l with
   |some (r,js)=>some (y::r,is++js)
   |none=>none
  |none=>none
 end
def markZ:List Nat->DH->DH
 | [],H=>H
 |i::l,H=>match getN H i with
  |some b=>markZ l (setN H i {b with fz:=true})
  |none=>markZ l H
def f1d(l:List DV):DV:= .agg l
mutual
def ptrD:DV->Bool
 | .bp _ _=>true
 | .rp _ _ _ _ _ _=>true
 | .mr _=>true
 | .agg l=>ptrL l
 | .tup l=>ptrL l
 | .clo _ p l=>match ptrL p with
   |true=>true
   |false=>ptrL l
 |_=>false
def ptrL:List DV->Bool
 | []=>false
 |x::l=>match ptrD x with
  |true=>true
  |false=>ptrL l
 end
mutual
def refD:DV->List Nat | .bp i _=> [i] | .rp i _ _ _ _ _=> [i] | .row i _=> [i] | .win i _ _ _=> [i] | .mr i=> [i] | .agg l=>refL l | .tup l=>refL l | .clo _ p l=>refL p++refL l |_=> []
def refL:List DV->List Nat | []=> [] |x::l=>refD x++refL l end
def refB:Ob->List Nat | .box _ cs=>refL cs | .nest _ _ xs=>refL xs |_=> []
def a4t(H:DH):Nat->List Nat->List Nat->Option (List Nat)
 |_,[],seen=>some seen
 |0,_::_,_=>none
 |f+1,i::w,seen=>match memN i seen with
  |true=>a4t H f w seen
  |false=>match getN H i with
   |some b=>match b.fz with
    |true=>a4t H f w (snoc i seen)
    |false=>a4t H f (refB b.ob++w) (snoc i seen)
   |none=>none
noncomputable def eqVal:Value->Value->Bool
 | .pointer none,.pointer none=>true
 | .pointer (some ⟨g,o,none⟩),.pointer (some ⟨h,p,none⟩)=>Nat.beq g h&&Nat.beq o p
 | .map none,.map none=>true
 | .chan none,.chan none=>true
 | .nilFunc,.nilFunc=>true
 | .nilIface,.nilIface=>true
 |u,v=> @decide (u=v) (Classical.propDecidable _)
mutual
noncomputable def eqT:VT->VT->Bool
 | .int k x,.int k' y=>decide (k=k')&&decide (x=y)
 | .bool a,.bool b=>decide (a=b)
 | .str a,.str b=>decide (a=b)
 | .agg l,.agg r=>eqTL l r
 | .sl l,.sl r=>eqTL l r
 | .el x o,.el y p=>eqT x y&&Nat.beq o p
 | .clo f p l,.clo f' p' l'=>decide (f=f')&&eqTL p p'&&eqTL l l'
 | .ifc,.ifc=>true
 | .val u,.val v=>eqVal u v
 | .ifv t x,.ifv u y=>Nat.beq t u&&eqT x y
 |_,_=>false
noncomputable def eqTL:List VT->List VT->Bool
 | [],[]=>true
 |x::l,y::r=>eqT x y&&eqTL l r
 |_,_=>false
 end
mutual
noncomputable def eqD:DV->DV->Bool
 | .v x,.v y=>eqT x y
 | .lit a,.lit b=>decide (a=b)
 | .nil,.nil=>true
 | .any,.any=>true
 | .agg l,.agg r=>eqDL l r
 | .tup l,.tup r=>eqDL l r
 | .clo f p l,.clo f' p' l'=>decide (f=f')&&eqDL p p'&&eqDL l l'
 | .row i v,.row j u=>Nat.beq i j&&Nat.beq v u
 | .win i v a b,.win j u c d=>Nat.beq i j&&Nat.beq v u&&Nat.beq a c&&Nat.beq b d
 | .bp i o,.bp j p=>Nat.beq i j&&Nat.beq o p
 | .mr i,.mr j=>Nat.beq i j
 | .rp i v s k o x,.rp j u r l p y=>Nat.beq i j&&Nat.beq v u&&Nat.beq s r&&Nat.beq k l&&Nat.beq o p&&eqDO x y
 |_,_=>false
noncomputable def eqDO:Option DV->Option DV->Bool
 |none,none=>true
 |some x,some y=>eqD x y
 |_,_=>false
noncomputable def eqDL:List DV->List DV->Bool
 | [],[]=>true
 |x::l,y::r=>eqD x y&&eqDL l r
 |_,_=>false
 end
mutual
def renD(H:DH)(sel:List Nat)(base:Nat):DV->DV
 | .bp i o=>match posN i sel base with
   |some j=> .bp j o
   |none=> .any
 | .rp i ver st k o x=>match getN H i,posN i sel base with
   |some b,some j=>match Nat.beq ver b.ver with
    |true=> .rp j 0 0 k o (match Nat.beq st b.st with
     |true=>renO H sel base x
     |false=>none)
    |false=> .any
   |_,_=> .any
 | .row i ver=>match getN H i,posN i sel base with
   |some b,some j=>match Nat.beq ver b.ver with
    |true=> .row j 0
    |false=> .any
   |_,_=> .any
 | .win i ver lo len=>match getN H i,posN i sel base with
   |some b,some j=>match Nat.beq ver b.ver with
    |true=> .win j 0 lo len
    |false=> .any
   |_,_=> .any
 | .mr i=>match posN i sel base with
   |some j=> .mr j
   |none=> .any
 | .agg l=> .agg (renL H sel base l)
 | .tup l=> .tup (renL H sel base l)
 | .clo f p l=> .clo f (renL H sel base p) (renL H sel base l)
 |x=>x
def renO(H:DH)(sel:List Nat)(base:Nat):Option DV->Option DV |none=>none |some x=>some (renD H sel base x)
def renL(H:DH)(sel:List Nat)(base:Nat):List DV->List DV | []=> [] |x::l=>renD H sel base x::renL H sel base l end
def renB(H:DH)(sel:List Nat)(base:Nat):Ob->Ob | .box t cs=> .box t (renL H sel base cs) | .nest e q xs=> .nest e q (renL H sel base xs) |o=>o
def renE(H:DH)(sel:List Nat)(base:Nat):DE->DE | []=> [] |(k,x)::l=>(k,renD H sel base x)::renE H sel base l
section
variable{P:Program}(T:Ty P)
def opA(env:DE):Operand->Option DV
 | .tmp t=>a0l t env
 | .const v=>ofV v
 | .func f=>some (.clo f [] [])
 | .global g=>match a0l g T.gls with
   |some x=>some (.v (.el x 0))
   |none=>some (.v (.val (.pointer (some ⟨g,0,none⟩))))
def opL(e:DE):List Operand->Option (List DV)
 | []=>some []
 |x::l=>match opA T e x with
  |some v=>match opL e l with
   |some r=>some (v::r)
   |none=>none
  |none=>none
def litOf:DV->Option Bool | .lit c=>some c |_=>none
def boolOf:DV->Option Bool | .lit c=>some c | .v (.bool b)=>some b |_=>none
def a6g(b:Bool):DV:= .v (.bool b)
def intA(op:BinOp)(k:IntKind)(x y:Int):Option DV:=
 match op with
 | .add=>some (.v (.int k (iadd k x y)))
 | .sub=>some (.v (.int k (isub k x y)))
 | .mul=>some (.v (.int k (imul k x y)))
 | .and=>some (.v (.int k (iand k x y)))
 | .or=>some (.v (.int k (ior k x y)))
 | .xor=>some (.v (.int k (ixor k x y)))
 | .eql=>some (a6g (x==y))
 | .neq=>some (a6g (x !=y))
 | .lss=>some (a6g (decide (x<y)))
 | .leq=>some (a6g (decide (x<=y)))
 | .gtr=>some (a6g (decide (y<x)))
 | .geq=>some (a6g (decide (y<=x)))
 |_=>none
def strA(op:BinOp)(a b:Bs):Option DV:=
 match op with
 | .eql=>some (a6g (a==b))
 | .neq=>some (a6g (!(a==b)))
 | .lss=>some (a6g (Op.bytesLess a b))
 | .leq=>some (a6g (Op.bytesLess a b||a==b))
 | .gtr=>some (a6g (!(Op.bytesLess a b||a==b)))
 | .geq=>some (a6g (!(Op.bytesLess a b)))
 |_=>none
def e9n(D:Option TypeDesc)(op:BinOp)(a b:Bool):Option DV:=
 match D,op with
 |some .bool,.eql=>some (a6g (a==b))
 |some .bool,.neq=>some (a6g (!(a==b)))
 |_,_=>none
def a5l(t:TypeId)(cs:List DV):Option DV:=
 match T.agg t with
 |some false=>match cs with
  |x::_=>some x
  | []=>none
 |some true=>match T.size t with
  |some m=>match takeN m cs with
   |some r=>some (f1d r)
   |none=>none
  |none=>none
 |none=>none
def c8a(env:DE)(c a b:Operand):Option DV:=match opA T env c with
 |some (.lit true)=>opA T env a
 |some (.lit false)=>opA T env b
 |_=>none
def qInt(op:BinOp)(k:IntKind)(a:Int)(k':IntKind)(b:Int):Option DV:=match decide (k'=k)with
 |true=>intA op k a b
 |false=>none
def e8e(op:BinOp)(t:TypeId)(x y:DV):Option DV:=match boolOf x,boolOf y with
 |some a,some b=>e9n (T.und t) op a b
 |_,_=>none
def e5r(op:BinOp)(t:TypeId)(x y:DV):Option DV:=match x,y with
 | .v (.int k a),.v (.int k' b)=>qInt op k a k' b
 | .v (.str a),.v (.str b)=>strA op a b
 |x,y=>e8e T op t x y
def qUnV(op:UnOp)(x:DV):Option DV:=match op,x with
 | .not,.lit b=>some (.lit (!b))
 | .not,.v (.bool b)=>some (a6g (!b))
 | .neg,.v (.int k m)=>some (.v (.int k (k.wrap (0-m))))
 |_,_=>none
def e3u(x:DV)(i:Nat):Option DV:=match x with
 | .tup l=>getN l i
 |_=>none
def c0x(x:DV)(o:Nat):Option DV:=match x with
 | .bp i p=>some (.bp i (p+o))
 | .v (.el y p)=>some (.v (.el y (p+o)))
 | .rp i ver st k p y=>some (.rp i ver st k (p+o) y)
 |_=>none
def a5e(env:DE)(t:TypeId)(x:Operand)(j:Nat):Option DV:=match T.fld t j,opA T env x with
 |some o,some x=>c0x x o
 |_,_=>none
def b4b(env:DE)(t:TypeId)(x:Operand)(j:Nat):Option DV:=match T.fel t j,opA T env x with
 |some (e,o),some (.agg l)=>a5l T e (a5c l o)
 |some (e,o),some (.v (.agg l))=>a5l T e (a5c (l.map .v) o)
 |_,_=>none
def qNilV:DV->Option DV | .bp i o=>some (.bp i o) | .v (.el y o)=>some (.v (.el y o)) | .rp i ver st k o y=>some (.rp i ver st k o y) |_=>none
def a7l(H:DH):DV->Option Nat
 | .row i ver=>match getN H i with
   |some b=>match Nat.beq ver b.ver,b.ob with
    |true,.row _ _ xs=>some xs.length
    |true,.nest _ _ xs=>some xs.length
    |_,_=>none
   |none=>none
 | .win _ _ _ n=>some n
 | .v (.sl xs)=>some xs.length
 | .nil=>some 0
 | .v (.str l)=>some l.length
 | .mr i=>match getN H i with
   |some b=>match b.ob with
    | .mp es=>some es.length
    |_=>none
   |none=>none
 |_=>none
def qMM(mx:Bool)(x y:DV):Option DV:=match x,y with
 | .v (.int k a),.v (.int k' b)=>match decide (k'=k)with
   |true=>some (.v (.int k (match mx with|true=>imax a b|false=>imin a b)))
   |false=>none
 |_,_=>none
end
section
universe u
variable{β:Sort u}
def fN(n:Nat)(k:Nat->β):β:=match n with
 |0=>k 0
 |m+1=>k (Nat.succ m)
def fB(b:Bool)(k:Bool->β):β:=match b with
 |true=>k true
 |false=>k false
theorem b8i(n:Nat)(k:Nat->β):fN n k=k n:=by cases n<;>rfl
theorem f2c(n:Bool)(k:Bool->β):fB n k=k n:=by cases n<;>rfl
mutual
def sD:DV->(DV->β)->β | .v x,k=>k (.v x) | .lit b,k=>k (.lit b) | .nil,k=>k .nil | .any,k=>k .any | .agg l,k=>sDL l fun l=>k (.agg l) | .tup l,k=>sDL l fun l=>k (.tup l) | .clo f p l,k=>sDL p fun p=>sDL l fun l=>k (.clo f p l) | .row i v,k=>fN i fun i=>fN v fun v=>k (.row i v) | .win i v a b,k=>fN i fun i=>fN v fun v=>k (.win i v a b) | .bp i o,k=>fN i fun i=>fN o fun o=>k (.bp i o) | .rp i v s j o x,k=>fN i fun i=>fN v fun v=>fN s fun s=>sDO x fun x=>k (.rp i v s j o x) | .mr i,k=>fN i fun i=>k (.mr i)
def sDO:Option DV->(Option DV->β)->β |none,k=>k none |some x,k=>sD x fun x=>k (some x)
def sDL:List DV->(List DV->β)->β | [],k=>k [] |x::l,k=>sD x fun x=>sDL l fun l=>k (x::l) end
def sOb(o:Ob)(k:Ob->β):β:=match o with
 | .box t cs=>sDL cs fun cs=>k (.box t cs)
 | .row e q xs=>fN e fun e=>fN q fun q=>k (.row e q xs)
 | .nest e q xs=>fN e fun e=>fN q fun q=>k (.nest e q xs)
 | .mp es=>k (.mp es)
def sBlk(b:Blk)(k:Blk->β):β:=match b with
 |⟨v,s,z,d,a,o⟩=>fN v fun v=>fN s fun s=>fB z fun z=>fB d fun d=>fB a fun a=>sOb o fun o=>k ⟨v,s,z,d,a,o⟩
def sH:DH->(DH->β)->β | [],k=>k [] |b::l,k=>sBlk b fun b=>sH l fun l=>k (b::l)
def sE:DE->(DE->β)->β | [],k=>k [] |(i,x)::l,k=>fN i fun i=>sD x fun x=>sE l fun l=>k ((i,x)::l)
def sN:List Nat->(List Nat->β)->β | [],k=>k [] |n::l,k=>fN n fun n=>sN l fun l=>k (n::l)
theorem sN_eq:∀(l:List Nat)(k:List Nat->β),sN l k=k l
 | [],k=>rfl
 |n::l,k=>by simp [sN,b8i,sN_eq l]
mutual
theorem sD_eq:∀(x:DV)(k:DV->β),sD x k=k x
 | .v x,k=>rfl
 | .lit b,k=>rfl
 | .nil,k=>rfl
 | .any,k=>rfl
 | .agg l,k=>by simp [sD,sDL_eq l]
 | .tup l,k=>by simp [sD,sDL_eq l]
 | .clo f p l,k=>by simp [sD,sDL_eq p,sDL_eq l]
 | .row i v,k=>by simp [sD,b8i]
 | .win i v a b,k=>by simp [sD,b8i]
 | .bp i o,k=>by simp [sD,b8i]
 | .rp i v s j o x,k=>by simp [sD,b8i,sDO_eq x]
 | .mr i,k=>by simp [sD,b8i]
theorem sDO_eq:∀(x:Option DV)(k:Option DV->β),sDO x k=k x
 |none,k=>rfl
 |some x,k=>by simp [sDO,sD_eq x]
theorem sDL_eq:∀(x:List DV)(k:List DV->β),sDL x k=k x
 | [],k=>rfl
 |x::l,k=>by simp [sDL,sD_eq x,sDL_eq l]
 end
theorem e6c(b:Blk)(k:Blk->β):sBlk b k=k b:=by
 obtain⟨v,s,z,d,a,o⟩:=b;cases o<;>simp [sBlk,sOb,b8i,f2c,sDL_eq]
theorem sH_eq:∀(H:DH)(k:DH->β),sH H k=k H
 | [],k=>rfl
 |b::l,k=>by simp [sH,e6c,sH_eq l]
theorem sE_eq:∀(e:DE)(k:DE->β),sE e k=k e
 | [],k=>rfl
 |(i,x)::l,k=>by simp [sE,b8i,sD_eq,sE_eq l]
end
set_option linter.unusedVariables false
structure FP where
 i:Nat
 ld:Bool
  /-- a new box of zeros: it may come early -/
 fr:Bool
 e:DE
 H:DH
  /-- a call that leaves the blocks alone, and what it gave -/
 rc:Option (FuncId×List VT×DV)
inductive Ctl where
 |code (c:Code)
 |ops (dw:Bool) (all:Array Oper) (i:Nat) (l:List Oper) (fp:List FP)
 |out (e:Exit)
inductive It where
 |code (c:Code)
 |blk (id:Nat)
 |scope
 |loop (body:Code) (live:List Nat)
structure St where
 ctl:Ctl
 its:List It
 env:DE
 H:DH
structure Fr where
 n:Nat
 rs:List ResultVar
 own:Bool
 nest:Bool
 pin:Nat
inductive Ask where
 |go (cm:Bool) (s:St)
 |head (s:St)
 |cond (b:Bool) (s1 s2:St)
 |ask (cm:Bool) (α:Type) (x:Option α) (k:α->St)
 |call (f:FuncId) (az:List DV) (H:DH) (k:DV->DH->Option St)
 |ret (x:DV) (H:DH)
 |stop
def disN:List Nat->List Nat->Bool
 | [],_=>true
 |i::l,r=>match memN i r with
  |true=>false
  |false=>disN l r
def opTmp:Operand->List Nat | .tmp t=> [t] |_=> []
def looks(all:Array Oper)(o:Oper):List Nat:=
 (o.op.operands.toList.flatMap opTmp)++(match o.guard with
   |some (j,_)=>match(all[j]?).bind (·.dst)with
    |some t=> [t]
    |none=> []
   |none=> [])
def bit(s k:Nat):Bool:=Nat.beq ((s>>>k) %2) 1
def befE(tab:List Nat):List Edge->Nat->Nat
 | [],s=>s
 |e::l,s=>match Region.binds .any e with
  |true=>befE tab l (s|||(1<<<e.on)|||((getN tab e.on).getD 0))
  |false=>befE tab l s
def befT:List Oper->List Nat->List Nat | [],tab=>tab |o::l,tab=>befT l (snoc (befE tab o.after.toList 0) tab)
def a5f(ops:Array Oper)(env:DE):Option (Nat×Bool)->Option Bool
 |none=>some true
 |some (j,b)=>match(ops[j]?).bind (·.dst)with
  |some t=>match a0l t env with
   |some x=>match litOf x with
    |some c=>some (c==b)
    |none=>match x with
     | .tup _=>some false
     |_=>none
   |none=>none
  |none=>none
def nilL{α:Type}:List α->Option Bool | []=>none |_::_=>some false
def c1k(x:VT):Nat:=lenK (cellsV x) id
def szOk(q:Nat)(xs:List VT):Bool:=xs.all fun x=>Nat.beq (c1k x) q
def lslQ(q:Nat)(xs:List VT)(lo hi:Int):Option (List VT):=match szOk q xs with
 |true=>lsl xs lo hi
 |false=>none
def appQ(chk:Bool)(q by':Nat)(xs ys:List VT):Option (List VT):=match chk with
 |false=>Rt.app by' xs ys
 |true=>match szOk q ys with
  |true=>Rt.app by' xs ys
  |false=>none
def rngN(len:Nat)(lo hi:Int):Option (Nat×Nat):=if 0<=lo/\lo<=hi/\hi<=len then some (lo.toNat,hi.toNat-lo.toNat)else none
def idxN(len:Nat)(i:Int):Option Nat:=if 0<=i/\i<len then some i.toNat else none
def bytesV:List VT->Option Bs
 | []=>some []
 | .int .u8 x::l=>match decide (x=(UInt8.ofNat x.toNat).toNat)with
   |true=>match bytesV l with
    |some r=>some (UInt8.ofNat x.toNat::r)
    |none=>none
   |false=>none
 |_::_=>none
def c4d(xs:List VT):Option Bs:=match bytesV xs with
 |some (c::l)=>some (c::l)
 |_=>none
def a1q(l:Bs):List VT:=l.map fun b=> .int .u8 b.toNat
def wr1{α:Type}(o:Nat)(cs:List α):Option α:=match o,cs with
 |0,[c]=>some c
 |_,_=>none
def wrV(x:VT)(o:Nat)(cs:List VT):Option VT:=match x with
 | .agg l=>match setL o cs l with
   |some l'=>some (.agg l')
   |none=>none
 |_=>wr1 o cs
def wrD(x:DV)(o:Nat)(cs:List DV):Option DV:=match x with
 | .agg l=>match setL o cs l with
   |some l'=>some (.agg l')
   |none=>none
 | .v (.agg l)=>match setL o cs (l.map .v)with
   |some l'=>some (.agg l')
   |none=>none
 |_=>wr1 o cs
def b4j(agg:Bool)(q:Nat):Nat->List DV->Option (List DV)
 |0,[]=>some []
 |0,_::_=>none
 |k+1,l=>match takeN q l with
  |some c=>match b4j agg q k (a5c l q)with
   |some r=>match agg,c with
    |true,c=>some (.agg c::r)
    |false,[x]=>some (x::r)
    |false,_=>none
   |none=>none
  |none=>none
def bndA{P:Program}(T:Ty P)(e:DE)(dflt:Int):Option Operand->Option Int
 |none=>some dflt
 |some o=>match opA T e o with
  |some (.v (.int .i64 z))=>some z
  |_=>none
structure Res where
 v:Option DV
 H:DH
 rd:List Nat
 wr:List Nat
inductive OpR where
 |val (v:DV) (rd:List Nat)
  /-- a value; the world has grown -/
 |gro (v:DV) (rd:List Nat)
 |mem (r:Res)
 |askV (α:Type) (x:Option α) (k:α->DV) (rd:List Nat)
 |askM (α:Type) (x:Option α) (k:α->Res)
 |call (f:FuncId) (az:List DV) (H:DH) (k:DV->DH->Option Res)
  /-- a call that is handed values alone -/
 |pcall (fl:Bool) (f:FuncId) (az:List VT)
 |none
def oV(x:Option DV):OpR:=match x with
 |some v=> .val v []
 |none=> .none
def oL(x:Option DV)(rd:List Nat):OpR:=match x with
 |some v=> .val v rd
 |none=> .none
def new(H:DH)(o:Ob)(rd wr:List Nat):OpR:=lenK H fun h=> .mem ⟨some (.row h 0),snoc (nblk o) H,rd,wr⟩
def newR(H:DH)(o:Ob)(rd wr:List Nat):Res:=lenK H fun h=>⟨some (.row h 0),snoc (nblk o) H,rd,wr⟩
def newB(H:DH)(o:Ob):OpR:=lenK H fun h=> .mem ⟨some (.bp h 0),snoc (nblk o) H,[],[]⟩
section
variable{P:Program}(T:Ty P)
def bldA(e:DE)(pl:List (Nat×Nat)):List (Nat×Operand)->List DV->Option (List DV)
 | [],cs=>some cs
 |(j,x)::ps,cs=>match getN pl j,opA T e x with
  |some (o,m),some v=>match noTup v,setL o (cellsD v) cs,Nat.beq (lenK (cellsD v) id) m with
   |true,some cs',true=>bldA e pl ps cs'
   |_,_,_=>none
  |_,_=>none
def bldS(e:DE)(q:Nat):List (Nat×Operand)->List DV->Option (List DV)
 | [],cs=>some cs
 |(j,x)::ps,cs=>match opA T e x with
  |some v=>match noTup v,setL (j*q) (cellsD v) cs,Nat.beq (lenK (cellsD v) id) q with
   |true,some cs',true=>bldS e q ps cs'
   |_,_,_=>none
  |none=>none
def repC:Nat->List DV |0=> [] |k+1=> .any::repC k
def frzL(H:DH)(xs:List DV):Option (List VT×DH×List Nat):=match pureL xs with
 |some r=>some (r,H,[])
 |none=>match a2z H 1000 xs with
  |some (r,is)=>some (r,markZ is H,is)
  |none=>none
def refs?(x:DV):Bool:=match refD x with
 | []=>false
 |_=>true
def a8b(b:Blk)(o:Ob):Blk:={b with st:=b.st+1,dr:=true,ob:=o}
def grown(b:Blk)(o:Ob):Blk:={b with ver:=b.ver+1,st:=b.st+1,dr:=true,ap:=true,ob:=o}
def b2c(H:DH)(i ver:Nat):Option Blk:=match getN H i with
 |some b=>match Nat.beq ver b.ver with
  |true=>some b
  |false=>none
 |none=>none
def b6s(H:DH)(i ver:Nat):Option Blk:=match b2c H i ver with
 |some b=>match b.fz with
  |true=>none
  |false=>some b
 |none=>none
def e3s(t:TypeId)(i ver st k o:Nat)(c:Option DV)(b:Blk):OpR:=match c,Nat.beq st b.st with
 |some y,true=>oL (a5l T t (a5c (cellsD y) o)) [i]
 |_,_=>match b.ob with
  | .row _ _ xs=> .askV DV ((xs[k]?).bind fun y=>a5l T t (a5c ((cellsV y).map .v) o)) (fun v=>v) [i]
  | .nest _ _ xs=> .askV DV ((xs[k]?).bind fun y=>a5l T t (a5c (cellsD y) o)) (fun v=>v) [i]
  |_=> .none
def lBox(t:TypeId)(i o:Nat):Ob->OpR | .box _ cs=>oL (a5l T t (a5c cs o)) [i] |_=> .none
def d4i(H:DH)(t:TypeId):DV->OpR
 | .bp i o=>match getN H i with
   |some b=>lBox T t i o b.ob
   |none=> .none
 | .v (.el y o)=>oV (a5l T t (a5c ((cellsV y).map .v) o))
 | .rp i ver st k o c=>match b2c H i ver with
   |some b=>e3s T t i ver st k o c b
   |none=> .none
 |_=> .none
def b4d(H:DH)(t:TypeId):OpR:=match T.zero t with
 |some z=>newB H (.box t (z.cells.toList.map ofC))
 |none=> .none
def oBox(H:DH)(t:TypeId)(y:DV):OpR:=match noTup y with
 |true=>newB H (.box t (cellsD y))
 |false=> .none
def b2y(e:DE)(t:TypeId)(ps:List (Nat×Operand)):OpR:=match T.zero t,T.bld t with
 |some z,some pl=>match bldA T e pl ps (z.cells.toList.map ofC)with
  |some l=> .val (.agg l) []
  |none=> .none
 |_,_=> .none
def dwE(dw:Bool)(ys:List VT):Bool:=match dw,ys with
 |true,_::_=>true
 |_,_=>false
def b5r(nst dw:Bool)(H:DH)(el q:Nat)(xs:List DV):OpR:=match nst&&(match pureL xs with|some _=>false|none=>true)with
 |true=>new H (.nest el q xs) [] []
 |false=>match frzL H xs with
  |some (ys,H',is)=>match dwE dw ys with
   |true=>match is with
    | []=> .gro (.v (.sl ys)) []
    |is=> .mem ⟨some (.v (.sl ys)),H',is,is⟩
   |false=>new H' (.row el q ys) is is
  |none=> .none
def a6l(nst dw:Bool)(e:DE)(H:DH)(t:TypeId)(k:Nat)(ps:List (Nat×Operand)):OpR:=match T.app t with
 |some (el,q,_)=>match T.zero el,T.agg el with
  |some z,some ag=>match bldS T e q ps (repC (k*q))with
   |some cs=>match b4j ag q k cs with
    |some xs=>match Nat.ble (k*q) 16777216,Nat.ble k maxLen with
     |true,true=>b5r nst dw H el q xs
     |_,_=> .none
    |none=> .none
   |none=> .none
  |_,_=> .none
 |none=> .none
def sBox(H:DH)(i o m:Nat)(z:DV)(b:Blk):OpR:=match b.fz,b.ob,noTup z&&Nat.beq (lenK (cellsD z) id) m with
 |false,.box t' cs,true=>match setL o (cellsD z) cs with
  |some cs'=> .mem ⟨none,setN H i {b with dr:=true,ob:= .box t' cs'},[],[i]⟩
  |none=> .none
 |_,_,_=> .none
def e5x(H':DH)(i st k o:Nat)(c:Option DV)(b:Blk)(e q:Nat)(xs:List VT)(z':VT)(is:List Nat):OpR:=match c,Nat.beq st b.st with
 |some (.v x),true=>match wrV x o (cellsV z')with
  |some x'=> .mem ⟨none,setN H' i (a8b b (.row e q (xs.set k x'))),is,i::is⟩
  |none=> .none
 |_,_=> .askM VT ((xs[k]?).bind fun x=>wrV x o (cellsV z')) fun x'=>⟨none,setN H' i (a8b b (.row e q (xs.set k x'))),is,i::is⟩
def sRow(H:DH)(i st k o m:Nat)(c:Option DV)(z:DV)(b:Blk):OpR:=match b.ob,noTup z&&Nat.beq (lenK (cellsD z) id) m with
 | .row e q xs,true=>match frzL H [z]with
   |some ([z'],H',is)=>match memN i is with
    |false=>e5x H' i st k o c b e q xs z' is
    |true=> .none
   |_=> .none
 | .nest e q xs,true=> .askM DV ((xs[k]?).bind fun x=>wrD x o (cellsD z)) fun x'=>⟨none,setN H i (a8b b (.nest e q (xs.set k x'))),[],[i]⟩
 |_,_=> .none
def c0a(H:DH)(m:Nat)(x z:DV):OpR:=match x with
 | .bp i o=>match getN H i with
   |some b=>sBox H i o m z b
   |none=> .none
 | .rp i ver st k o c=>match b6s H i ver with
   |some b=>sRow H i st k o m c z b
   |none=> .none
 |_=> .none
def b7w(y:DV)(z:Int):Option TypeDesc->OpR
 |some .string=>match y with
  | .v (.str l)=> .askV Int (sidx l z) (fun v=> .v (.int .u8 v)) []
  |_=> .none
 |some (.array n el)=>match T.size el with
  |some q=>match y with
   | .agg l=> .askV DV ((idxN n z).bind fun k=>a5l T el (a5c l (k*q))) (fun v=>v) []
   | .v (.agg l)=> .askV DV ((idxN n z).bind fun k=>a5l T el (a5c (l.map .v) (k*q))) (fun v=>v) []
   |_=> .none
  |none=> .none
 |_=> .none
def elQ(q:Nat)(v:VT):DV:=match Nat.beq (c1k v) q with
 |true=> .v (.el v 0)
 |false=> .any
def e3h(i ver q:Nat)(z:Int)(b:Blk):OpR:=match b.ob with
 | .row _ q' xs=>match Nat.beq q q' with
   |true=> .askV VT (ix xs z) (fun v=> .rp i ver b.st z.toNat 0 (some (.v v))) [i]
   |false=> .none
 | .nest _ q' xs=>match Nat.beq q q' with
   |true=> .askV DV (ix xs z) (fun v=> .rp i ver b.st z.toNat 0 (some v)) [i]
   |false=> .none
 |_=> .none
def e6y(i ver q lo n:Nat)(z:Int)(b:Blk):OpR:=match b.ob with
 | .row _ q' xs=>match Nat.beq q q' with
   |true=> .askV VT ((idxN n z).bind fun k=>xs[lo+k]?) (fun v=> .rp i ver b.st (lo+z.toNat) 0 (some (.v v))) [i]
   |false=> .none
 | .nest _ q' xs=>match Nat.beq q q' with
   |true=> .askV DV ((idxN n z).bind fun k=>xs[lo+k]?) (fun v=> .rp i ver b.st (lo+z.toNat) 0 (some v)) [i]
   |false=> .none
 |_=> .none
def e3k(y:DV)(z:Int)(n q:Nat):OpR:=match y with
 | .bp i o=> .askV Nat (idxN n z) (fun k=> .bp i (o+k*q)) []
 | .v (.el y o)=> .askV Nat (idxN n z) (fun k=> .v (.el y (o+k*q))) []
 | .rp i ver st k o c=> .askV Nat (idxN n z) (fun j=> .rp i ver st k (o+j*q) c) []
 |_=> .none
def ixSl(H:DH)(y:DV)(z:Int)(q:Nat):OpR:=match y with
 | .v (.sl xs)=> .askV VT (ix xs z) (elQ q) []
 | .row i ver=>match b2c H i ver with
   |some b=>e3h i ver q z b
   |none=> .none
 | .win i ver lo n=>match b2c H i ver with
   |some b=>e6y i ver q lo n z b
   |none=> .none
 |_=> .none
def a4s(H:DH)(y:DV)(z:Int):Option TypeDesc->OpR
 |some (.slice el)=>match T.size el with
  |some q=>ixSl H y z q
  |none=> .none
 |some (.array n el)=>match T.size el with
  |some q=>e3k y z n q
  |none=> .none
 |_=> .none
def c9h(H:DH)(x:DV)(n:Nat)(a b:Int):Option TypeDesc->OpR
 |some .string=>match x with
  | .v (.str l)=> .askV Bs (ssl l a b) (fun v=> .v (.str v)) []
  |_=> .none
 |some (.slice el)=>match T.size el with
  |some q=>match x with
   | .v (.sl xs)=> .askV (List VT) (lslQ q xs a b) (fun v=> .v (.sl v)) []
   | .row i ver=>match b2c H i ver with
     |some bk=>match bk.ob with
      | .row _ q' _=>match Nat.beq q q' with
        |true=> .askV (Nat×Nat) (rngN n a b) (fun p=> .win i ver p.1 p.2) [i]
        |false=> .none
      | .nest _ q' _=>match Nat.beq q q' with
        |true=> .askV (Nat×Nat) (rngN n a b) (fun p=> .win i ver p.1 p.2) [i]
        |false=> .none
      |_=> .none
     |none=> .none
   | .nil=> .askV (Nat×Nat) (rngN 0 a b) (fun _=> .nil) []
   |_=> .none
  |none=> .none
 |_=> .none
def b0g(e:DE)(H:DH)(t:TypeId)(x:DV)(lo hi:Option Operand):OpR:=match bndA T e 0 lo,a7l H x with
 |some a,some n=>match bndA T e n hi with
  |some b=>c9h T H x n a b (T.und t)
  |none=> .none
 |_,_=> .none
def c6i(op:BinOp)(k:IntKind)(a:Int)(k':IntKind)(b:Int):OpR:=match op with
 | .shl=> .askV Int (shl k a b) (fun v=> .v (.int k v)) []
 | .shr=> .askV Int (shr k a b) (fun v=> .v (.int k v)) []
 | .quo=>match decide (k'=k)with
   |true=> .askV Int (quo k a b) (fun v=> .v (.int k v)) []
   |false=> .none
 | .rem=>match decide (k'=k)with
   |true=> .askV Int (rem a b) (fun v=> .v (.int k v)) []
   |false=> .none
 |_=> .none
def e4b(H:DH):DV->Option (Option Bool)
 | .nil=>some (some true)
 | .v (.sl xs)=>some (nilL xs)
 | .row i ver=>match b2c H i ver with
   |some b=>match b.ob with
    | .row _ _ xs=>some (nilL xs)
    | .nest _ _ xs=>some (nilL xs)
    |_=>none
   |none=>none
 |_=>none
def nilPt:DV->Option Bool | .bp _ _=>some false | .rp _ _ _ _ _ _=>some false | .v (.el _ _)=>some false | .v (.val (.pointer none))=>some true |_=>none
def isNilPt:DV->Bool | .v (.val (.pointer none))=>true |_=>false
def nilIf:DV->Option Bool | .v .ifc=>some false | .v (.ifv _ _)=>some false | .v (.val .nilIface)=>some true |_=>none
def isNilIf:DV->Bool | .v (.val .nilIface)=>true |_=>false
def isNilSl:DV->Bool | .nil=>true |_=>false
def b3b(op:BinOp)(q:Option Bool)(rd:List Nat):OpR:=match op with
 | .eql=> .askV Bool q (fun v=> .lit v) rd
 | .neq=> .askV Bool q (fun v=> .lit (!v)) rd
 |_=> .none
def cstO:Operand->Bool | .const _=>true |_=>false
def d5h(H:DH)(cst:Bool)(op:BinOp)(a b:DV):Option TypeDesc->OpR
 |some (.slice _)=>match isNilSl b,e4b H a with
  |true,some q=>b3b op q (refD a)
  |_,_=> .none
 |some (.pointer _)=>match isNilPt b,nilPt a with
  |true,some q=>b3b op (some q) []
  |_,_=> .none
 |some (.interface _)=>match cst&&isNilIf b,nilIf a with
  |true,some q=>b3b op (some q) []
  |_,_=> .none
 |_=> .none
def oBin(H:DH)(cst:Bool)(op:BinOp)(t:TypeId)(a b:DV):OpR:=match e5r T op t a b with
 |some v=> .val v []
 |none=>match a,b with
  | .v (.int k x),.v (.int k' y)=>c6i op k x k' y
  | .v (.str x),.v (.str y)=>match op with
    | .add=> .askV Bs (scat x y) (fun v=> .v (.str v)) []
    |_=> .none
  |a,b=>d5h H cst op a b (T.und t)
def e9w(x:DV)(s d:TypeDesc):OpR:=match d with
 | .int j=>match x with
   | .v (.int _ m)=> .val (.v (.int j (j.wrap m))) []
   |_=> .none
 |_=> .none
def d6g(H:DH)(n:Int):Option (TypeId×Nat×Nat)->OpR
 |some (el,q,by')=>match T.zero el,Nat.blt 0 q&&Nat.blt 0 by' with
  |some z,true=> .askM (List VT) (mks by' (vtV z) n) fun xs=>newR H (.row el q xs) [] []
  |_,_=> .none
 |none=> .none
structure Src where
 ys:List VT
 zs:List DV
 rd:List Nat
 chk:Bool
def b9f(el q j:Nat):Ob->Option Src
 | .nest el' q' ys=>match Nat.beq el el',Nat.beq q q' with
   |true,true=>some ⟨[],ys,[j],false⟩
   |_,_=>none
 | .row el' q' ys=>match Nat.beq el el',Nat.beq q q' with
   |true,true=>some ⟨ys,[],[j],false⟩
   |_,_=>none
 |_=>none
def d2a(el q j lo len:Nat):Ob->Option Src
 | .row el' q' ys=>match Nat.beq el el',Nat.beq q q' with
   |true,true=>some ⟨(ys.drop lo).take len,[],[j],false⟩
   |_,_=>none
 |_=>none
def b0f(H:DH)(el q:Nat)(y:DV):Option Src:=match y with
 | .row j vj=>match b2c H j vj with
   |some b=>b9f el q j b.ob
   |none=>none
 | .win j vj lo len=>match b2c H j vj with
   |some b=>d2a el q j lo len b.ob
   |none=>none
 | .v (.sl ys)=>some ⟨ys,[],[],true⟩
 | .nil=>some ⟨[],[],[],false⟩
 |_=>none
def e1r(H:DH)(el q by':Nat)(i:Nat)(b:Blk)(xs:List VT)(s:Src):OpR:=
 .askM (List VT) (appQ s.chk q by' xs s.ys) fun zs=>⟨some (.row i (b.ver+1)),setN H i (grown b (.row el q zs)),i::s.rd,[i]⟩
def c8n(H:DH)(el q by':Nat)(i:Nat)(b:Blk)(xs ys:List DV)(is:List Nat):OpR:=
 .askM (List DV) (Rt.app by' xs ys) fun zs=>⟨some (.row i (b.ver+1)),setN H i (grown b (.nest el q zs)),i::is,[i]⟩
def e5c(nst:Bool)(H:DH)(el q by':Nat)(s:Src):OpR:=match s.zs with
 | []=> .askM (List VT) (appQ s.chk q by' [] s.ys) fun zs=>newR H (.row el q zs) s.rd []
 |ys=>match nst with
  |true=> .askM (List DV) (Rt.app by' [] ys) fun zs=>newR H (.nest el q zs) s.rd []
  |false=> .none
def e1q(nst:Bool)(H:DH)(el q by':Nat)(i:Nat)(s:Src)(b:Blk):OpR:=match b.ob with
 | .row el' q' xs=>match Nat.beq el el'&&Nat.beq q q',s.zs with
   |true,[]=>e1r H el q by' i b xs s
   |true,ys=>match nst with
    |true=>c8n H el q by' i b (xs.map .v) ys s.rd
    |false=> .none
   |_,_=> .none
 | .nest el' q' xs=>match Nat.beq el el'&&Nat.beq q q'&& !s.chk,s.zs with
   |true,[]=>c8n H el q by' i b xs (s.ys.map .v) s.rd
   |true,ys=>c8n H el q by' i b xs ys s.rd
   |_,_=> .none
 |_=> .none
def e1s(H:DH)(el q by':Nat)(i n:Nat)(s:Src)(b:Blk):OpR:=match b.ob with
 | .row el' q' xs=>match Nat.beq el el'&&Nat.beq q q',s.zs with
   |true,[]=>e1r H el q by' i b (xs.take n) s
   |_,_=> .none
 |_=> .none
def apTo(nst:Bool)(H:DH)(el q by':Nat)(x:DV)(s:Src):OpR:=match x with
 | .nil=>e5c nst H el q by' s
 | .row i ver=>match b6s H i ver with
   |some b=>e1q nst H el q by' i s b
   |none=> .none
 | .win i ver 0 n=>match b6s H i ver with
   |some b=>e1s H el q by' i n s b
   |none=> .none
 |_=> .none
def a9n(nst:Bool)(H:DH)(x y:DV):Option (TypeId×Nat×Nat)->OpR
 |some (el,q,by')=>match Nat.blt 0 q&&Nat.blt 0 by',b0f H el q y with
  |true,some s=>apTo nst H el q by' x s
  |_,_=> .none
 |none=> .none
def chkU(chk:Bool)(q:Nat)(ys:List VT):Option Unit:=match chk with
 |false=>some ()
 |true=>match szOk q ys with
  |true=>some ()
  |false=>none
def b8c(H:DH)(i lo n el q:Nat)(xs:List VT)(b:Blk):Option Src->OpR
 |some s=>match s.zs with
  | []=> .askM Unit (chkU s.chk q s.ys) fun _=>⟨some (.v (.int .i64 (min n s.ys.length:Nat))),setN H i (a8b b (.row el q (xs.take lo++s.ys.take n++xs.drop (lo+min n s.ys.length)))),i::s.rd,[i]⟩
  |_=> .none
 |none=> .none
def c7h(H:DH)(q0 i lo n:Nat)(y:DV)(b:Blk):OpR:=match b.ob with
 | .row el q xs=>match Nat.beq q0 q&&Nat.ble (lo+n) xs.length with
   |true=>b8c H i lo n el q xs b (b0f H el q y)
   |false=> .none
 |_=> .none
def d2l(H:DH)(q0:Nat)(x y:DV):OpR:=match x with
 | .row i ver=>match b6s H i ver,a7l H (.row i ver)with
   |some b,some n=>c7h H q0 i 0 n y b
   |_,_=> .none
 | .win i ver lo n=>match b6s H i ver with
   |some b=>c7h H q0 i lo n y b
   |none=> .none
 |_=> .none
def oPut(H:DH)(m k v:DV):OpR:=match m,pureD k with
 | .mr i,some k=>match getN H i,frzL H [v]with
   |some b,some ([v],H',is)=>match b.fz,b.ob with
    |false,.mp es=> .mem ⟨none,setN H' i (a8b b (.mp (mput k v es))),i::is,i::is⟩
    |_,_=> .none
   |_,_=> .none
 |_,_=> .none
def oLook(H:DH)(ok:Bool)(m k:DV):Option TypeDesc->OpR
 |some (.map _ el)=>match m,pureD k,T.zero el with
  | .mr i,some k,some z=>match getN H i with
    |some b=>match b.ob with
     | .mp es=> .askV (VT×Bool) (some (match e7z k es with|some v=>(v,true)|none=>(vtV z,false))) (fun p=>match ok with|true=> .tup [.v p.1,.v (.bool p.2)]|false=> .v p.1) [i]
     |_=> .none
    |none=> .none
  |_,_,_=> .none
 |some .string=>match m,k with
  | .v (.str l),.v (.int _ z)=> .askV Int (sidx l z) (fun v=> .v (.int .u8 v)) []
  |_,_=> .none
 |_=> .none
def on1(e:DE)(x:Operand)(f:DV->OpR):OpR:=match opA T e x with
 |some a=>f a
 |none=> .none
def on2(e:DE)(x y:Operand)(f:DV->DV->OpR):OpR:=match opA T e x,opA T e y with
 |some a,some b=>f a b
 |_,_=> .none
def onI(x:DV)(f:Int->OpR):OpR:=match x with
 | .v (.int _ z)=>f z
 |_=> .none
def sameO:Operand->Operand->Bool | .tmp s,.tmp t=>Nat.beq s t | .const (.int k x),.const (.int k' y)=>decide (k=k')&&decide (x=y) |_,_=>false
def onS(b:Bool)(r:OpR):OpR:=match b with
 |true=>r
 |false=> .none
def e0v(x:DV):Option TypeDesc->Option TypeDesc->OpR |some s,some d=>e9w x s d |_,_=> .none
def d4q(H:DH)(x y:DV):Option Nat->OpR |some m=>c0a H m x y |none=> .none
def oFn(e:DE)(fn:Fn)(fi caps:List Operand):OpR:=match fn,opL T e fi,opL T e caps with
 | .func f,some p,some l=> .val (.clo f p l) []
 |_,_,_=> .none
def f1f(nst:Bool)(H:DH)(x y:DV):List TypeId->OpR
 | [t1,t2]=>match Nat.beq t1 t2 with
   |true=>a9n nst H x y (T.app t1)
   |false=> .none
 |_=> .none
def e6t(H:DH)(x:DV):OpR:=match x with
 | .v (.str _)=> .none
 | .mr _=> .none
 |x=>match a7l H x with
  |some n=> .val (.v (.int .i64 n)) (refD x)
  |none=> .none
def oLen(H:DH)(x:DV):Option TypeDesc->OpR
 |some .string=>match x with
  | .v (.str l)=> .val (.v (.int .i64 l.length)) []
  |_=> .none
 |some (.slice _)=>e6t H x
 |_=> .none
def f1x(H:DH)(x:DV):List TypeId->OpR | [t]=>oLen H x (T.und t) |_=> .none
def oBI(nst:Bool)(e:DE)(H:DH)(ty:TypeId)(b:Builtin)(ts:List TypeId)(l:List DV):OpR:=match b,l with
 | .len,[x]=>f1x T H x ts
 | .min,[x,y]=>oV (qMM false x y)
 | .max,[x,y]=>oV (qMM true x y)
 | .append,[x,y]=>f1f T nst H x y ts
 |_,_=> .none
def a9i(nst:Bool)(e:DE)(H:DH)(ty:TypeId)(b:Builtin)(ts:List TypeId):Option (List DV)->OpR |some l=>oBI T nst e H ty b ts l |none=> .none
def opR(nst dw:Bool)(e:DE)(H:DH)(ty:TypeId):Op->OpR | .move x=>oV (opA T e x) | .assign x=>oV (opA T e x) | .pick c a b=>oV (c8a T e c a b) | .alloc t=>b4d T H t | .box t x=>on1 T e x fun y=>oBox H t y | .build t ps=>b2y T e t ps.toList | .buildSlice t k ps=>a6l T nst dw e H t k ps.toList | .load t x=>on1 T e x fun x=>d4i T H t x | .store t x y=>on2 T e x y fun x y=>d4q H x y (T.size t) | .nilCheck x=>on1 T e x fun x=>oV (qNilV x) | .binOp op t x y _=>on2 T e x y fun a b=>oBin T H (cstO y) op t a b | .unOp op _ x=>on1 T e x fun x=>oV (qUnV op x) | .convert s t x=>on1 T e x fun x=>e0v x (T.und s) (T.und t) | .makeFunc fn tys caps=>oFn T e fn tys.toList caps.toList | .makeSlice t x y=>onS (sameO x y) (on1 T e x fun x=>onI x fun n=>d6g T H n (T.app t)) | .slice t x lo hi none=>on1 T e x fun x=>b0g T e H t x lo hi | .fieldAddr t x j=>oV (a5e T e t x j) | .field t x j=>oV (b4b T e t x j) | .indexAddr t x y=>on2 T e x y fun x y=>onI y fun z=>a4s T H x z (T.und t) | .index t x y=>on2 T e x y fun x y=>onI y fun z=>b7w T x z (T.und t) | .extract x i=>on1 T e x fun x=>oV (e3u x i) | .call ⟨.builtin b,args,ts⟩=>a9i T nst e H ty b ts.toList (opL T e args.toList) |_=> .none
def plainV:VT->Bool | .int _ _=>true | .bool _=>true | .str _=>true |_=>false
def unI(k:IntKind):List (VT×VT)->Option (List (Int×VT))
 | []=>some []
 |(j,v)::l=>match j with
  | .int k' x=>match decide (k'=k),plainV v with
    |true,true=>match unI k l with
     |some r=>some ((x,v)::r)
     |none=>none
    |_,_=>none
  |_=>none
def unS:List (VT×VT)->Option (List (Bs×VT))
 | []=>some []
 |(j,v)::l=>match j with
  | .str x=>match plainV v with
    |true=>match unS l with
     |some r=>some ((x,v)::r)
     |none=>none
    |_=>none
  |_=>none
def putI(k:IntKind)(x:Int)(v:VT)(es:List (VT×VT)):Option (List (VT×VT)):=match unI k es with
 |some l=>some ((Rt.mput l x v).map fun p=>(.int k p.1,p.2))
 |none=>none
def putS(x:Bs)(v:VT)(es:List (VT×VT)):Option (List (VT×VT)):=match unS es with
 |some l=>some ((Rt.mput l x v).map fun p=>(.str p.1,p.2))
 |none=>none
def c2w(H:DH):OpR:=lenK H fun h=> .mem ⟨some (.mr h),snoc (nblk (.mp [])) H,[],[]⟩
def mpOf(H:DH)(i:Nat):Option (List (VT×VT)):=match getN H i with
 |some b=>match b.ob with
  | .mp es=>some es
  |_=>none
 |none=>none
def c7r(H:DH)(i:Nat):Option (List (VT×VT))->OpR
 |some es=>match getN H i with
  |some b=>match b.fz with
   |false=> .mem ⟨none,setN H i (a8b b (.mp es)),[i],[i]⟩
   |true=> .none
  |none=> .none
 |none=> .none
def e1i(H:DH)(i:Nat)(key v:VT)(es:List (VT×VT)):Option TypeDesc->OpR
 |some (.int k)=>match key with
  | .int k' x=>match decide (k'=k)with
    |true=>c7r H i (putI k x v es)
    |false=> .none
  |_=> .none
 |some .string=>match key with
  | .str x=>c7r H i (putS x v es)
  |_=> .none
 |_=> .none
def c7k(H:DH)(m key v:DV):Option TypeDesc->OpR
 |some (.map kt _)=>match m,pureD key,pureD v with
  | .mr i,some key,some v=>match plainV v,mpOf H i with
    |true,some es=>e1i H i key v es (T.und kt)
    |_,_=> .none
  |_,_,_=> .none
 |_=> .none
def a6c(z:Value)(i:Nat)(q:Option VT):OpR:=match q with
 |some v=> .val (.tup [.v v,.v (.bool true)]) [i]
 |none=>match plainV (vtC z)with
  |true=> .val (.tup [.v (vtC z),.v (.bool false)]) [i]
  |false=> .none
def f0l(z:Value)(i:Nat)(x:Int):Option (List (Int×VT))->OpR |some l=>a6c z i (Rt.mget l x) |none=> .none
def e8g(z:Value)(i:Nat)(x:Bs):Option (List (Bs×VT))->OpR |some l=>a6c z i (Rt.mget l x) |none=> .none
def e0d(z:Value)(i:Nat)(key:VT)(es:List (VT×VT)):Option TypeDesc->OpR
 |some (.int k)=>match key with
  | .int k' x=>match decide (k'=k)with
    |true=>f0l z i x (unI k es)
    |false=> .none
  |_=> .none
 |some .string=>match key with
  | .str x=>e8g z i x (unS es)
  |_=> .none
 |_=> .none
def d0r(H:DH)(m key:DV):Option TypeDesc->OpR
 |some (.map kt et)=>match m,pureD key with
  | .mr i,some key=>match mpOf H i,T.zero et with
    |some es,some z=>e0d z i key es (T.und kt)
    |_,_=> .none
  |_,_=> .none
 |_=> .none
def isIfc:Option TypeDesc->Option Bool |some (.interface _)=>some true |some _=>some false |none=>none
def d3m(H:DH)(t:TypeId)(x:DV):OpR:=match isIfc (T.und t),a1y H 1000 x with
 |some false,some (y,is)=>match is with
  | []=> .val (.v (.ifv t y)) []
  |is=> .mem ⟨some (.v (.ifv t y)),markZ is H,is,is⟩
 |_,_=> .none
def taNo(ok:Bool)(z:Option Value):OpR:=match ok,z.bind ofV with
 |true,some d=> .val (.tup [d,.v (.bool false)]) []
 |_,_=> .none
def c0u(t:TypeId)(ok:Bool)(x:DV):OpR:=match isIfc (T.und t)with
 |some false=>match x with
  | .v (.val .nilIface)=>taNo ok (T.zero t)
  | .v (.ifv u y)=>match Nat.beq u t with
    |true=> .val (match ok with|true=> .tup [.v y,.v (.bool true)]|false=> .v y) []
    |false=>taNo ok (T.zero t)
  |_=> .none
 |_=> .none
def on3(e:DE)(x y z:Operand)(f:DV->DV->DV->OpR):OpR:=match opA T e x,opA T e y,opA T e z with
 |some a,some b,some c=>f a b c
 |_,_,_=> .none
def valV:VT->Value | .int k x=> .int k x | .bool b=> .bool b | .str l=>vs l |_=> .nilFunc
def sameK:Nat->VT->VT->Option Bool
 |0,.int k x,.int k' y=>match decide (k=k')with
  |true=>some (x==y)
  |false=>none
 |1,.bool a,.bool b=>some (a==b)
 |2,.str a,.str b=>some (a==b)
 |_,_,_=>none
def sameKs:List Nat->List VT->List VT->Option Bool
 | [],[],[]=>some true
 |c::cs,x::l,y::r=>match sameK c x y with
  |some b=>match sameKs cs l r with
   |some c=>some (b&&c)
   |none=>none
  |none=>none
 |_,_,_=>none
def f0f(op:BinOp):Option Bool->OpR
 |some b=>match op with
  | .eql=> .val (a6g b) []
  | .neq=> .val (a6g (!b)) []
  |_=> .none
 |none=> .none
def oEqS(ks:List Nat)(op:BinOp)(a b:DV):OpR:=match pureD a,pureD b with
 |some (.agg x),some (.agg y)=>f0f op (sameKs ks x y)
 |_,_=> .none
def e6j(e:DE)(op:BinOp)(x y:Operand):Option (List Nat)->Option OpR |some ks=>some (on2 T e x y fun a b=>oEqS ks op a b) |none=>none
def c4f(H:DH)(ts:List TypeId)(l:Option (List DV)):OpR:=match ts,l with
 | [t,_],some [x,y]=>match T.app t with
   |some (_,q,_)=>d2l H q x y
   |none=> .none
 |_,_=> .none
def d8v(l:Bs):Option Bs:=match Nat.ble l.length 140737488355328 with
 |true=>some l
 |false=>none
def oToB(H:DH)(x:DV):OpR:=match x with
 | .v (.str l)=> .askM Bs (d8v l) fun l=>⟨some (.v (.sl (a1q l))),H,[],[]⟩
 |_=> .none
def oToS(H:DH)(el:TypeId)(x:DV):OpR:=match x with
 | .row j vj=>match b2c H j vj with
   |some b=>match b9f el 1 j b.ob with
    |some s=>match s.zs with
     | []=> .askV Bs (bytesV s.ys) (fun l=> .v (.str l)) s.rd
     |_=> .none
    |none=> .none
   |none=> .none
 |_=> .none
def d2d(e:DE)(H:DH)(s t:TypeId)(x:Operand):Option OpR:=match T.und s,T.und t with
 |some .string,some (.slice el)=>match T.und el with
  |some (.int .u8)=>some (on1 T e x fun x=>oToB H x)
  |_=>none
 |some (.slice el),some .string=>match T.und el with
  |some (.int .u8)=>some (on1 T e x fun x=>oToS H el x)
  |_=>none
 |_,_=>none
def e0o(H:DH)(el:TypeId)(i:Nat)(s:Bs)(b:Blk):OpR:=match b.ob with
 | .row el' q' xs=>match Nat.beq el el'&&Nat.beq q' 1 with
   |true=>e1r H el 1 1 i b xs ⟨a1q s,[],[],false⟩
   |false=> .none
 |_=> .none
def isByte:Option Value->Bool |some (.int .u8 z)=>decide (z=0) |_=>false
def e0f(H:DH)(el q by':Nat)(z:Option Value)(l:Option (List DV)):OpR:=match Nat.beq q 1&&Nat.beq by' 1&&isByte z,l with
 |true,some [.row i ver,.v (.str s)]=>match b6s H i ver with
  |some b=>e0o H el i s b
  |none=> .none
 |_,_=> .none
def e9k(H:DH)(t:TypeId)(l:Option (List DV)):OpR:=match T.app t with
 |some (el,q,by')=>e0f H el q by' (T.zero el) l
 |none=> .none
def e2f(H:DH)(ts:List TypeId)(l:Option (List DV)):Option OpR:=match ts with
 | [t,u]=>match T.und u with
   |some .string=>some (e9k T H t l)
   |_=>none
 |_=>none
def opX(e:DE)(H:DH):Op->Option OpR | .makeMap t none=>some (c2w H) | .insert t m k v=>some (on3 T e m k v fun m k v=>c7k T H m k v (T.und t)) | .mapUpdate t m k v=>some (on3 T e m k v fun m k v=>c7k T H m k v (T.und t)) | .lookup t m k true=>some (on2 T e m k fun m k=>d0r T H m k (T.und t)) | .call ⟨.builtin .copy,args,ts⟩=>some (c4f T H ts.toList (opL T e args.toList)) | .call ⟨.builtin .append,args,ts⟩=>e2f T H ts.toList (opL T e args.toList) | .binOp op t x y _=>e6j T e op x y (T.eqs t) | .makeInterface t x=>some (on1 T e x fun x=>d3m T H t x) | .typeAssert x s t ok=>some (on1 T e x fun x=>c0u T t ok x) | .convert s t x=>d2d T e H s t x |_=>none
end
set_option linter.unusedVariables false
mutual
def shD(k:Nat):DV->DV | .bp i o=> .bp (k+i) o | .rp i ver st j o x=> .rp (k+i) ver st j o (shO k x) | .row i ver=> .row (k+i) ver | .win i ver lo len=> .win (k+i) ver lo len | .mr i=> .mr (k+i) | .agg l=> .agg (shL k l) | .tup l=> .tup (shL k l) | .clo f p l=> .clo f (shL k p) (shL k l) |x=>x
def shO(k:Nat):Option DV->Option DV |none=>none |some x=>some (shD k x)
def shL(k:Nat):List DV->List DV | []=> [] |x::l=>shD k x::shL k l end
def shOb(k:Nat):Ob->Ob | .box t cs=> .box t (shL k cs) | .nest e q xs=> .nest e q (shL k xs) |o=>o
def shB(k:Nat)(b:Blk):Blk:={b with ob:=shOb k b.ob}
def bkI(sel:List Nat)(m h i:Nat):Option Nat:=match Nat.blt i m with
 |true=>getN sel i
 |false=>some (h+(i-m))
def verN(H:DH)(i:Nat):Nat:=match getN H i with
 |some b=>b.ver
 |none=>0
def stN(H:DH)(i:Nat):Nat:=match getN H i with
 |some b=>b.st
 |none=>0
mutual
def bkD(H:DH)(sel:List Nat)(m h:Nat):DV->DV
 | .bp i o=>match bkI sel m h i with
   |some j=> .bp j o
   |none=> .any
 | .rp i _ _ k o x=>match bkI sel m h i with
   |some j=> .rp j (verN H j) (stN H j) k o (bkO H sel m h x)
   |none=> .any
 | .row i _=>match bkI sel m h i with
   |some j=> .row j (verN H j)
   |none=> .any
 | .win i _ lo len=>match bkI sel m h i with
   |some j=> .win j (verN H j) lo len
   |none=> .any
 | .mr i=>match bkI sel m h i with
   |some j=> .mr j
   |none=> .any
 | .agg l=> .agg (bkL H sel m h l)
 | .tup l=> .tup (bkL H sel m h l)
 | .clo f p l=> .clo f (bkL H sel m h p) (bkL H sel m h l)
 |x=>x
def bkO(H:DH)(sel:List Nat)(m h:Nat):Option DV->Option DV |none=>none |some x=>some (bkD H sel m h x)
def bkL(H:DH)(sel:List Nat)(m h:Nat):List DV->List DV | []=> [] |x::l=>bkD H sel m h x::bkL H sel m h l end
def bkOb(H:DH)(sel:List Nat)(m h:Nat):Ob->Ob | .box t cs=> .box t (bkL H sel m h cs) | .nest e q xs=> .nest e q (bkL H sel m h xs) |o=>o
mutual
def unlit:DV->DV | .lit b=> .v (.bool b) | .agg l=> .agg (unlitL l) | .tup l=> .tup (unlitL l) |x=>x
def unlitL:List DV->List DV | []=> [] |x::l=>unlit x::unlitL l end
def allZ(H:DH):List Nat->Bool
 | []=>true
 |i::l=>match getN H i with
  |some b=>match b.fz with
   |true=>allZ H l
   |false=>false
  |none=>false
def e7w(H:DH)(x:DV):Option (VT×List Nat)->DV
 |some (y,is)=>match allZ H is with
  |true=> .v y
  |false=>x
 |none=>x
def thaw(H:DH)(i:Nat)(x:DV):DV:=match getN H i with
 |some b=>match b.fz with
  |true=>e7w H x (a1y H 1000 x)
  |false=>x
 |none=>x
mutual
def b7c(H:DH):DV->DV | .lit b=> .v (.bool b) | .agg l=> .agg (c0k H l) | .tup l=> .tup (c0k H l) | .clo f p l=> .clo f (c0k H p) (c0k H l) | .row i v=>thaw H i (.row i v) | .win i v a b=>thaw H i (.win i v a b) | .bp i o=>thaw H i (.bp i o) | .rp i v s k o x=>thaw H i (.rp i v s k o x) |x=>x
def c0k(H:DH):List DV->List DV | []=> [] |x::l=>b7c H x::c0k H l end
def d6m(H:DH):DE->DE | []=> [] |(k,x)::l=>(k,b7c H x)::d6m H l
def c0f(H:DH):Ob->Ob | .box t cs=> .box t (c0k H cs) |o=>o
def b8v(H:DH):DH->DH
 | []=> []
 |b::l=>{b with ob:=c0f H b.ob}::b8v H l
def refE:DE->List Nat | []=> [] |(_,x)::l=>refD x++refE l
def refH:DH->Nat->List Nat
 |_,0=> []
 | [],_=> []
 |b::l,k+1=>(match b.fz with
  |true=> []
  |false=>refB b.ob)++refH l k
def rng:Nat->Nat->List Nat |_,0=> [] |i,k+1=>i::rng (i+1) k
def selH(H:DH)(sel:List Nat):List Nat->DH
 | []=> []
 |i::l=>match getN H i with
  |some b=>{b with ver:=0,st:=0,ob:=renB H sel 0 b.ob}::selH H sel l
  |none=>selH H sel l
def clean:DH->DH
 | []=> []
 |b::l=>{b with dr:=false,ap:=false}::clean l
mutual
def occ:Code->Nat->Nat | .region _ ops _,s=>occO ops.toList s | .seq a b,s=>occ b (occ a s) | .cond c a b,s=>occ b (occ a (occT (opTmp c) s)) | .block _ c,s=>occ c s | .loop c,s=>occ c s | .rangeFunc f _ a b,s=>occ b (occ a (occT (opTmp f) s)) | .scope c,s=>occ c s |_,s=>s
def occO:List Oper->Nat->Nat | [],s=>s |o::l,s=>occO l (occT (o.op.operands.toList.flatMap opTmp) s)
def occT:List Nat->Nat->Nat | [],s=>s |t::l,s=>occT l (s|||(1<<<t)) end
def occR:List ResultVar->Nat->Nat | [],s=>s | .tmp t::l,s=>occR l (s|||(1<<<t)) | .cell t _::l,s=>occR l (s|||(1<<<t))
def occI:List It->Nat->Nat | [],s=>s | .code c::l,s=>occI l (occ c s) | .loop c _::l,s=>occI l (occ c s) |_::l,s=>occI l s
def c9t(s:Nat):DE->Nat->List Nat
 | [],_=> []
 |(k,_)::l,seen=>match bit s k&& !(bit seen k)with
  |true=>k::c9t s l (seen|||(1<<<k))
  |false=>c9t s l seen
def cutE(e:DE):List Nat->DE
 | []=> []
 |k::l=>match a0l k e with
  |some x=>(k,x)::cutE e l
  |none=>cutE e l
mutual
def dsts:Code->List (Nat×TypeId)->List (Nat×TypeId) | .region _ ops _,s=>dstO ops.toList s | .seq a b,s=>dsts b (dsts a s) | .cond _ a b,s=>dsts b (dsts a s) | .block _ c,s=>dsts c s | .loop c,s=>dsts c s | .rangeFunc _ _ a b,s=>dsts b (dsts a s) | .scope c,s=>dsts c s |_,s=>s
def dstO:List Oper->List (Nat×TypeId)->List (Nat×TypeId)
 | [],s=>s
 |o::l,s=>match o.dst with
  |some d=>dstO l ((d,o.type)::s)
  |none=>dstO l s
 end
section
variable{P:Program}(T:Ty P)
def b2p(ds:List (Nat×TypeId)):DE->DH->DE×DH
 | [],H=>([],H)
 |(k,x)::l,H=>match x,a0l k ds with
  | .nil,some t=>match T.app t with
    |some (el,q,_)=>lenK (β:=DE×DH) H fun h=>match b2p ds l (snoc (nblk (.row el q [])) H)with
     |(e,H')=>((k,.row h 0)::e,H')
    |none=>match b2p ds l H with
     |(e,H')=>((k,x)::e,H')
  |x,some _=>match b2p ds l H with
   |(e,H')=>((k,unlit x)::e,H')
  |x,none=>match b2p ds l H with
   |(e,H')=>((k,x)::e,H')
def f0r(t:TypeId):Nat->Nat->Option TypeId
 |0,_=>none
 |f+1,o=>match T.und t with
  |some (.struct fs)=>fs.toList.findSome? fun fd=>match Nat.ble fd.offset o,T.size fd.type with
   |true,some m=>match Nat.blt o (fd.offset+m)with
    |true=>f0r fd.type f (o-fd.offset)
    |false=>none
   |_,_=>none
  |_=>match o with
   |0=>some t
   |_=>none
def ownC(t:TypeId):Nat->List DV->DH->List DV×DH
 |_,[],H=>([],H)
 |o,x::l,H=>match x with
  | .nil=>match(f0r T t 20 o).bind T.app with
    |some (el,q,_)=>lenK (β:=List DV×DH) H fun h=>match ownC t (o+1) l (snoc (nblk (.row el q [])) H)with
     |(cs,H')=>(.row h 0::cs,H')
    |none=>match ownC t (o+1) l H with
     |(cs,H')=>(x::cs,H')
  |x=>match ownC t (o+1) l H with
   |(cs,H')=>(unlit x::cs,H')
def ownH0:List Nat->DH->DH
 | [],H=>H
 |i::l,H=>match getN H i with
  |some b=>match b.fz,b.ob with
   |false,.box t cs=>match ownC T t 0 cs H with
    |(cs',H')=>ownH0 l (setN H' i {b with ob:= .box t cs'})
   |_,_=>ownH0 l H
  |none=>ownH0 l H
def ownE(ds:List (Nat×TypeId))(e:DE)(H:DH):DE×DH:=match T.cv with
 |true=>b2p T ds e H
 |false=>(e,H)
def ownH(l:List Nat)(H:DH):DH:=match T.cv with
 |true=>ownH0 T l H
 |false=>H
def flagH:Nat->DH->DH |_,[]=> [] |0,⟨v,s,z,_,_,o⟩::l=>⟨v,s,z,true,true,o⟩::flagH 0 l |k+1,⟨v,s,z,_,a,o⟩::l=>⟨v,s,z,true,a,o⟩::flagH k l
def c9g(pin:Nat)(live:List Nat)(e:DE)(H:DH):Option (DE×DH):=
 sH H fun H=>sH (b8v H H) fun H0=>sE (d6m H (cutE e live)) fun e0=>
 match a4t H0 1000 (refH H0 pin++refE e0) (rng 0 pin)with
 |some sel=>sN sel fun sel=>some (renE H0 sel 0 e0,flagH pin (selH H0 sel sel))
 |none=>none
def e3w(pin:Nat)(body:Code)(k:List It)(rs:List ResultVar)(e:DE)(H:DH):Option St:=
 let live:=c9t (occR rs (occI k (occ body 0))) e 0
 match ownE T (dsts body []) (cutE e live) H with
 |(e1,H1)=>match a4t H1 1000 (refH H1 pin++refE e1) (rng 0 pin)with
  |some sel=>match c9g pin live e1 (ownH T sel H1)with
   |some (e2,H2)=>some ⟨.code body,.loop body live::k,e2,H2⟩
   |none=>none
  |none=>none
mutual
def flatV:VT->Bool | .int _ _=>true | .bool _=>true | .str _=>true | .agg l=>flatVL l | .val _=>true | .ifc=>true |_=>false
def flatVL:List VT->Bool
 | []=>true
 |x::l=>match flatV x with
  |true=>flatVL l
  |false=>false
 end
mutual
def flatD:DV->Bool | .v x=>flatV x | .lit _=>true | .agg l=>flatL l | .tup l=>flatL l |_=>false
def flatL:List DV->Bool
 | []=>true
 |x::l=>match flatD x with
  |true=>flatL l
  |false=>false
 end
def argE:Nat->List DV->DE |_,[]=> [] |k,x::l=>(k,x)::argE (k+1) l
mutual
def frzA(H:DH):DV->Option (DV×List Nat)
 | .row i v=>match a1y H 1000 (.row i v)with
   |some (x,is)=>some (.v x,is)
   |none=>none
 | .win i v a b=>match a1y H 1000 (.win i v a b)with
   |some (x,is)=>some (.v x,is)
   |none=>none
 | .agg l=>match b3s H l with
   |some (r,is)=>some (.agg r,is)
   |none=>none
 | .tup l=>match b3s H l with
   |some (r,is)=>some (.tup r,is)
   |none=>none
 |x=>some (x,[])
def b3s(H:DH):List DV->Option (List DV×List Nat)
 | []=>some ([],[])
 |x::l=>match frzA H x with
  |some (y,is)=>match b3s H l with
   |some (r,js)=>some (y::r,is++js)
   |none=>none
  |none=>none
 end
def a2h{α:Type}(g:Nat->α->α):Nat->List Nat->List α->List α
 |_,[],R=>R
 |j,i::l,R=>match getN R i with
  |some b0=>a2h g (j+1) l (setN R i (g j b0))
  |none=>a2h g (j+1) l R
def b2s(H':DH)(j:Nat)(b0:Blk):Blk:=match getN H' j with
 |some b=>{b0 with ver:=(match b.ap with|true=>b0.ver+1|false=>b0.ver),st:=b0.st+1,dr:=true,ap:=b0.ap||b.ap}
 |none=>b0
def putB(H' R:DH)(sel:List Nat)(m h:Nat)(j:Nat)(b0:Blk):Blk:=match getN H' j with
 |some b=>{b0 with fz:=b.fz,ob:=bkOb R sel m h b.ob}
 |none=>b0
def d0y(H:DH)(f:FuncId)(az:List VT)(H1:DH)(rd wr:List Nat):OpR:= .call f (az.map .v) [] fun r Hr=>lenK (β:=Option Res) H1 fun h=>some ⟨some (shD h r),H1++Hr.map (shB h),rd,wr⟩
def resP(fl:Bool)(H:DH)(r:DV)(Hr:DH):Option Res:=match fl with
 |true=>match flatD r with
  |true=>some ⟨some r,H,[],[]⟩
  |false=>none
 |false=>lenK (β:=Option Res) H fun h=>some ⟨some (shD h r),H++Hr.map (shB h),[],[]⟩
def e7c(f:FuncId)(az:List DV)(H:DH):OpR:=match T.flat f with
 |true=>match a2z H 1000 az with
  |some (vs,_)=> .pcall true f vs
  |none=> .none
 |false=>match a2z H 1000 az with
  |some (vs,is)=>match is with
   | []=> .pcall false f vs
   |is=>d0y H f vs (markZ is H) is is
  |none=> .none
def f1b(H2:DH)(sel is:List Nat)(r:DV)(Hr:DH)(h m:Nat)(R1:DH):Option Res:=
 some ⟨some (bkD R1 sel m h r),a2h (putB Hr R1 sel m h) 0 sel R1++(a5c Hr m).map (fun b=>{b with ver:=0,st:=0,ob:=bkOb R1 sel m h b.ob}),is++sel,is++sel⟩
def d1n(f:FuncId)(az:List DV)(is:List Nat)(H2:DH):Option (List Nat)->OpR |some sel=>sN sel fun sel=>sH H2 fun H2=> .call f (renL H2 sel 0 az) (clean (selH H2 sel sel)) fun r Hr=>lenK (β:=Option Res) H2 fun h=>lenK (β:=Option Res) sel fun m=>sH (a2h (b2s Hr) 0 sel H2) fun R1=>f1b H2 sel is r Hr h m R1 |none=> .none
def c4p(f:FuncId)(az:List DV)(is:List Nat)(H1:DH):OpR:=match a4t H1 1000 (refL az) []with
 |some sel0=>(fun H2=>d1n f az is H2 (a4t H2 1000 (refL az) [])) (ownH T sel0 H1)
 |none=> .none
def e5f(f:FuncId)(az:List DV)(H:DH):OpR:=match T.pass f with
 |true=>c4p T f az [] H
 |false=>match b3s H az with
  |some (az1,is)=>c4p T f az1 is (markZ is H)
  |none=> .none
def e0k(el q by':Nat)(H:DH):Option Src->OpR
 |some s=>match s.zs with
  | []=> .askM (List VT) (appQ s.chk q by' [] s.ys) fun zs=>newR H (.row el q zs) s.rd []
  |_=> .none
 |none=> .none
def d3c(el q by':Nat)(H:DH):List DV->OpR
 | [y]=>e0k el q by' H (b0f H el q y)
 |_=> .none
def spC(H:DH)(i:Nat)(b:Blk)(t:TypeId)(c:DV):DV->OpR
 | .v (.val (.pointer none))=> .mem ⟨some (.tup []),setN H i {b with dr:=true,ob:= .box t [.bp i 0,c]},[i],[i]⟩
 | .bp j 0=>match Nat.beq i j with
   |true=> .gro (.tup []) [i]
   |false=> .none
 |_=> .none
def spS1(te:TypeId)(H:DH)(j:Nat):Option Blk->OpR
 |some b=>match b.ob with
  | .row el q xs=>match Nat.beq q 1&&Nat.beq el te with
    |true=> .askM Bs (c4d xs) fun l=>⟨some (.v (.str l)),markZ [j] H,[j],[j]⟩
    |false=> .none
  |_=> .none
 |none=> .none
def spB(k:Bool)(tb te:TypeId)(H:DH)(i:Nat):Option Blk->OpR
 |some b=>match b.fz,b.ob with
  |false,.box t [c0,c1]=>match Nat.beq t tb with
   |true=>match k with
    |false=>spC H i b t c1 c0
    |true=>match c1 with
     | .row j v=>spS1 te H j (b6s H j v)
     |_=> .none
   |false=> .none
  |_,_=> .none
 |none=> .none
def spO(k:Bool)(tb te:TypeId)(H:DH):List DV->OpR | [.bp i 0]=>spB k tb te H i (getN H i) |_=> .none
def normA:DV->DV
 | .agg l=>match pureL l with
   |some r=> .v (.agg r)
   |none=> .agg l
 |x=>x
def normAL:List DV->List DV | []=> [] |x::l=>normA x::normAL l
def d6u(H:DH)(az:List DV)(f:FuncId):OpR:=match T.sp f with
 |some (k,tb,te)=>spO k tb te H az
 |none=>match T.cl f with
  |some (el,q,b)=>d3c el q b H az
  |none=>match ptrL az||T.pass f with
   |false=>e7c T f az H
   |true=>e5f T f (normAL az) H
def e7o(H:DH)(x:DV)(az:List DV):OpR:=match x with
 | .clo f fi caps=>d6u T H (fi++az++caps) f
 | .v (.clo f fi caps)=>d6u T H (fi.map .v++az++caps.map .v) f
 |_=> .none
def d7y(e:DE)(H:DH)(c:Operand)(args:List Operand):OpR:=match opA T e c,opL T e args with
 |some x,some az=>e7o T H x az
 |_,_=> .none
def opF(nst dw:Bool)(e:DE)(H:DH)(ty:TypeId)(o:Op):OpR:=match o with
 | .call ⟨.value c,args,_⟩=>d7y T e H c args.toList
 |o=>match opX T e H o with
  |some r=>r
  |none=>opR T nst dw e H ty o
def resA(e:DE)(H:DH):List ResultVar->Option (List DV)
 | []=>some []
 | .tmp t::l=>match a0l t e with
   |some x=>match resA e H l with
    |some r=>some (x::r)
    |none=>none
   |none=>none
 | .cell a t::l=>match a0l a e with
   |some (.bp i o)=>match getN H i with
    |some ⟨_,_,_,_,_,.box _ cs⟩=>match a5l T t (a5c cs o)with
     |some x=>match resA e H l with
      |some r=>some (x::r)
      |none=>none
     |none=>none
    |_=>none
   |_=>none
def oneR:List DV->DV | [x]=>x |l=> .tup l
def c8o(x:DV):DV:=match pureD x with
 |some y=> .v y
 |none=>x
def normR:DV->DV | .tup l=> .tup (l.map c8o) |x=>c8o x
def retL(own:Bool)(H:DH)(l:List DV):Option (List DV×List Nat):=match own with
 |true=>some (l,[])
 |false=>b3s H l
def retB(pin:Nat)(H:DH):Option (List DV×List Nat)->Option (DV×DH)
 |some (l1,is)=>sH (markZ is H) fun H1=>sH (b8v H1 H1) fun H2=>sD (b7c H1 (oneR l1)) fun r=>
  match a4t H2 1000 (refH H2 pin++refD r) (rng 0 pin)with
  |some sel=>sN sel fun sel=>some (normR (renD H2 sel 0 r),selH H2 sel sel)
  |none=>none
 |none=>none
def retA(fr:Fr)(e:DE)(H:DH):Option (DV×DH):=match resA T e H fr.rs with
 |some l=>retB fr.pin H (retL fr.own H l)
 |none=>none
def a9k(dw:Bool)(i:Nat)(ld fr:Bool)(e:DE)(H:DH)(rc:Option (FuncId×List VT×DV))(fp:List FP):List FP:=match dw with
 |true=>snoc ⟨i,ld,fr,e,H,rc⟩ fp
 |false=> []
def allocO:Op->Bool | .alloc _=>true |_=>false
def c8e(x:DV):Bool:=match refD x with
 | []=>true
 |_=>false
def e0h(r:DV)(Hr:DH):Bool:=match Hr with
 | []=>c8e r
 |_=>false
def d9z(dw:Bool)(i:Nat)(e:DE)(H:DH)(f:FuncId)(az:List VT)(r:DV)(Hr:DH)(fp:List FP):List FP:=match e0h r Hr with
 |true=>a9k dw i false false e H (some (f,az,r)) fp
 |false=>a9k dw i true false e H none fp
def putD(d:Option Nat)(v:Option DV)(e:DE):DE:=match d,v with
 |some d,some v=>(d,v)::e
 |_,_=>e
def undefD:DV:= .tup []
def valU:Option DV->Option DV |some v=>some v |none=>some undefD
def litG(t:Nat)(c:Ctl)(k:List It)(e:DE)(H:DH):Ask:=match a0l t e with
 |some (.v (.bool b))=> .cond b ⟨c,k,(t,.lit true)::e,H⟩ ⟨c,k,(t,.lit false)::e,H⟩
 |_=> .stop
def c3h(all:Array Oper)(g:Option (Nat×Bool))(c:Ctl)(k:List It)(e:DE)(H:DH):Ask:=match g with
 |some (j,_)=>match(all[j]?).bind (·.dst)with
  |some t=>litG t c k e H
  |none=> .stop
 |none=> .stop
def e1o(o:Op)(c:Ctl)(k:List It)(e:DE)(H:DH):Ask:=match o with
 | .pick (.tmp t) _ _=>litG t c k e H
 |_=> .stop
def stpR(dw:Bool)(all:Array Oper)(i:Nat)(o:Oper)(l:List Oper)(fp:List FP)(k:List It)(e:DE)(H:DH):OpR->Ask
 | .val v rd=> .go true ⟨.ops dw all (i+1) l (a9k dw i false false e H none fp),k,putD o.dst (some v) e,H⟩
 | .gro v rd=> .go true ⟨.ops dw all (i+1) l (a9k dw i false false e H none fp),k,putD o.dst (some v) e,H⟩
 | .mem r=> .go false ⟨.ops dw all (i+1) l (a9k dw i true (allocO o.op) e H none fp),k,putD o.dst (valU r.v) e,r.H⟩
 | .askV α x g rd=> .ask true α x fun v=>⟨.ops dw all (i+1) l (a9k dw i false false e H none fp),k,putD o.dst (some (g v)) e,H⟩
 | .askM α x g=> .ask false α x fun v=>⟨.ops dw all (i+1) l (a9k dw i true false e H none fp),k,putD o.dst (valU (g v).v) e,(g v).H⟩
 | .call f az Hc g=> .call f az Hc fun r Hr=>match g r Hr with
   |some r=>some ⟨.ops dw all (i+1) l (a9k dw i true false e H none fp),k,putD o.dst (valU r.v) e,r.H⟩
   |none=>none
 | .pcall fl f az=> .call f (az.map .v) [] fun r Hr=>match resP fl H r Hr with
   |some q=>some ⟨.ops dw all (i+1) l (d9z dw i e H f az r Hr fp),k,putD o.dst (valU q.v) e,q.H⟩
   |none=>none
 | .none=>e1o o.op (.ops dw all i (o::l) fp) k e H
def stpO(fr:Fr)(dw:Bool)(all:Array Oper)(i:Nat)(o:Oper)(l:List Oper)(fp:List FP)(k:List It)(e:DE)(H:DH):Option Bool->Ask |some true=>stpR dw all i o l fp k e H (opF T fr.nest dw e H o.type o.op) |some false=> .go true ⟨.ops dw all (i+1) l (a9k dw i false false e H none fp),k,putD o.dst (some undefD) e,H⟩ |none=>c3h all o.guard (.ops dw all i (o::l) fp) k e H
def backO:List Oper->Nat->Bool | [],_=>true |o::l,i=>o.after.toList.all (fun e=> !(Region.binds .any e)||Nat.blt e.on i)&&backO l (i+1)
def d1r(tab:List Nat)(i:Nat)(ls:List Nat):List Oper->Nat->Bool
 | [],_=>true
 |o::l,j=>(match o.dst with
  |some t=> !(memN t ls)||Nat.beq i j||(match Nat.blt j i with
   |true=>bit ((getN tab i).getD 0) j
   |false=>bit ((getN tab j).getD 0) i)
  |none=>true)&&d1r tab i ls l (j+1)
def b4k(all:Array Oper)(tab:List Nat):List Oper->Nat->Bool | [],_=>true |o::l,i=>d1r tab i (o.dst.toList++looks all o) all.toList 0&&b4k all tab l (i+1)
def bef(tab:List Nat)(i j:Nat):Bool:=bit ((getN tab i).getD 0) j
def b9p(tab:List Nat):List FP->Bool | []=>true |p::l=>(!p.ld||l.all fun q=> !q.ld||q.fr||bef tab q.i p.i)&&b9p tab l
def depO(tab:List Nat)(fp:List FP)(i:Nat):Bool:=fp.all fun q=> !q.fr|| !(bef tab i q.i)||fp.all fun s=> !s.ld|| !(Nat.blt s.i q.i)||bef tab i s.i
def c9d(tab:List Nat)(fp:List FP):List FP->Bool | []=>true |p::l=>depO tab fp p.i&&c9d tab fp l
def uniO(i:Nat)(d:Option Nat):List Oper->Nat->Bool
 | [],_=>true
 |o::l,j=>(Nat.beq i j||(match d,o.dst with
  |some s,some t=> !(Nat.beq s t)
  |_,_=>true))&&uniO i d l (j+1)
def b9a(all:Array Oper):List FP->List Oper->Bool |q::fq,o::l=>(!q.fr||uniO q.i o.dst all.toList 0)&&b9a all fq l |_,_=>true
noncomputable def eqU(x y:DV):Bool:=match boolOf x,boolOf y with
 |some a,some b=>decide (a=b)
 |_,_=>eqD x y
noncomputable def eqX(v:DV):Option DV->Bool
 |some y=>eqU v y
 |none=>true
noncomputable def e7f(x:Option DV)(fl:Bool)(f:FuncId)(az:List VT):Option (FuncId×List VT×DV)->Bool
 |some (f0,az0,r)=>Nat.beq f0 f&&eqTL az0 az&&(!fl||flatD r)&&eqX r x
 |none=>false
noncomputable def d1p(rc:Option (FuncId×List VT×DV))(x:Option DV):OpR->Bool
 | .val v _=>eqX v x
 | .gro v _=>eqX v x
 | .askV _ q g _=>match q with
   |some v=>eqX (g v) x
   |none=>false
 | .pcall fl f az=>e7f x fl f az rc
 |_=>false
def mayO(tab:List Nat)(i p:Nat)(fp:List FP):Bool:=fp.all fun q=> !q.ld||(match Nat.blt q.i p with
 |true=> !(bef tab q.i i)
 |false=> !(bef tab i q.i))
def d9h(i p:Nat)(fp:List FP):Bool:=fp.all fun q=> !q.ld||(match Nat.blt q.i p,Nat.blt q.i i with
 |true,true=>true
 |false,false=>true
 |_,_=>false)
def dstA(e:DE)(d:Option Nat):Option (Option DV):=match d with
 |none=>some none
 |some d=>match a0l d e with
  |some x=>some (some x)
  |none=>none
def nxE(e:DE):List FP->DE | []=>e |q::_=>q.e
noncomputable def chkO(fr:Fr)(all:Array Oper)(tab:List Nat)(fp:List FP)(e:DE)(p:Nat)(H:DH):List FP->List Oper->Bool
 |q::fq,o::l=>(q.ld||d9h q.i p fp||(match a5f all q.e o.guard with
  |some false=>true
  |some true=> !(mayO tab q.i p fp)||(match dstA (nxE e fq) o.dst with
   |some x=>d1p q.rc x (opF T fr.nest true q.e H o.type o.op)
   |none=>false)
  |none=>false)|| @decide (opF T fr.nest true q.e H o.type o.op=opF T fr.nest true q.e q.H o.type o.op) (Classical.propDecidable _))&&chkO fr all tab fp e p H fq l
 |_,_=>true
def hAt(fp:List FP)(H:DH)(p:Nat):DH:=match getN fp p with
 |some q=>q.H
 |none=>H
noncomputable def chkA(fr:Fr)(all:Array Oper)(tab:List Nat)(fp:List FP)(e:DE)(H:DH):List FP->Bool
 | []=>true
 |q::l=>(!q.ld||chkO T fr all tab fp e (q.i+1) (hAt fp H (q.i+1)) fp all.toList)&&chkA fr all tab fp e H l
noncomputable def drwO(fr:Fr)(all:Array Oper)(tab:List Nat)(fp:List FP)(e:DE)(H:DH):Bool:=
 backO all.toList 0&&b4k all tab all.toList 0&&b9p tab fp&&c9d tab fp fp&&b9a all fp all.toList&&chkO T fr all tab fp e 0 (hAt fp H 0) fp all.toList&&chkA T fr all tab fp e H fp
def drwU(b:Bool):Option Unit:=match b with
 |true=>some ()
 |false=>none
noncomputable def stpE(fr:Fr)(dw:Bool)(all:Array Oper)(fp:List FP)(k:List It)(e:DE)(H:DH):Ask:=match dw with
 |true=> .ask true Unit (drwU (drwO T fr all (befT all.toList []) fp e H)) fun _=>⟨.out .normal,k,e,H⟩
 |false=> .go true ⟨.out .normal,k,e,H⟩
def e4v(b:Operand)(x y:Code)(k:List It)(e:DE)(H:DH):Option DV->Ask
 |some (.lit true)=> .go true ⟨.code x,k,e,H⟩
 |some (.lit false)=> .go true ⟨.code y,k,e,H⟩
 |some (.v (.bool c))=>match b with
  | .tmp t=> .cond c ⟨.code x,k,(t,.lit true)::e,H⟩ ⟨.code y,k,(t,.lit false)::e,H⟩
  |_=> .stop
 |_=> .stop
def e2r(s:Option St):Ask:=match s with
 |some s=> .head s
 |none=> .stop
def stpC(fr:Fr)(k:List It)(e:DE)(H:DH):Code->Ask | .skip=> .go true ⟨.out .normal,k,e,H⟩ | .label _=> .go true ⟨.out .normal,k,e,H⟩ | .seq x y=> .go true ⟨.code x,.code y::k,e,H⟩ | .region _ ops dw=> .go true ⟨.ops dw ops 0 ops.toList [],k,e,H⟩ | .block id x=> .go true ⟨.code x,.blk id::k,e,H⟩ | .scope x=> .go true ⟨.code x,.scope::k,e,H⟩ | .exit id=> .go true ⟨.out (.exit id),k,e,H⟩ | .ret=> .go true ⟨.out .ret,k,e,H⟩ | .loop x=>e2r (e3w T fr.pin x k fr.rs e H) | .cond b x y=>e4v b x y k e H (opA T e b) |_=> .stop
def retG(q:Option (DV×DH)):Ask:=match q with
 |some (r,H')=> .ret r H'
 |none=> .stop
def stpN(fr:Fr)(e:DE)(H:DH):Exit->Ask
 | .ret=>retG (retA T fr e H)
 | .normal=>match fr.rs with
   | []=>retG (retA T fr e H)
   |_=> .stop
 |_=> .stop
def e5n(c:Code)(live:List Nat)(k:List It)(q:Option (DE×DH)):Ask:=match q with
 |some (e',H')=> .head ⟨.code c,.loop c live::k,e',H'⟩
 |none=> .stop
def stpX(fr:Fr)(k:List It)(e:DE)(H:DH)(x:Exit):It->Ask
 | .code y=>match x with
   | .normal=> .go true ⟨.code y,k,e,H⟩
   |x=> .go true ⟨.out x,k,e,H⟩
 | .blk j=>match x with
   | .exit id=>match Nat.beq id j with
     |true=> .go true ⟨.out .normal,k,e,H⟩
     |false=> .go true ⟨.out (.exit id),k,e,H⟩
   |x=> .go true ⟨.out x,k,e,H⟩
 | .scope=>match x with
   | .goto _=> .stop
   |x=> .go true ⟨.out x,k,e,H⟩
 | .loop c live=>match x with
   | .normal=>e5n c live k (c9g fr.pin live e H)
   |x=> .go true ⟨.out x,k,e,H⟩
def b0n(n:Nat):Option Nat->Bool |some d=>Nat.blt d n |none=>true
def stpD(fr:Fr)(dw:Bool)(all:Array Oper)(i:Nat)(o:Oper)(l:List Oper)(fp:List FP)(k:List It)(e:DE)(H:DH):Bool->Ask |true=>stpO T fr dw all i o l fp k e H (a5f all e o.guard) |false=> .stop
noncomputable def stp(fr:Fr)(s:St):Ask:=match s with
 |⟨.code c,k,e,H⟩=>stpC T fr k e H c
 |⟨.out x,[],e,H⟩=>stpN T fr e H x
 |⟨.out x,i::k,e,H⟩=>stpX fr k e H x i
 |⟨.ops dw all i [] fp,k,e,H⟩=>stpE T fr dw all fp k e H
 |⟨.ops dw all i (o::l) fp,k,e,H⟩=>stpD T fr dw all i o l fp k e H (b0n fr.n o.dst)
def d4r(f:FuncId)(az:List DV)(H:DH):Option (Fr×St):=match P.funcs[f]? with
 |some fn=>match fn.body with
  |some c=>lenK (β:=Option (Fr×St)) H fun h=>match Nat.ble (lenK az id) fn.ntmps with
   |true=>some (⟨fn.ntmps,fn.results.toList,T.own f,T.nest f,h⟩,⟨.code c,[],argE 0 az,H⟩)
   |false=>none
  |none=>none
 |none=>none
def extR(r:Option DV):Option (DV×DH):=match r with
 |some r=>some (r,[])
 |none=>none
def extD(g:List VT->Option DV)(H:DH)(vs:Option (List VT)):Option (DV×DH):=match H,vs with
 | [],some vs=>extR (g vs)
 |_,_=>none
def dfn(d:Fr->St->Option (DV×DH))(f:FuncId)(az:List DV)(H:DH):Option (DV×DH):=match T.ext f with
 |some g=>extD g H (pureL az)
 |none=>match d4r T f az H with
  |some (fr,s)=>d fr s
  |none=>none
def ans(d:Fr->St->Option (DV×DH))(fr:Fr):Ask->Option (DV×DH)
 | .go _ s'=>d fr s'
 | .head s'=>d fr s'
 | .cond b s1 s2=>match b with
   |true=>d fr s1
   |false=>d fr s2
 | .ask _ _ x k=>match x with
   |some v=>d fr (k v)
   |none=>none
 | .call f az H k=>match dfn T d f az H with
   |some (r,H')=>match k r H' with
    |some s''=>d fr s''
    |none=>none
   |none=>none
 | .ret r H=>some (r,H)
 | .stop=>none
noncomputable def D:Nat->Fr->St->Option (DV×DH)
 |0,_,_=>none
 |n+1,fr,s=>ans T (D n) fr (stp T fr s)
noncomputable def Df(n:Nat)(f:FuncId)(az:List DV)(H:DH):Option (DV×DH):=dfn T (D T n) f az H
end
set_option linter.unusedVariables false
section
variable{P:Program}{T:Ty P}
theorem c6a{d d':Fr->St->Option (DV×DH)}(hd:∀fr s q,d fr s=some q->d' fr s=some q){f:FuncId}{az:List DV}{H:DH}{q:DV×DH}(h:dfn T d f az H=some q):dfn T d' f az H=some q:=by
 unfold dfn at h⊢;cases hg:T.ext f with
 |some g=>rw [hg]at h;exact h
 |none=>
  rw [hg]at h;cases he:d4r T f az H with
  |some p=>rw [he]at h;exact hd _ _ _ h
  |none=>rw [he]at h;cases h
theorem d8w{d d':Fr->St->Option (DV×DH)}(hd:∀fr s q,d fr s=some q->d' fr s=some q){fr:Fr}{a:Ask}{q:DV×DH}(h:ans T d fr a=some q):ans T d' fr a=some q:=by
 cases a with
 |go cm s=>exact hd _ _ _ h
 |head s=>exact hd _ _ _ h
 |cond b s1 s2=>cases b<;>exact hd _ _ _ h
 |ask cm α x k=>
  cases x with
  |none=>cases h
  |some v=>exact hd _ _ _ h
 |call f az H k=>
  simp only [ans]at h⊢;split at h
  ·rename_i e1;split at h
   ·rename_i e2;simp only [c6a hd e1,e2];exact hd _ _ _ h
   cases h
  cases h
 |ret r H=>exact h
 |stop=>cases h
theorem D_succ:∀{n:Nat}{fr:Fr}{s:St}{q:DV×DH},D T n fr s=some q->D T (n+1) fr s=some q
 |0,_,_,_,h=>by cases h
 |n+1,fr,s,q,h=>d8w (fun _ _ _=>D_succ) h
theorem d9v{n m:Nat}(hm:n<=m){fr:Fr}{s:St}{q:DV×DH}(h:D T n fr s=some q):D T m fr s=some q:=by
 induction hm with
 |refl=>exact h
 |step _ ih=>exact D_succ ih
theorem e7b{n m:Nat}(hm:n<=m){f:FuncId}{az:List DV}{H:DH}{q:DV×DH}(h:Df T n f az H=some q):dfn T (D T m) f az H=some q:=c6a (fun _ _ _=>d9v hm) h
def Tt(T:Ty P)(fr:Fr)(s:St)(Q:DV->DH->Prop):Prop:=∃n r H,D T n fr s=some (r,H)/\Q r H
def Ev(T:Ty P)(f:FuncId)(az:List DV)(H:DH)(Q:DV->DH->Prop):Prop:=∃n r H',Df T n f az H=some (r,H')/\Q r H'
noncomputable def rnA(T:Ty P)(fr:Fr):Nat->St->Ask
 |0,s=> .go true s
 |n+1,s=>match stp T fr s with
  | .go _ s'=>rnA T fr n s'
  |a=>a
variable{fr:Fr}{s:St}{Q:DV->DH->Prop}
def AskT(T:Ty P)(fr:Fr)(Q:DV->DH->Prop)(a:Ask):Prop:=∃n r H,ans T (D T n) fr a=some (r,H)/\Q r H
theorem d9q(h:AskT T fr Q (stp T fr s)):Tt T fr s Q:=by
 obtain⟨n,r,H,h1,h2⟩:=h;exact⟨n+1,r,H,h1,h2⟩
theorem tt_rn:∀{n:Nat}{s:St},AskT T fr Q (rnA T fr n s)->Tt T fr s Q
 |0,s,h=>h
 |n+1,s,h=>by
  unfold rnA at h;split at h
  ·rename_i s' he;exact d9q (by rw [he];exact tt_rn h)
  rename_i hne;exact d9q h
theorem tC{b:Bool}{s1 s2:St}(h:rnA T fr 2000 s= .cond b s1 s2)(k1:b=true->Tt T fr s1 Q)(k2:b=false->Tt T fr s2 Q):Tt T fr s Q:=by
 refine tt_rn (n:=2000) ?_;rw [h];cases b with
 |true=>exact k1 rfl
 |false=>exact k2 rfl
theorem tV{cm:Bool}{α:Type}{x:Option α}{k:α->St}(h:rnA T fr 2000 s= .ask cm α x k)(v:α)(hx:x=some v)(hk:Tt T fr (k v) Q):Tt T fr s Q:=by
 refine tt_rn (n:=2000) ?_;rw [h,hx];exact hk
theorem tR{r:DV}{H:DH}(h:rnA T fr 2000 s= .ret r H)(hQ:Q r H):Tt T fr s Q:=by
 refine tt_rn (n:=2000) ?_;rw [h];exact⟨0,r,H,rfl,hQ⟩
theorem tH{s':St}(h:rnA T fr 2000 s= .head s')(hk:Tt T fr s' Q):Tt T fr s Q:=by
 refine tt_rn (n:=2000) ?_;rw [h];exact hk
theorem tK{f:FuncId}{az:List DV}{H:DH}{k:DV->DH->Option St}{R:DV->DH->Prop}(h:rnA T fr 2000 s= .call f az H k)(hc:Ev T f az H R)(hk:∀r Hr,R r Hr->∃s',k r Hr=some s'/\Tt T fr s' Q):Tt T fr s Q:=by
 refine tt_rn (n:=2000) ?_;rw [h];obtain⟨n1,r1,H1,e1,q1⟩:=hc;obtain⟨s',e2,n2,r2,H2,e3,q2⟩:=hk r1 H1 q1;refine⟨max n1 n2,r2,H2,?_,q2⟩;simp only [ans,e7b (Nat.le_max_left n1 n2) e1,e2,d9v (Nat.le_max_right n1 n2) e3]
theorem f2g{f:FuncId}{az:List DV}{H:DH}{fr':Fr}{s':St}(he:T.ext f=none)(h:d4r T f az H=some (fr',s'))(k:Tt T fr' s' Q):Ev T f az H Q:=by
 obtain⟨n,r,H',h1,h2⟩:=k;exact⟨n,r,H',by unfold Df dfn;rw [he,h];exact h1,h2⟩
theorem Tt.mono{Q':DV->DH->Prop}(h:Tt T fr s Q)(hQ:∀r H,Q r H->Q' r H):Tt T fr s Q':=by
 obtain⟨n,r,H,h1,h2⟩:=h;exact⟨n,r,H,h1,hQ r H h2⟩
def upE(e:DE):List (Nat×DV)->DE | []=>e |(k,x)::l=>upE (go k x e) l
where go (k:Nat) (x:DV):DE->DE
 | []=> []
 |(j,y)::l=>match Nat.beq k j with
  |true=>(j,x)::l
  |false=>(j,y)::go k x l
def upH(H:DH):List (Nat×Ob)->DH
 | []=>H
 |(i,o)::l=>upH (match getN H i with
  |some b=>setN H i {b with ob:=o}
  |none=>H) l
def upS(s:St)(δ:List (Nat×DV))(η:List (Nat×Ob)):St:=⟨s.ctl,s.its,upE s.env δ,upH s.H η⟩
end
set_option linter.unusedVariables false
def aggT(P:Program)(t:TypeId):Option Bool:=match P.underlying t with
 |some (.struct _)=>some true
 |some (.array _ _)=>some true
 |some _=>some false
 |none=>none
def fldT(P:Program)(t:TypeId)(j:Nat):Option (TypeId×Nat):=match P.underlying t with
 |some (.struct fs)=>match getN fs.toList j with
  |some f=>some (f.type,f.offset)
  |none=>none
 |_=>none
def d6t(P:Program):Nat->TypeId->Bool
 |0,_=>false
 |f+1,t=>match P.underlying t with
  |some .bool=>true
  |some (.int _)=>true
  |some .string=>true
  |some (.struct fs)=>fs.toList.all fun fd=>d6t P f fd.type
  |some (.array _ e)=>d6t P f e
  |some (.tuple ts)=>ts.toList.all fun u=>d6t P f u
  |_=>false
def f1p(P:Program)(f:FuncId):Bool:=match P.funcs[f]? with
 |some fn=>fn.resultTypes.toList.all fun t=>d6t P 20 t
 |none=>false
def c7u(P:Program)(t:TypeId):Option Nat:=match P.info? t with
 |some i=>some i.size
 |none=>none
def e6r(P:Program)(t:TypeId):Option Value:=match P.info? t with
 |some i=>match i.zero with
  |some z=>match z.cells.toList.all Value.oneCell'&&Nat.beq z.cells.size i.size with
   |true=>some z
   |false=>none
  |none=>none
 |none=>none
def appT(P:Program)(t:TypeId):Option (TypeId×Nat×Nat):=match P.underlying t with
 |some (.slice e)=>match P.info? e with
  |some i=>match i.zero with
   |some z=>match Nat.beq z.cells.size i.size with
    |true=>some (e,i.size,i.bytes)
    |false=>none
   |none=>none
  |none=>none
 |_=>none
def fdsT(P:Program):List Field->Option (List (Nat×Nat))
 | []=>some []
 |f::l=>match c7u P f.type with
  |some k=>match fdsT P l with
   |some r=>some ((f.offset,k)::r)
   |none=>none
  |none=>none
def bldT(P:Program)(t:TypeId):Option (List (Nat×Nat)):=match P.underlying t with
 |some (.struct fs)=>fdsT P fs.toList
 |some (.array n e)=>match c7u P e with
  |some k=>some ((List.range n).map fun i=>(i*k,k))
  |none=>none
 |_=>none
def e6z(P:Program)(t:TypeId)(j:Nat):Option Nat:=match fldT P t j with
 |some (u,o)=>match c7u P u with
  |some (_+1)=>some o
  |_=>none
 |none=>none
def kindC:Option TypeDesc->Option Nat |some (.int _)=>some 0 |some .bool=>some 1 |some .string=>some 2 |_=>none
def eqFs(P:Program):Nat->List Field->Option (List Nat)
 |_,[]=>some []
 |o,f::fs=>match Nat.beq f.offset o&&f.name != "_",kindC (P.underlying f.type)with
  |true,some c=>match eqFs P (o+1) fs with
   |some r=>some (c::r)
   |none=>none
  |_,_=>none
def eqsT(P:Program)(t:TypeId):Option (List Nat):=match P.underlying t with
 |some (.struct fs)=>match P.stoodInHeld t||P.eqGuardType P.depth t with
  |false=>eqFs P 0 fs.toList
  |true=>none
 |_=>none
def clT(P:Program)(cl:FuncId->Bool)(f:FuncId):Option (TypeId×Nat×Nat):=match cl f with
 |true=>match P.funcs[f]? with
  |some fn=>match fn.resultTypes.toList with
   | [t]=>match appT P t with
     |some (e,k,b)=>some (e,k,b)
     |none=>none
   |_=>none
  |none=>none
 |false=>none
def tyOf(P:Program)(gls:List (Nat×VT))(gis:List (Nat×IntKind))(pass own flat nest:FuncId->Bool)(ext:FuncId->Option (List VT->Option DV))(cv:Bool)(cl:FuncId->Bool)(sp:FuncId->Option (Bool×TypeId×TypeId)):Ty P where
 und t:=P.underlying t
 agg t:=aggT P t
 size t:=c7u P t
 fld t j:=e6z P t j
 fel t j:=fldT P t j
 zero t:=e6r P t
 bld t:=bldT P t
 app t:=appT P t
 gls:=gls
 gis:=gis
 pass:=pass
 own:=own
 flat:=flat
 nest:=nest
 ext:=ext
 cv:=cv
 eqs t:=eqsT P t
 cl f:=clT P cl f
 sp:=sp
set_option linter.unusedVariables false
set_option linter.unusedSimpArgs false
mutual
def VR(F:Frz):VT->Value->Prop | .int k x,v=>v= .int k x | .bool b,v=>v= .bool b | .str l,v=>v=vs l | .agg l,v=>∃cs:List Value,v= .agg cs.toArray/\VRL F l cs/\cs.all Value.oneCell'=true | .sl xs,v=>∃a m n,v= .slice a m n/\xs.length=m/\xs.length<=n/\n<=maxLen/\(xs= []∨∃b o q us,a=some ⟨b,o,none⟩/\FC F b o us/\VRX F q xs us) | .el x o,v=>∃b p u,VR F x u/\FC F b p u.cells.toList/\v= .pointer (some ⟨b,p+o,none⟩) | .clo f p l,v=>∃ps cs:List Value,v= .func (.func f) ps.toArray cs.toArray/\VRL F p ps/\VRL F l cs | .val u,v=>v=u/\u.oneCell'=true | .ifc,v=>∃t u,v= .iface t u | .ifv t x,v=>∃u,v= .iface t u/\VR F x u
def VRL(F:Frz):List VT->List Value->Prop | [],cs=>cs= [] |x::l,cs=>∃v r,cs=v::r/\VR F x v/\VRL F l r
def VRX(F:Frz)(q:Nat):List VT->List Value->Prop | [],us=>us= [] |x::l,us=>∃u r,us=u.cells.toList++r/\(u.cells.size=q/\u.cells.toList.all Value.oneCell'=true)/\VR F x u/\VRX F q l r end
mutual
theorem VR.mono{F F':Frz}(hF:F.le F'):∀{x:VT}{v:Value},VR F x v->VR F' x v
 | .int k x,v,h=>h
 | .bool b,v,h=>h
 | .str l,v,h=>h
 | .agg l,v,⟨cs,h1,h2,h3⟩=>⟨cs,h1,VRL.mono hF h2,h3⟩
 | .sl xs,v,⟨a,m,n,h1,h2,h3,h4,h5⟩=>⟨a,m,n,h1,h2,h3,h4,by
   rcases h5 with h5|⟨b,o,q,us,e1,e2,e3⟩
   ·exact .inl h5
   exact .inr ⟨b,o,q,us,e1,e2.mono hF,VRX.mono hF e3⟩⟩
 | .el x o,v,⟨b,p,u,h1,h2,h3⟩=>⟨b,p,u,VR.mono hF h1,h2.mono hF,h3⟩
 | .clo f p l,v,⟨ps,cs,h1,h2,h3⟩=>⟨ps,cs,h1,VRL.mono hF h2,VRL.mono hF h3⟩
 | .val u,v,h=>h
 | .ifc,v,h=>h
 | .ifv t x,v,⟨u,h1,h2⟩=>⟨u,h1,VR.mono hF h2⟩
theorem VRL.mono{F F':Frz}(hF:F.le F'):∀{x:List VT}{v:List Value},VRL F x v->VRL F' x v
 | [],_,h=>h
 |x::l,_,⟨v,r,h1,h2,h3⟩=>⟨v,r,h1,VR.mono hF h2,VRL.mono hF h3⟩
theorem VRX.mono{F F':Frz}(hF:F.le F'){q:Nat}:∀{x:List VT}{v:List Value},VRX F q x v->VRX F' q x v
 | [],_,h=>h
 |x::l,_,⟨v,r,h1,h0,h2,h3⟩=>⟨v,r,h1,h0,VR.mono hF h2,VRX.mono hF h3⟩
 end
def rpV(q:Nat):Rp VT where
 k:=q
 R:=fun F cs x=>∃u:Value,cs=u.cells.toList/\(u.cells.size=q/\u.cells.toList.all Value.oneCell'=true)/\VR F x u
 len:=by rintro F cs x ⟨u,rfl,⟨h,_⟩,_⟩;simpa using h
 mono:=fun hF⟨u,h1,h2,h3⟩=>⟨u,h1,h2,h3.mono hF⟩
 one:=by rintro F cs x ⟨u,rfl,⟨_,h⟩,_⟩ y hy;exact(List.all_eq_true.1 h) y hy
theorem a6d{F:Frz}{q:Nat}:∀{xs:List VT}{us:List Value},VRX F q xs us↔RowR (rpV q) F us xs
 | [],us=>Iff.rfl
 |x::l,us=>by
  constructor
  ·rintro⟨u,r,h1,h0,h2,h3⟩;exact⟨_,r,h1,⟨u,rfl,h0,h2⟩,a6d.1 h3⟩
  rintro⟨cs,r,h1,⟨u,rfl,h0,h2⟩,h3⟩;exact⟨u,r,h1,h0,h2,a6d.2 h3⟩
theorem b0b{F:Frz}{xs:List VT}{v:Value}:VR F (.sl xs) v↔∃a m n q,v= .slice a m n/\SlR (rpV q) F a m n xs:=by
 constructor
 ·rintro⟨a,m,n,h1,h2,h3,h4,h5⟩;rcases h5 with h5|⟨b,o,q,us,e1,e2,e3⟩
  ·exact⟨a,m,n,0,h1,h2,h3,h4,.inl h5⟩
  exact⟨a,m,n,q,h1,h2,h3,h4,.inr ⟨b,o,us,e1,e2,a6d.1 e3⟩⟩
 rintro⟨a,m,n,q,h1,h2,h3,h4,h5⟩;refine⟨a,m,n,h1,h2,h3,h4,h5.imp id ?_⟩;rintro⟨b,o,l,e1,e2,e3⟩;exact⟨b,o,q,l,e1,e2,a6d.2 e3⟩
theorem b5t{F:Frz}:∀{l:List VT}{cs:List Value},VRL F l cs->cs.length=l.length
 | [],_,h=>by simp only [VRL]at h;subst h;rfl
 |_::_,_,⟨v,r,h1,h2,h3⟩=>by subst h1;simp [b5t h3]
theorem a1r{v:Value}(h:v.oneCell'=true):v.cells= #[v]:=by
 cases v<;>first|rfl|simp [Value.oneCell']at h
theorem c2n{F:Frz}{x:VT}{v:Value}(h:VR F x v)(hx:∀l,x≠ .agg l):v.oneCell'=true:=by
 cases x with
 |agg l=>exact absurd rfl (hx l)
 |int k x=>obtain rfl:=h;rfl
 |bool b=>obtain rfl:=h;rfl
 |str l=>obtain rfl:=h;rfl
 |sl xs=>obtain⟨a,m,n,rfl,h2⟩:=h;rfl
 |el x o=>obtain⟨b,p,u,h1,h2,rfl⟩:=h;rfl
 |clo f p l=>obtain⟨ps,cs,rfl,h2⟩:=h;rfl
 |val u=>obtain⟨rfl,h2⟩:=h;exact h2
 |ifc=>obtain⟨t,u,rfl⟩:=h;rfl
 |ifv t x=>obtain⟨u,rfl,_⟩:=h;rfl
theorem a9w{F:Frz}{x:VT}{v:Value}(h:VR F x v):v.cells.toList.all Value.oneCell'=true:=by
 by_cases hx:∃l,x= .agg l
 ·obtain⟨l,rfl⟩:=hx;obtain⟨cs,rfl,h2,h3⟩:=h;exact h3
 have h1:=c2n h fun l e=>hx ⟨l,e⟩;rw [a1r h1];simpa using h1
theorem a4j{F:Frz}{x:VT}{v:Value}(h:VR F x v):VRL F (cellsV x) v.cells.toList:=by
 by_cases hx:∃l,x= .agg l
 ·obtain⟨l,rfl⟩:=hx;obtain⟨cs,rfl,h2,h3⟩:=h;exact h2
 have h1:=c2n h fun l e=>hx ⟨l,e⟩;rw [a1r h1];have:cellsV x= [x]:=by cases x<;>first|rfl|exact absurd ⟨_,rfl⟩ hx
 rw [this];exact⟨v,[],rfl,h,rfl⟩
structure HD(F0:Frz)(w0:World)(X:List Nat)(F:Frz)(O:List OE)(w:World):Prop where
 sat:Sat F w
 le:F0.le F
 new:∀b,F b≠none->F0 b≠none∨w0.heap.size<=b∨b∈X
 own:∀e∈O,e.ok w
 sep:∀e∈O,∀b,e.blk=some b->F b=none/\(w0.heap.size<=b∨b∈X)
 dis:O.Pairwise fun e e'=>∀b,e.blk=some b->e'.blk≠some b
 os:w.os=w0.os
 tape:w.tape=w0.tape
 output:w.output=w0.output
 size:w0.heap.size<=w.heap.size
 old:∀b,b<w0.heap.size->b∉X->w.heap[b]?=w0.heap[b]?
section
variable{F0 F:Frz}{w0 w:World}{X:List Nat}{O:List OE}
theorem HD.get(h:HD F0 w0 X F O w){i:Nat}{e:OE}(hi:O[i]?=some e):e.ok w:=h.own e (List.mem_of_getElem? hi)
theorem b0j{O:List OE}(h:O.Pairwise fun e e'=>∀b,e.blk=some b->e'.blk≠some b){i j:Nat}{e e':OE}(hi:O[i]?=some e)(hj:O[j]?=some e')(hne:i≠j){b:Nat}(h1:e.blk=some b)(h2:e'.blk=some b):False:=by
 obtain⟨hi1,hi2⟩:=List.getElem?_eq_some_iff.1 hi;obtain⟨hj1,hj2⟩:=List.getElem?_eq_some_iff.1 hj;have hp:=List.pairwise_iff_getElem.1 h;rcases Nat.lt_or_ge i j with h3|h3
 ·exact hp i j hi1 hj1 h3 b (hi2▸h1) (hj2▸h2)
 exact hp j i hj1 hi1 (by omega) b (hj2▸h2) (hi2▸h1)
theorem HD.upd(h:HD F0 w0 X F O w){i:Nat}{e e':OE}(hi:O[i]?=some e){w':World}(hg:w.grownBy w' e.blk)(he:e'.ok w')
 (hb:∀b,e'.blk=some b->e.blk=some b∨w.heap.size<=b):HD F0 w0 X F (O.set i e') w':=by
 obtain⟨hlt,hget⟩:=List.getElem?_eq_some_iff.1 hi;have hmem:e∈O:=hget▸List.getElem_mem hlt;have hsep:=h.sep e hmem;have hdis:∀j(hj:j<O.length),j≠i->∀b,O[j].blk=some b->e.blk≠some b:=fun j hj hne b hb1 hb2=>
  b0j h.dis (List.getElem?_eq_getElem hj) hi hne hb1 hb2
 have hnew:∀j(hj:j<O.length),j≠i->∀b,O[j].blk=some b->e'.blk≠some b:=by
  intro j hj hne b hb1 hb2;rcases hb b hb2 with h1|h1
  ·exact hdis j hj hne b hb1 h1
  have:=OE.lt (h.own _ (List.getElem_mem hj)) hb1;omega
 refine⟨fun b o hf=> ?_,h.le,h.new,fun x hx=> ?_,fun x hx b hb'=> ?_,?_,hg.os.trans h.os,hg.tape.trans h.tape,hg.output.trans h.output,Nat.le_trans h.size hg.size,fun b hb' hx=> ?_⟩
 ·rw [hg.block b (h.sat.lt (by simp [hf])) (fun e1=>by have:=(hsep b e1.symm).1;simp [hf]at this)];exact h.sat b o hf
 ·obtain⟨j,hj,rfl⟩:=List.mem_iff_getElem.1 hx;rw [List.getElem_set];split
  ·exact he
  rename_i hne;have hj':j<O.length:=by simpa using hj
  exact OE.kept (h.own _ (List.getElem_mem hj')) hg fun b hb1 hb2=>hdis j hj' (by omega) b hb1 hb2.symm
 ·obtain⟨j,hj,rfl⟩:=List.mem_iff_getElem.1 hx;have hj':j<O.length:=by simpa using hj
  rw [List.getElem_set]at hb';split at hb'
  ·rcases hb b hb' with h1|h1
   ·exact hsep b h1
   refine⟨?_,.inl (Nat.le_trans h.size h1)⟩;cases hf:F b with
   |none=>rfl
   |some o=>have:=h.sat.lt (b:=b) (by simp [hf]);omega
  exact h.sep _ (List.getElem_mem hj') b hb'
 ·rw [List.pairwise_iff_getElem];intro p q hp hq hpq b hb1 hb2;have hp':p<O.length:=by simpa using hp
  have hq':q<O.length:=by simpa using hq
  rw [List.getElem_set]at hb1 hb2;split at hb1<;>split at hb2
  ·omega
  ·exact hnew q hq' (by omega) b hb2 hb1
  ·exact hnew p hp' (by omega) b hb1 hb2
  exact List.pairwise_iff_getElem.1 h.dis p q hp' hq' hpq b hb1 hb2
 rw [hg.block b (Nat.lt_of_lt_of_le hb' h.size) (fun e1=> ?_)]
 ·exact h.old b hb' hx
 rcases(hsep b e1.symm).2 with h1|h1
 ·omega
 exact hx h1
theorem HD.perm(h:HD F0 w0 X F O w){O':List OE}(hp:O.Perm O'):HD F0 w0 X F O' w:=
 ⟨h.sat,h.le,h.new,fun e he=>h.own e (hp.mem_iff.2 he),fun e he=>h.sep e (hp.mem_iff.2 he),
   h.dis.perm hp (fun h b h1 h2=>h b h2 h1),h.os,h.tape,h.output,h.size,h.old⟩
theorem HD.add(h:HD F0 w0 X F O w){e':OE}{w':World}(hg:w.grownBy w' none)(he:e'.ok w')
 (hb:∀b,e'.blk=some b->w.heap.size<=b):HD F0 w0 X F (O++ [e']) w':=by
 have:HD F0 w0 X F (e'::O) w':=by
  refine⟨fun b o hf=> ?_,h.le,h.new,fun x hx=> ?_,fun x hx b hb'=> ?_,?_,hg.os.trans h.os,hg.tape.trans h.tape,hg.output.trans h.output,Nat.le_trans h.size hg.size,fun b hb' hx=> ?_⟩
  ·rw [hg.block b (h.sat.lt (by simp [hf])) (by simp)];exact h.sat b o hf
  ·rcases List.mem_cons.1 hx with rfl|hx
   ·exact he
   exact OE.kept (h.own x hx) hg (by simp)
  ·rcases List.mem_cons.1 hx with rfl|hx
   ·refine⟨?_,.inl (Nat.le_trans h.size (hb b hb'))⟩;cases hf:F b with
    |none=>rfl
    |some o=>have:=h.sat.lt (b:=b) (by simp [hf]);have:=hb b hb';omega
   exact h.sep x hx b hb'
  ·refine List.pairwise_cons.2 ⟨fun x hx b hb1 hb2=> ?_,h.dis⟩;have:=OE.lt (h.own x hx) hb2;have:=hb b hb1;omega
  rw [hg.block b (Nat.lt_of_lt_of_le hb' h.size) (by simp)];exact h.old b hb' hx
 exact this.perm (List.perm_append_comm (l₁:= [e']) (l₂:=O))
def OE.dum:OE:= .row 0 0 none 0 0 []
theorem c3m(w:World):OE.dum.ok w:=World.ownsRow_nil _ _ _ _
theorem dum_blk:OE.dum.blk=none:=rfl
theorem HD.nilRow(h:HD F0 w0 X F O w)(e:TypeId)(q:Nat):HD F0 w0 X F (O++ [.row e q none 0 0 []]) w:=
 h.add (w':=w) ⟨rfl,rfl,rfl,Nat.le_refl _,fun _ _ _=>rfl⟩ (World.ownsRow_nil _ _ _ _) (by simp [OE.blk,Value.ownBlock])
theorem HD.grow(h:HD F0 w0 X F O w){w':World}(hg:w.grownBy w' none):HD F0 w0 X F O w':=by
 have:=h.add (e':=OE.dum) hg (c3m _) (by simp [dum_blk]);exact⟨this.sat,this.le,this.new,fun e he=>this.own e (List.mem_append_left _ he),fun e he=>this.sep e (List.mem_append_left _ he),(List.pairwise_append.1 this.dis).1,this.os,this.tape,this.output,this.size,this.old⟩
theorem HD.freeze(h:HD F0 w0 X F O w){i:Nat}{e:OE}(hi:O[i]?=some e){b:Nat}(hb:e.blk=some b){o:Obj}(ho:w.heap[b]?=some o):
 HD F0 w0 X (fun k=>if k=b then some o else F k) (O.set i OE.dum) w:=by
 have hmem:=List.mem_of_getElem? hi;have hs:=h.sep e hmem b hb;have hlt:=(List.getElem?_eq_some_iff.1 hi).1;have hother:∀x∈O.set i OE.dum,∀k,x.blk=some k->x∈O/\k≠b:=by
  intro x hx k hk;obtain⟨j,hj⟩:=List.mem_iff_getElem?.1 hx;rw [List.getElem?_set]at hj;split at hj
  ·simp only [hlt,if_true,Option.some.injEq]at hj;subst hj;simp [dum_blk]at hk
  rename_i hne;refine⟨List.mem_of_getElem? hj,fun e1=> ?_⟩;subst e1;exact b0j h.dis hi hj hne hb hk
 refine⟨fun k o' hk=> ?_,fun k o' hk=> ?_,fun k hk=> ?_,fun x hx=> ?_,fun x hx k hk=> ?_,?_,h.os,h.tape,h.output,h.size,h.old⟩
 ·replace hk:(if k=b then some o else F k)=some o':=hk
  split at hk
  ·rename_i e1;subst e1;cases hk;exact ho
  exact h.sat k o' hk
 ·have:=h.le k o' hk;show(if k=b then some o else F k)=some o';split
  ·rename_i e1;subst e1;rw [hs.1]at this;cases this
  exact this
 ·by_cases e1:k=b
  ·subst e1;exact .inr hs.2
  exact h.new k (by simpa [e1]using hk)
 ·obtain⟨j,hj⟩:=List.mem_iff_getElem?.1 hx;rw [List.getElem?_set]at hj;split at hj
  ·simp only [hlt,if_true,Option.some.injEq]at hj;subst hj;exact c3m _
  exact h.get hj
 ·obtain⟨h1,h2⟩:=hother x hx k hk;have h3:=h.sep x h1 k hk;exact⟨by simpa [h2]using h3.1,h3.2⟩
 rw [List.pairwise_iff_getElem];intro p q hp hq hpq b' hb1 hb2;have hp':p<O.length:=by simpa using hp
 have hq':q<O.length:=by simpa using hq
 rw [List.getElem_set]at hb1 hb2;split at hb1
 ·simp [dum_blk]at hb1
 split at hb2
 ·simp [dum_blk]at hb2
 exact List.pairwise_iff_getElem.1 h.dis p q hp' hq' hpq b' hb1 hb2
end
set_option linter.unusedVariables false
set_option linter.unusedSimpArgs false
theorem a0j{α:Type}:∀(l:List α)(i:Nat),getN l i=l[i]?
 | [],i=>by cases i<;>simp [getN]
 |x::l,0=>rfl
 |x::l,i+1=>by simpa [getN]using a0j l i
theorem a1a{α:Type}:∀(l:List α)(i:Nat)(x:α),setN l i x=l.set i x
 | [],i,x=>by cases i<;>rfl
 |y::l,0,x=>rfl
 |y::l,i+1,x=>by simpa [setN]using a1a l i x
theorem a4d{α:Type}:∀(l:List α)(i:Nat),a5c l i=l.drop i
 |l,0=>by cases l<;>rfl
 | [],i+1=>rfl
 |y::l,i+1=>by simpa [a5c]using a4d l i
theorem a1j{α:Type}(x:α):∀l:List α,snoc x l=l++ [x]
 | []=>rfl
 |y::l=>by simp [snoc,a1j x l]
theorem a1d{α β:Type}:∀(l:List α)(k:Nat->β),lenK l k=k l.length
 | [],_=>rfl
 |_::l,k=>a1d l fun n=>k (n+1)
theorem a5q{α:Type}{β:Type 1}:∀(l:List α)(k:Nat->β),lenK l k=k l.length
 | [],_=>rfl
 |_::l,k=>a5q l fun n=>k (n+1)
theorem a8s{α:Type}:∀{m:Nat}{l r:List α},takeN m l=some r->l.take m=r/\r.length=m
 |0,l,r,h=>by simp only [takeN,Option.some.injEq]at h;subst h;simp
 |m+1,[],r,h=>by simp [takeN]at h
 |m+1,x::l,r,h=>by
  simp only [takeN]at h;split at h
  ·rename_i r' h';cases h;obtain⟨h1,h2⟩:=a8s h';exact⟨by simp [h1],by simp [h2]⟩
  cases h
theorem a7o{α:Type}:∀{o:Nat}{vs l r:List α},setL o vs l=some r->o+vs.length<=l.length/\r=l.take o++vs++l.drop (o+vs.length)
 |0,[],l,r,h=>by simp only [setL,Option.some.injEq]at h;subst h;simp
 |0,v::vs,[],r,h=>by simp [setL]at h
 |0,v::vs,x::l,r,h=>by
  simp only [setL]at h;split at h
  ·rename_i r' h';cases h;obtain⟨h1,h2⟩:=a7o h';simp only [Nat.zero_add,List.take_zero,List.nil_append]at h1 h2⊢;exact⟨by simp;omega,by simp [h2]⟩
  cases h
 |o+1,vs,[],r,h=>by simp [setL]at h
 |o+1,vs,x::l,r,h=>by
  simp only [setL]at h;split at h
  ·rename_i r' h';cases h;obtain⟨h1,h2⟩:=a7o h';refine⟨by simp;omega,?_⟩;subst h2;simp [show o+1+vs.length=(o+vs.length)+1 by omega]
  cases h
def hdEq:OE->OE->Prop | .box g t _,e=>∃us,e= .box g t us | .row el q a m n _,e=>∃us,e= .row el q a m n us | .mp g _ _,e=>∃es c,e= .mp g es c |_,_=>False
theorem hdEq.trans{a b c:OE}(h:hdEq a b)(h':hdEq b c):hdEq a c:=by
 cases a<;>simp only [hdEq]at h<;>first
  |(obtain⟨us,rfl⟩:=h;exact h')
  |(obtain⟨us,x,rfl⟩:=h;exact h')
  |exact h.elim
def elemO:Ob->Nat->Option DV | .row _ _ xs,k=>(xs[k]?).map .v | .nest _ _ xs,k=>xs[k]? |_,_=>none
section
variable(W:List OE)(H:DH)(F:Frz)
def HdI(i ver:Nat)(p:Blk->OE->Prop):Prop:=∃b e,H[i]?=some b/\W[i]?=some e/\ver<=b.ver/\(ver=b.ver->p b e)
mutual
def Conc:DV->Value->Prop | .v x,v=>VR F x v | .lit b,v=>v= .bool b | .nil,v=>v= .slice none 0 0 | .any,v=>v.oneCell'=true | .agg l,v=>∃cs:List Value,v= .agg cs.toArray/\ConcL l cs/\cs.all Value.oneCell'=true | .tup l,v=>∃cs:List Value,v= .tuple cs.toArray/\ConcL l cs | .clo f p l,v=>∃ps cs:List Value,v= .func (.func f) ps.toArray cs.toArray/\ConcL p ps/\ConcL l cs | .row i ver,v=>∃a m n,v= .slice a m n/\HdI W H i ver fun b e=>∃el q us,e= .row el q a m n us | .win i ver lo len,v=>∃a' n',v= .slice a' len n'/\HdI W H i ver fun b e=>∃el q a m n us,e= .row el q a m n us/\SubR q a m n lo (lo+len) a' len n' | .bp i o,v=>∃g t us,W[i]?=some (.box g t us)/\v= .pointer (some ⟨g,o,none⟩) | .rp i ver st k o x,v=>∃g p,v= .pointer (some ⟨g,p+o,none⟩)/\HdI W H i ver fun b e=>∃el q m n us,e= .row el q (some ⟨g,0,none⟩) m n us/\k<m/\p=k*q/\st<=b.st/\(st=b.st->∀y,x=some y->elemO b.ob k=some y) | .mr i,v=>∃g es c,W[i]?=some (.mp g es c)/\v= .map (some g)
def ConcL:List DV->List Value->Prop | [],cs=>cs= [] |x::l,cs=>∃v r,cs=v::r/\Conc x v/\ConcL l r end
def ConcX(q:Nat):List DV->List Value->Prop | [],us=>us= [] |x::l,us=>∃u r,us=u.cells.toList++r/\(u.cells.size=q/\u.cells.toList.all Value.oneCell'=true)/\Conc W H F x u/\ConcX q l r
def MapR:List (VT×VT)->List MapEntry->Prop | [],ms=>ms= [] |(k,x)::l,ms=>∃e r,ms=e::r/\VR F k e.key/\VR F x e.val/\MapR l r
def RelO:Ob->OE->Prop | .box t cs,e=>∃g us,e= .box g t us/\ConcL W H F cs us/\us.all Value.oneCell'=true | .row el q xs,e=>∃a m n us,e= .row el q a m n us/\RowN (rpV q) F m us xs | .nest el q xs,e=>∃a m n us,e= .row el q a m n us/\xs.length=m/\ConcX W H F q xs us | .mp es,e=>∃g ms c,e= .mp g ms c/\MapR F es ms
def FzE:OE->Prop | .box g t us=>FC F g 0 us | .row el q a m n us=>m<=n/\n<=maxLen/\us.length=m*q/\(m=0∨∃g,a=some ⟨g,0,none⟩/\FC F g 0 us) |_=>False
end
def ownW:DH->List OE->List OE
 |b::H,e::W=>(match b.fz with|true=>OE.dum|false=>e)::ownW H W
 |_,_=> []
section
variable{W W':List OE}{H H':DH}{F F':Frz}
structure Ext(W:List OE)(H:DH)(F:Frz)(W':List OE)(H':DH)(F':Frz):Prop where
 le:F.le F'
 blk:∀(i:Nat)b e,H[i]?=some b->W[i]?=some e->∃b' e',H'[i]?=some b'/\W'[i]?=some e'/\b.ver<=b'.ver/\(b'.ver=b.ver->hdEq e e'/\b.st<=b'.st/\(b'.st=b.st->∀k,elemO b'.ob k=elemO b.ob k))/\(∀g t us,e= .box g t us->hdEq e e')/\(∀g es c,e= .mp g es c->hdEq e e')
 len:∀(i:Nat)e,W[i]?=some e->∃b,H[i]?=some b
theorem HdI.ext(h:Ext W H F W' H' F'){i ver:Nat}{p p':Blk->OE->Prop}(hp:∀b e b' e',H[i]?=some b->W[i]?=some e->ver=b.ver->b'.ver=b.ver->hdEq e e'->b.st<=b'.st->(b'.st=b.st->∀k,elemO b'.ob k=elemO b.ob k)->p b e->p' b' e')(hi:HdI W H i ver p):HdI W' H' i ver p':=by
 obtain⟨b,e,h1,h2,h3,h4⟩:=hi;obtain⟨b',e',g1,g2,g3,g4,_⟩:=h.blk i b e h1 h2;refine⟨b',e',g1,g2,Nat.le_trans h3 g3,fun hv=> ?_⟩;have e1:b'.ver=b.ver:=by omega
 obtain⟨k1,k2,k3⟩:=g4 e1;exact hp b e b' e' h1 h2 (by omega) e1 k1 k2 k3 (h4 (by omega))
mutual
theorem Conc.ext(h:Ext W H F W' H' F'):∀{x:DV}{v:Value},Conc W H F x v->Conc W' H' F' x v
 | .v x,v,hx=>VR.mono h.le hx
 | .lit b,v,hx=>hx
 | .nil,v,hx=>hx
 | .any,v,hx=>hx
 | .agg l,v,⟨cs,h1,h2,h3⟩=>⟨cs,h1,ConcL.ext h h2,h3⟩
 | .tup l,v,⟨cs,h1,h2⟩=>⟨cs,h1,ConcL.ext h h2⟩
 | .clo f p l,v,⟨ps,cs,h1,h2,h3⟩=>⟨ps,cs,h1,ConcL.ext h h2,ConcL.ext h h3⟩
 | .row i ver,v,⟨a,m,n,h0,hx⟩=>⟨a,m,n,h0,HdI.ext h (fun b e b' e' _ _ _ _ he _ _⟨el,q,us,h1⟩=>by
    subst h1;obtain⟨us',rfl⟩:=he;exact⟨el,q,us',rfl⟩) hx⟩
 | .win i ver lo len,v,⟨a',n',h0,hx⟩=>⟨a',n',h0,HdI.ext h (fun b e b' e' _ _ _ _ he _ _⟨el,q,a,m,n,us,h1,h2⟩=>by
    subst h1;obtain⟨us',rfl⟩:=he;exact⟨el,q,a,m,n,us',rfl,h2⟩) hx⟩
 | .bp i o,v,⟨g,t,us,h1,h2⟩=>by
   obtain⟨b,hb⟩:=h.len i _ h1;obtain⟨b',e',g1,g2,g3,g4,g5,_⟩:=h.blk i b _ hb h1;obtain⟨us',rfl⟩:=g5 g t us rfl;exact⟨g,t,us',g2,h2⟩
 | .rp i ver st k o x,v,⟨g,p,h0,hx⟩=>⟨g,p,h0,HdI.ext h (fun b e b' e' _ _ _ _ he hs hk⟨el,q,m,n,us,h1,h2,h3,h4,h5⟩=>by
    subst h1;obtain⟨us',rfl⟩:=he;refine⟨el,q,m,n,us',rfl,h2,h3,Nat.le_trans h4 hs,fun hst y hy=> ?_⟩;rw [hk (by omega) k];exact h5 (by omega) y hy) hx⟩
 | .mr i,v,⟨g,es,c,h1,h2⟩=>by
   obtain⟨b,hb⟩:=h.len i _ h1;obtain⟨b',e',g1,g2,g3,g4,_,g6⟩:=h.blk i b _ hb h1;obtain⟨es',c',rfl⟩:=g6 g es c rfl;exact⟨g,es',c',g2,h2⟩
theorem ConcL.ext(h:Ext W H F W' H' F'):∀{l:List DV}{cs:List Value},ConcL W H F l cs->ConcL W' H' F' l cs
 | [],_,hx=>hx
 |_::_,_,⟨v,k,h1,h2,h3⟩=>⟨v,k,h1,Conc.ext h h2,ConcL.ext h h3⟩
 end
theorem ConcX.ext(h:Ext W H F W' H' F'){q:Nat}:∀{l:List DV}{cs:List Value},ConcX W H F q l cs->ConcX W' H' F' q l cs
 | [],_,hx=>hx
 |_::_,_,⟨v,k,h1,h0,h2,h3⟩=>⟨v,k,h1,h0,h2.ext h,ConcX.ext h h3⟩
theorem MapR.mono(h:F.le F'):∀{l:List (VT×VT)}{ms:List MapEntry},MapR F l ms->MapR F' l ms
 | [],_,hx=>hx
 |(_,_)::_,_,⟨e,r,h1,h2,h3,h4⟩=>⟨e,r,h1,h2.mono h,h3.mono h,MapR.mono h h4⟩
theorem RelO.ext(h:Ext W H F W' H' F'){o:Ob}{e:OE}(hx:RelO W H F o e):RelO W' H' F' o e:=by
 cases o with
 |box t cs=>obtain⟨g,us,h1,h2,h3⟩:=hx;exact⟨g,us,h1,h2.ext h,h3⟩
 |row el q xs=>obtain⟨a,m,n,us,h1,h2⟩:=hx;exact⟨a,m,n,us,h1,h2.mono h.le⟩
 |nest el q xs=>obtain⟨a,m,n,us,h1,h2,h3⟩:=hx;exact⟨a,m,n,us,h1,h2,h3.ext h⟩
 |mp es=>obtain⟨g,ms,c,h1,h2⟩:=hx;exact⟨g,ms,c,h1,h2.mono h.le⟩
theorem FzE.mono(h:F.le F'){e:OE}(hx:FzE F e):FzE F' e:=by
 cases e with
 |box g t us=>exact FC.mono h hx
 |row el q a m n us=>exact⟨hx.1,hx.2.1,hx.2.2.1,hx.2.2.2.imp id fun⟨g,h1,h2⟩=>⟨g,h1,h2.mono h⟩⟩
 |_=>exact hx.elim
theorem ConcL.len:∀{l:List DV}{cs:List Value},ConcL W H F l cs->cs.length=l.length
 | [],_,h=>by simp only [ConcL]at h;subst h;rfl
 |_::_,_,⟨v,k,h1,h2,h3⟩=>by subst h1;simp [ConcL.len h3]
theorem ConcL.get:∀{l:List DV}{cs:List Value}{j:Nat}{x:DV},ConcL W H F l cs->l[j]?=some x->∃v,cs[j]?=some v/\Conc W H F x v
 | [],_,_,_,_,h=>by simp at h
 |y::l,_,0,x,⟨v,k,h1,h2,h3⟩,h=>by simp at h;subst h;subst h1;exact⟨v,by simp,h2⟩
 |y::l,_,j+1,x,⟨v,k,h1,h2,h3⟩,h=>by subst h1;obtain⟨u,h4,h5⟩:=ConcL.get h3 (by simpa using h);exact⟨u,by simpa using h4,h5⟩
theorem ConcL.drop:∀(j:Nat){l:List DV}{cs:List Value},ConcL W H F l cs->ConcL W H F (l.drop j) (cs.drop j)
 |0,_,_,h=>h
 |j+1,[],_,h=>by simp only [ConcL]at h;subst h;simp [ConcL]
 |j+1,_::_,_,⟨v,k,h1,h2,h3⟩=>by subst h1;exact ConcL.drop j h3
theorem ConcL.take:∀(j:Nat){l:List DV}{cs:List Value},ConcL W H F l cs->ConcL W H F (l.take j) (cs.take j)
 |0,_,_,h=>by simp [ConcL]
 |j+1,[],_,h=>by simp only [ConcL]at h;subst h;simp [ConcL]
 |j+1,_::_,_,⟨v,k,h1,h2,h3⟩=>by subst h1;exact⟨v,_,rfl,h2,ConcL.take j h3⟩
theorem ConcL.app:∀{l l2:List DV}{cs cs2:List Value},ConcL W H F l cs->ConcL W H F l2 cs2->ConcL W H F (l++l2) (cs++cs2)
 | [],_,_,_,h,h2=>by simp only [ConcL]at h;subst h;exact h2
 |_::_,_,_,_,⟨v,k,h1,h2,h3⟩,h4=>by subst h1;exact⟨v,_,rfl,h2,ConcL.app h3 h4⟩
theorem concL_v:∀{l:List VT}{cs:List Value},VRL F l cs↔ConcL W H F (l.map .v) cs
 | [],cs=>Iff.rfl
 |x::l,cs=>by
  constructor
  ·rintro⟨v,r,h1,h2,h3⟩;exact⟨v,r,h1,h2,concL_v.1 h3⟩
  rintro⟨v,r,h1,h2,h3⟩;exact⟨v,r,h1,h2,concL_v.2 h3⟩
theorem c3a{x:DV}{v:Value}(h:Conc W H F x v)(h1:∀l,x≠ .agg l)(h2:∀l,x≠ .v (.agg l))(h3:noTup x=true):v.oneCell'=true:=by
 cases x with
 |v x=>exact c2n h fun l e=>h2 l (by rw [e])
 |agg l=>exact absurd rfl (h1 l)
 |lit b=>obtain rfl:=h;rfl
 |nil=>obtain rfl:=h;rfl
 |any=>exact h
 |tup l=>cases h3
 |clo f p l=>obtain⟨ps,cs,rfl,h2⟩:=h;rfl
 |row i ver=>obtain⟨a,m,n,rfl,_⟩:=h;rfl
 |win i ver lo len=>obtain⟨a,n,rfl,_⟩:=h;rfl
 |bp i o=>obtain⟨g,t,us,h1,rfl⟩:=h;rfl
 |rp i ver st k o x=>obtain⟨g,p,rfl,_⟩:=h;rfl
 |mr i=>obtain⟨g,es,c,h1,rfl⟩:=h;rfl
theorem a2d{x:DV}{v:Value}(h:Conc W H F x v)(h3:noTup x=true):ConcL W H F (cellsD x) v.cells.toList/\v.cells.toList.all Value.oneCell'=true:=by
 by_cases h1:∃l,x= .agg l
 ·obtain⟨l,rfl⟩:=h1;obtain⟨cs,rfl,h4,h5⟩:=h;exact⟨h4,h5⟩
 by_cases h2:∃l,x= .v (.agg l)
 ·obtain⟨l,rfl⟩:=h2;exact⟨concL_v.1 (a4j h),a9w h⟩
 have h4:=c3a h (fun l e=>h1 ⟨l,e⟩) (fun l e=>h2 ⟨l,e⟩) h3;have h5:cellsD x= [x]:=by
  cases x with
  |agg l=>exact absurd ⟨l,rfl⟩ h1
  |v x=>
   cases x with
   |agg l=>exact absurd ⟨l,rfl⟩ h2
   |_=>rfl
  |_=>rfl
 rw [h5,a1r h4];exact⟨⟨v,[],rfl,h,rfl⟩,by simpa using h4⟩
end
set_option linter.unusedVariables false
set_option linter.unusedSimpArgs false
structure TyOk{P:Program}(T:Ty P):Prop where
 und:∀{t D},T.und t=some D->P.underlying t=some D
 agg:∀{t b},T.agg t=some b->f1t P t b
 size:∀{t k},T.size t=some k->a9f P t k
 fld:∀{t j o},T.fld t j=some o->e3q P t j o
 fel:∀{t j e o},T.fel t j=some (e,o)->∃(fs:Array Field)(f:Field),P.underlying t=some (.struct fs)/\fs[j]?=some f/\f.type=e/\f.offset=o
 zero:∀{t z},T.zero t=some z->b2v P t z/\z.cells.toList.all Value.oneCell'=true
 app:∀{t el q b},T.app t=some (el,q,b)->P.underlying t=some (.slice el)/\a9f P el q/\(0<q->0<b->AppIs P t el q b)
 zsize:∀{t el q b z},T.app t=some (el,q,b)->T.zero el=some z->z.cells.size=q
 bld:∀{t ps},T.bld t=some ps->∀(w:World)(z:Value)(vl:List (Nat×Value))(us:List Value),b2v P t z->Instr.fill (fun i=>ps[i]?) z.cells vl=some us.toArray->(Instr.build t vl.toArray).run P w= .ok (.agg us.toArray) w
 zinfo:∀{t el q b z},T.app t=some (el,q,b)->T.zero el=some z->(P.info? el).map (·.zero)=some (some z)
 eqs:∀{t ks},T.eqs t=some ks->∀(xs ys:List VT)(b:Bool),sameKs ks xs ys=some b->P.eqGuardType P.depth t=false/\∀w,(Op.equalIn 10000 t (.agg (xs.map valV).toArray) (.agg (ys.map valV).toArray)).run P w= .ok b w
 mix:P.follows .mixedOrders=true
section
variable{P:Program}(T:Ty P)
def GlR(F:Frz):Prop:=(∀g x,a0l g T.gls=some x->∃(u:Value)(t:TypeId)(z:Nat×Nat),F g=some (.cells u.cells t z)/\VR F x u)/\∀g k,a0l g T.gis=some k->∃(m:Int)(t:TypeId)(z:Nat×Nat),F g=some (.cells #[.int k m] t z)
theorem GlR.mono{F F':Frz}(h:GlR T F)(hl:F.le F'):GlR T F':=⟨fun g x hx=>by
 obtain⟨u,t,z,h1,h2⟩:=h.1 g x hx;exact⟨u,t,z,hl _ _ h1,h2.mono hl⟩,fun g k hk=>by
 obtain⟨m,t,z,h1⟩:=h.2 g k hk;exact⟨m,t,z,hl _ _ h1⟩⟩
structure EnvR(n:Nat)(W:List OE)(H:DH)(F:Frz)(e:DE)(a:Act):Prop where
 size:a.tmps.size=n
 defers:a.defers= []
 get:∀t d,a0l t e=some d->∃u,a.tmps[t]?=some u/\Conc W H F d u
structure Rel(F0:Frz)(w0:World)(X:List Nat)(W0 W:List OE)(H:DH)(F:Frz)(w:World):Prop where
 len:H.length=W.length
 blk:∀(i:Nat)b e,H[i]?=some b->W[i]?=some e->RelO W H F b.ob e/\(b.fz=true->FzE F e)
 hd:HD F0 w0 X F (ownW H W) w
 gl:GlR T F
 lent:∀(i:Nat)e0,W0[i]?=some e0->∃b e,H[i]?=some b/\W[i]?=some e/\(b.ap=false->hdEq e0 e)/\((∀el q a m n us,e0≠ .row el q a m n us)->hdEq e0 e)
end
section
variable{P:Program}{T:Ty P}{n:Nat}{F0:Frz}{w0:World}{X:List Nat}{W0 W:List OE}{H:DH}{F:Frz}{e:DE}{a:Act}{w:World}
theorem EnvR.put(h:EnvR n W H F e a){d:Nat}(hd:d<n){x:DV}{u:Value}(hx:Conc W H F x u):EnvR n W H F ((d,x)::e) (a.put (some d) u):=by
 refine⟨by simp [Act.put,h.size],by simp [Act.put,h.defers],fun t y ht=> ?_⟩;simp only [a0l]at ht;simp only [Act.put];split at ht
 ·rename_i hb;obtain rfl:=Nat.eq_of_beq_eq_true hb;cases ht;exact⟨u,by simp [h.size,hd],hx⟩
 rename_i hb;obtain⟨v,h1,h2⟩:=h.get t y ht;refine⟨v,?_,h2⟩;rw [Array.getElem?_setIfInBounds_ne (fun e=>Nat.ne_of_beq_eq_false hb e.symm)];exact h1
theorem EnvR.ext(h:EnvR n W H F e a){W':List OE}{H':DH}{F':Frz}(hx:Ext W H F W' H' F'):EnvR n W' H' F' e a:=
 ⟨h.size,h.defers,fun t d ht=>by obtain⟨u,h1,h2⟩:=h.get t d ht;exact⟨u,h1,h2.ext hx⟩⟩
theorem c4s{v:Value}(hv:v.oneCell'=true):Conc W H F (ofC v) v:=by
 unfold ofC;split
 ·exact rfl
 ·exact rfl
 ·exact c7w _
 ·exact rfl
 ·split
  ·rename_i hfi hca;have hfi:=Array.toList_eq_nil_iff.1 hfi;have hca:=Array.toList_eq_nil_iff.1 hca;subst hfi;subst hca;exact⟨[],[],rfl,rfl,rfl⟩
  exact⟨rfl,rfl⟩
 exact⟨rfl,hv⟩
theorem concL_ofC:∀{l:List Value},l.all Value.oneCell'=true->ConcL W H F (l.map ofC) l
 | [],_=>rfl
 |v::l,h=>by
  simp only [List.all_cons,Bool.and_eq_true]at h;exact⟨v,l,rfl,c4s h.1,concL_ofC h.2⟩
theorem c6n{v:Value}{x:DV}(h:ofV v=some x):Conc W H F x v:=by
 unfold ofV at h;split at h
 ·split at h
  ·rename_i hcs;cases h;exact⟨_,by simp,concL_ofC hcs,hcs⟩
  cases h
 split at h
 ·rename_i hv;cases h;exact c4s hv
 cases h
theorem a1w(hE:EnvR n W H F e a)(hg:GlR T F){x:Operand}{d:DV}(h:opA T e x=some d):Conc W H F d (a.eval x):=by
 cases x with
 |tmp t=>
  obtain⟨u,h1,h2⟩:=hE.get t d h;simpa [Act.eval,Array.getD_eq_getD_getElem?,h1]using h2
 |const v=>exact c6n h
 |func f=>simp only [opA,Option.some.injEq]at h;subst h;exact⟨[],[],rfl,rfl,rfl⟩
 |global g=>
  simp only [opA]at h;split at h
  ·rename_i x hx;cases h;obtain⟨u,t,z,h1,h2⟩:=hg.1 g x hx;exact⟨g,0,u,h2,⟨_,t,z,h1,by simp⟩,rfl⟩
  cases h;exact⟨rfl,rfl⟩
theorem b3m(hE:EnvR n W H F e a)(hg:GlR T F):∀{l:List Operand}{r:List DV},opL T e l=some r->ConcL W H F r (l.map a.eval)
 | [],r,h=>by simp only [opL,Option.some.injEq]at h;subst h;rfl
 |x::l,r,h=>by
  simp only [opL]at h;split at h
  ·rename_i v hx;split at h
   ·rename_i r' hl;cases h;exact⟨_,_,rfl,a1w hE hg hx,b3m hE hg hl⟩
   cases h
  cases h
theorem ownW_get:∀{H:DH}{W:List OE}{i:Nat}{b:Blk}{e:OE},H[i]?=some b->W[i]?=some e->(ownW H W)[i]?=some (match b.fz with|true=>OE.dum|false=>e)
 | [],_,_,_,_,h,_=>by simp at h
 |_::_,[],_,_,_,_,h=>by simp at h
 |b::H,e::W,0,b',e',h1,h2=>by simp at h1 h2;subst h1;subst h2;simp [ownW]<;>rfl
 |b::H,e::W,i+1,b',e',h1,h2=>by simpa [ownW]using ownW_get (H:=H) (W:=W) (i:=i) (by simpa using h1) (by simpa using h2)
def d2n(w:World):OE->Prop | .box g t us=>∀j v,us[j]?=some v->w.cell? ⟨g,j,none⟩=some v | .row el q a m n us=>∀g,a=some ⟨g,0,none⟩->∀j v,us[j]?=some v->w.cell? ⟨g,j,none⟩=some v |_=>True
theorem d8o{w:World}{e:OE}(h:e.ok w):d2n w e:=by
 cases e with
 |box g t us=>
  intro j v hj;have h1:w.heap[g]?=some (.cells us.toArray t (0,0)):=h;simp [World.cell?,h1,hj]
 |row el q a m n us=>
  intro g hg j v hj;subst hg;have:=World.ownsRow.cells h (g:=g) rfl j v hj
  rwa [addr_add,Nat.zero_add]at this
 |_=>trivial
theorem e2v{w:World}{e:OE}(hs:Sat F w)(h:FzE F e):d2n w e:=by
 cases e with
 |box g t us=>
  intro j v hj;have:=FC.cell h hs hj
  rwa [Nat.zero_add]at this
 |row el q a m n us=>
  intro g hg j v hj;obtain⟨h1,h2,h3,h4⟩:=h;rcases h4 with h4|⟨g',h5,h6⟩
  ·subst h4;simp only [Nat.zero_mul]at h3;have:=List.eq_nil_of_length_eq_zero h3;subst this;simp at hj
  rw [hg]at h5;cases h5;have:=FC.cell h6 hs hj
  rwa [Nat.zero_add]at this
 |_=>trivial
theorem Rel.cell(h:Rel T F0 w0 X W0 W H F w){i:Nat}{b:Blk}{o:OE}(h1:H[i]?=some b)(h2:W[i]?=some o):d2n w o:=by
 cases hb:b.fz with
 |true=>exact e2v h.hd.sat ((h.blk i b o h1 h2).2 hb)
 |false=>
  have:=ownW_get h1 h2;rw [hb]at this;exact d8o (h.hd.get this)
theorem Rel.at(h:Rel T F0 w0 X W0 W H F w){i:Nat}{b:Blk}(h1:H[i]?=some b):∃o,W[i]?=some o:=by
 have h2:=(List.getElem?_eq_some_iff.1 h1).1;rw [h.len]at h2;exact⟨_,List.getElem?_eq_getElem h2⟩
theorem Rel.atW(h:Rel T F0 w0 X W0 W H F w){i:Nat}{o:OE}(h1:W[i]?=some o):∃b,H[i]?=some b:=by
 have h2:=(List.getElem?_eq_some_iff.1 h1).1;rw [<-h.len]at h2;exact⟨_,List.getElem?_eq_getElem h2⟩
theorem Rel.row(h:Rel T F0 w0 X W0 W H F w){i:Nat}{b:Blk}{el:TypeId}{q:Nat}{ad:Option Addr}{m c:Nat}{us:List Value}(h1:H[i]?=some b)(h2:W[i]?=some (.row el q ad m c us)):m<=c/\c<=maxLen/\us.length=m*q/\(m=0∨∃g,ad=some ⟨g,0,none⟩):=by
 cases hb:b.fz with
 |true=>
  obtain⟨h3,h4,h5,h6⟩:=(h.blk i b _ h1 h2).2 hb;exact⟨h3,h4,h5,h6.imp id fun⟨g,h7,_⟩=>⟨g,h7⟩⟩
 |false=>
  have:=ownW_get h1 h2;rw [hb]at this;have h3:w.ownsRow 0 el q (.slice ad m c) m us:=h.hd.get this;rcases h3.2 with⟨e1,e2⟩|⟨g,cap,cur,e1,_,_,e3,e4,_,_⟩
  ·simp only [Value.slice.injEq]at e1;obtain⟨rfl,rfl,rfl⟩:=e1;exact⟨Nat.le_refl _,by simp [maxLen],h3.1,.inl rfl⟩
  simp only [Value.slice.injEq]at e1;obtain⟨rfl,_,rfl⟩:=e1;exact⟨e3,e4,h3.1,.inr ⟨g,rfl⟩⟩
def a0p(P:Program)(a:Act)(w:World)(o:Oper)(u:Value):Prop:=(execOp a.eval o).run P w= .ok (.value u) w
def a3e(P:Program)(W:List OE)(H:DH)(F:Frz)(a:Act)(w:World)(o:Oper):OpR->Prop | .val v _=>∃u,Conc W H F v u/\a0p P a w o u | .askV _ x k _=>∀y,x=some y->∃u,Conc W H F (k y) u/\a0p P a w o u |_=>True
variable{dst:Option Tmp}{type:TypeId}{pos:String}{after:Array Edge}{guard:Option (Nat×Bool)}
theorem b2r{x:Option DV}{o:Oper}(h:∀v,x=some v->∃u,Conc W H F v u/\a0p P a w o u):a3e P W H F a w o (oV x):=by
 cases x with
 |none=>trivial
 |some v=>exact h v rfl
theorem b2w{x:DV}{u:Value}{b:Bool}(h:boolOf x=some b)(hc:Conc W H F x u):u= .bool b:=by
 unfold boolOf at h;split at h
 ·cases h;exact hc
 ·cases h;exact hc
 cases h
theorem d5w(hT:TyOk T){op:BinOp}{t t':TypeId}{x y:Operand}{dx dy v:DV}(hx:Conc W H F dx (a.eval x))(hy:Conc W H F dy (a.eval y))(h:e5r T op t dx dy=some v):
 ∃u,Conc W H F v u/\a0p P a w ⟨dst,.binOp op t x y t',type,pos,after,guard⟩ u:=by
 unfold e5r at h;unfold a0p;split at h
 ·rename_i k p k' r;simp only [Conc,VR]at hx hy;unfold qInt at h;split at h
  ·rename_i hk;have hk:=of_decide_eq_true hk;subst hk;have:∃u,c3i op k' p r=some u/\Conc W H F v u:=by
    cases op<;>simp only [intA,Option.some.injEq,reduceCtorEq]at h<;>subst h<;>exact⟨_,rfl,rfl⟩
   obtain⟨u,h1,h2⟩:=this;exact⟨u,h2,by simp [execOp,hx,hy,a1n,b4l h1]⟩
  cases h
 ·rename_i p r;simp only [Conc,VR]at hx hy;have:∃u,b4m op p r=some u/\Conc W H F v u:=by
   cases op<;>simp only [strA,Option.some.injEq,reduceCtorEq]at h<;>subst h<;>exact⟨_,rfl,rfl⟩
  obtain⟨u,h1,h2⟩:=this;refine⟨u,h2,?_⟩;have e:(eqGuard op t x y (vs p) (vs r)).run P w= .ok () w:=a3v;simp [execOp,hx,hy,e,a9v h1]
 unfold e8e at h;split at h
 ·rename_i p r hp hr;have hx:=b2w hp hx;have hy:=b2w hr hy;unfold e9n at h;split at h
  ·rename_i hu;cases h;have e:=run_equal_bool (P:=P) w t p r (hT.und hu);exact⟨_,rfl,by simp [execOp,hx,hy,a5y,binOp,e]⟩
  ·rename_i hu;cases h;have e:=run_equal_bool (P:=P) w t p r (hT.und hu);exact⟨_,rfl,by simp [execOp,hx,hy,a5y,binOp,e]⟩
  cases h
 cases h
theorem b5x(hT:TyOk T){t:TypeId}{cs:List DV}{r:DV}(h:a5l T t cs=some r){us:List Value}(hc:ConcL W H F cs us)(h1:us.all Value.oneCell'=true){b o:Nat}{x:Operand}(hx:a.eval x= .pointer (some ⟨b,o,none⟩))
 (hw:∀j v,us[j]?=some v->w.cell? ⟨b,o+j,none⟩=some v):∃u,Conc W H F r u/\a0p P a w ⟨dst,.load t x,type,pos,after,guard⟩ u:=by
 unfold a5l at h;unfold a0p;split at h
 ·rename_i hA;have hA:=hT.agg hA;split at h
  ·rename_i y l;cases h;obtain⟨v,k,rfl,h2,_⟩:=hc;refine⟨v,h2,?_⟩;have h3:=hw 0 v (by simp);simp [execOp,Instr.loadAt,Instr.sureAddr,hx,loadVar,hA w,show w.cell? ⟨b,o,none⟩=some v from h3]
  cases h
 ·rename_i hA;have hA:=hT.agg hA;split at h
  ·rename_i m hS;have hS:=hT.size hS;split at h
   ·rename_i l hl;cases h;obtain⟨e1,e2⟩:=a8s hl;have h4:=ConcL.take m hc;rw [e1]at h4;have h5:(us.take m).length=m:=by rw [h4.len,e2]
    refine⟨_,⟨us.take m,rfl,h4,List.all_eq_true.2 fun y hy=>List.all_eq_true.1 h1 y (List.mem_of_mem_take hy)⟩,?_⟩;have e:=run_loadCells_list (P:=P) w ⟨b,o,none⟩ (us.take m) (fun j v hj=>by
     rw [addr_add];refine hw j v ?_;rw [List.getElem?_take]at hj;split at hj
     ·exact hj
     cases hj)
    rw [h5]at e;simp [execOp,Instr.loadAt,Instr.sureAddr,hx,loadVar,hA w,hS w,e]
   cases h
  cases h
 cases h
end
set_option linter.unusedVariables false
set_option linter.unusedSimpArgs false
section
variable{P:Program}{T:Ty P}{n:Nat}{F0:Frz}{w0:World}{X:List Nat}{W0 W:List OE}{H:DH}{F:Frz}{e:DE}{a:Act}{w:World}
variable{dst:Option Tmp}{type:TypeId}{pos:String}{after:Array Edge}{guard:Option (Nat×Bool)}
theorem d5v(hE:EnvR n W H F e a)(hg:GlR T F){c x y:Operand}{v:DV}(h:c8a T e c x y=some v):∃u,Conc W H F v u/\a0p P a w ⟨dst,.pick c x y,type,pos,after,guard⟩ u:=by
 unfold c8a at h;unfold a0p;split at h
 ·rename_i hc;have h1:=a1w hE hg hc;have h2:=a1w hE hg h;simp only [Conc]at h1;exact⟨_,h2,by simp [execOp,h1,asBool]⟩
 ·rename_i hc;have h1:=a1w hE hg hc;have h2:=a1w hE hg h;simp only [Conc]at h1;exact⟨_,h2,by simp [execOp,h1,asBool]⟩
 cases h
theorem e3i{op:UnOp}{t:TypeId}{x:Operand}{dx v:DV}(hx:Conc W H F dx (a.eval x))(h:qUnV op dx=some v):∃u,Conc W H F v u/\a0p P a w ⟨dst,.unOp op t x,type,pos,after,guard⟩ u:=by
 unfold qUnV at h;unfold a0p;split at h
 ·cases h;simp only [Conc]at hx;exact⟨_,rfl,by simp [execOp,hx,Op.unary]⟩
 ·cases h;simp only [Conc,VR]at hx;exact⟨_,rfl,by simp [execOp,hx,Op.unary]⟩
 ·cases h;simp only [Conc,VR]at hx;exact⟨_,rfl,by simp [execOp,hx,Op.unary,Op.intArith]⟩
 cases h
theorem d6y{x:Operand}{i:Nat}{dx v:DV}(hx:Conc W H F dx (a.eval x))(h:e3u dx i=some v):∃u,Conc W H F v u/\a0p P a w ⟨dst,.extract x i,type,pos,after,guard⟩ u:=by
 unfold e3u at h;unfold a0p;split at h
 ·rw [a0j]at h;obtain⟨cs,h1,h2⟩:=hx;obtain⟨u,h3,h4⟩:=h2.get h;exact⟨u,h4,by simp [execOp,h1,Instr.extract,h3]⟩
 cases h
theorem c7f(hT:TyOk T){t:TypeId}{x:Operand}{j o:Nat}{dx v:DV}(hf:T.fld t j=some o)(hx:Conc W H F dx (a.eval x))(h:c0x dx o=some v):∃u,Conc W H F v u/\a0p P a w ⟨dst,.fieldAddr t x j,type,pos,after,guard⟩ u:=by
 unfold c0x at h;unfold a0p;split at h
 ·cases h;obtain⟨g,t',us,h1,h2⟩:=hx;exact⟨_,⟨g,t',us,h1,rfl⟩,by simp [execOp,h2,hT.fld hf g _ w]⟩
 ·cases h;obtain⟨b,p,u,h1,h2,h3⟩:=hx;exact⟨_,⟨b,p,u,h1,h2,rfl⟩,by simp [execOp,h3,hT.fld hf b _ w,Nat.add_assoc]⟩
 ·rename_i i ver st k p y;cases h;obtain⟨g,p',h0,hx⟩:=hx;exact⟨_,⟨g,p',rfl,hx⟩,by simp [execOp,h0,hT.fld hf g _ w,Nat.add_assoc]⟩
 cases h
theorem d8p{x:Operand}{dx v:DV}(hx:Conc W H F dx (a.eval x))(h:qNilV dx=some v):∃u,Conc W H F v u/\a0p P a w ⟨dst,.nilCheck x,type,pos,after,guard⟩ u:=by
 unfold qNilV at h;unfold a0p;split at h
 ·cases h;obtain⟨g,t',us,h1,h2⟩:=hx;exact⟨_,⟨g,t',us,h1,rfl⟩,by simp [execOp,h2]⟩
 ·cases h;obtain⟨b,p,u,h1,h2,h3⟩:=hx;exact⟨_,⟨b,p,u,h1,h2,rfl⟩,by simp [execOp,h3]⟩
 ·rename_i i ver st k p y;cases h;obtain⟨g,p',h0,hx⟩:=hx;exact⟨_,⟨g,p',rfl,hx⟩,by simp [execOp,h0]⟩
 cases h
theorem d2r(hT:TyOk T){el o:Nat}{l:List DV}{cs:List Value}{r:DV}(hc:ConcL W H F l cs)(ho:cs.all Value.oneCell'=true)(h:a5l T el (a5c l o)=some r):∃u,Conc W H F r u/\∀w:World,(part el cs.toArray o).run P w= .ok u w:=by
 rw [a4d]at h;have hc:=ConcL.drop o hc;unfold a5l at h;split at h
 ·rename_i hA;have hA:=hT.agg hA;split at h
  ·rename_i y l hl;cases h;obtain⟨v,g1,g2⟩:=hc.get (j:=0) (x:=r) (by rw [hl];rfl);rw [List.getElem?_drop]at g1;exact⟨v,g2,fun w=>by simp [part,hA w,show cs[o]?=some v by simpa using g1]⟩
  cases h
 ·rename_i hA;have hA:=hT.agg hA;split at h
  ·rename_i m hS;have hS:=hT.size hS;split at h
   ·rename_i l' hl;cases h;obtain⟨e1,e2⟩:=a8s hl;have h4:=ConcL.take m hc;rw [e1]at h4;refine⟨_,⟨_,rfl,h4,List.all_eq_true.2 fun y hy=>List.all_eq_true.1 ho y (List.mem_of_mem_drop (List.mem_of_mem_take hy))⟩,fun w=> ?_⟩;simp [part,hA w,hS w,List.drop_take]
   cases h
  cases h
 cases h
theorem c4h(hT:TyOk T){t:TypeId}{x:Operand}{j el o:Nat}{l:List DV}{cs:List Value}{r:DV}(hf:T.fel t j=some (el,o))(ha:a.eval x= .agg cs.toArray)(hc:ConcL W H F l cs)(ho:cs.all Value.oneCell'=true)(h:a5l T el (a5c l o)=some r):∃u,Conc W H F r u/\a0p P a w ⟨dst,.field t x j,type,pos,after,guard⟩ u:=by
 obtain⟨fs,f,hu,hj,rfl,rfl⟩:=hT.fel hf;obtain⟨u,h1,h2⟩:=d2r hT hc ho h;exact⟨u,h1,by unfold a0p;simp [execOp,ha,Instr.field,underlying,hu,hj,asAgg,h2 w]⟩
theorem d3u(hT:TyOk T)(hE:EnvR n W H F e a)(hg:GlR T F){t:TypeId}{x:Operand}{j:Nat}{r:DV}(h:b4b T e t x j=some r):∃u,Conc W H F r u/\a0p P a w ⟨dst,.field t x j,type,pos,after,guard⟩ u:=by
 unfold b4b at h;split at h
 ·rename_i hf hx;obtain⟨cs,h1,h2,h3⟩:=a1w hE hg hx;exact c4h hT hf h1 h2 h3 h
 ·rename_i hf hx;obtain⟨cs,h1,h2,h3⟩:=a1w hE hg hx;exact c4h hT hf h1 (concL_v.1 h2) h3 h
 cases h
theorem a3j{i ver:Nat}{b:Blk}(h:b2c H i ver=some b):H[i]?=some b/\b.ver=ver:=by
 unfold b2c at h;rw [a0j]at h;split at h
 ·rename_i b' hb;split at h
  ·rename_i hv;cases h;exact⟨hb,(Nat.eq_of_beq_eq_true hv).symm⟩
  cases h
 cases h
theorem a9s{q:Nat}{m:Nat}{us:List Value}{xs:List VT}(h:RowN (rpV q) F m us xs){k:Nat}{x:VT}(hk:xs[k]?=some x):∃u,VR F x u/\u.cells.size=q/\u.cells.toList.all Value.oneCell'=true/\u.cells.toList<+:us.drop (k*q):=by
 obtain⟨cs,⟨u,rfl,⟨h1,h2⟩,h3⟩,h4⟩:=RowR.get h.2 hk;exact⟨u,h3,h1,h2,h4⟩
theorem b0t{q:Nat}:∀{xs:List DV}{us:List Value}{k:Nat}{x:DV},ConcX W H F q xs us->xs[k]?=some x->∃u,Conc W H F x u/\u.cells.size=q/\u.cells.toList.all Value.oneCell'=true/\u.cells.toList<+:us.drop (k*q)
 | [],_,_,_,_,h=>by simp at h
 |y::xs,_,0,x,⟨u,r,h1,⟨h2,h3⟩,h4,h5⟩,h=>by
  simp at h;subst h;exact⟨u,h4,h2,h3,by simp [h1]⟩
 |y::xs,_,k+1,x,⟨u,r,h1,⟨h2,h3⟩,h4,h5⟩,h=>by
  obtain⟨v,g1,g2,g3,g4⟩:=b0t h5 (by simpa using h);refine⟨v,g1,g2,g3,?_⟩;have h6:u.cells.toList.length=q:=by simpa using h2
  rw [h1,show(k+1)*q=u.cells.toList.length+k*q from by rw [h6,Nat.add_mul];omega,List.drop_append,List.drop_of_length_le (by omega)];simpa using g4
theorem e4k{cs us:List Value}{o:Nat}(h:cs<+:us.drop o){j:Nat}{v:Value}(hj:cs[j]?=some v):us[o+j]?=some v:=by
 obtain⟨ys,h⟩:=h;have:(us.drop o)[j]?=some v:=by rw [<-h,List.getElem?_append_left (List.getElem?_eq_some_iff.1 hj).1];exact hj
 rwa [List.getElem?_drop]at this
theorem b2m(hT:TyOk T)(hR:Rel T F0 w0 X W0 W H F w){i:Nat}{b:Blk}{el:TypeId}{q g m c:Nat}{us:List Value}(h1:H[i]?=some b)(h2:W[i]?=some (.row el q (some ⟨g,0,none⟩) m c us)){t:TypeId}{x:Operand}{k o:Nat}(hx:a.eval x= .pointer (some ⟨g,k*q+o,none⟩))
 {cs:List DV} {u:Value} (hu:ConcL W H F cs u.cells.toList) (ho:u.cells.toList.all Value.oneCell'=true) (hp:u.cells.toList<+:us.drop (k*q)) {r:DV} (h:a5l T t (a5c cs o)=some r):∃u,Conc W H F r u/\a0p P a w ⟨dst,.load t x,type,pos,after,guard⟩ u:=by
 rw [a4d]at h;refine b5x hT h (ConcL.drop o hu) (List.all_eq_true.2 fun y hy=>List.all_eq_true.1 ho y (List.mem_of_mem_drop hy)) hx fun j v hj=> ?_;have hc:=hR.cell h1 h2;have:=hc g rfl (k*q+(o+j)) v (e4k hp (by rw [List.getElem?_drop]at hj;exact hj))
 rwa [<-Nat.add_assoc]at this
theorem b1y(hR:Rel T F0 w0 X W0 W H F w){i:Nat}{b:Blk}{el:TypeId}{q m c:Nat}{ad:Option Addr}{us:List Value}(h1:H[i]?=some b)(h2:W[i]?=some (.row el q ad m c us)){k:Nat}{y:DV}(hy:elemO b.ob k=some y):
 ∃u,Conc W H F y u/\u.cells.size=q/\u.cells.toList.all Value.oneCell'=true/\u.cells.toList<+:us.drop (k*q):=by
 have hb:=(hR.blk i b _ h1 h2).1;unfold elemO at hy;split at hy
 ·rename_i el' q' xs ho;rw [ho]at hb;obtain⟨a',m',n',us',h3,h4⟩:=hb;cases h3;obtain⟨x,hx,rfl⟩:=Option.map_eq_some_iff.1 hy;obtain⟨u,g1,g2,g3,g4⟩:=a9s h4 hx;exact⟨u,g1,g2,g3,g4⟩
 ·rename_i el' q' xs ho;rw [ho]at hb;obtain⟨a',m',n',us',h3,h4,h5⟩:=hb;cases h3;exact b0t h5 hy
 cases hy
theorem e7k{x:Option DV}{rd:List Nat}{o:Oper}(h:∀v,x=some v->∃u,Conc W H F v u/\a0p P a w o u):a3e P W H F a w o (oL x rd):=by
 cases x with
 |none=>trivial
 |some v=>exact h v rfl
theorem b2n{y:DV}{u:Value}(h:Conc W H F y u)(hu:u.cells.toList.all Value.oneCell'=true):ConcL W H F (cellsD y) u.cells.toList:=by
 cases hn:noTup y with
 |true=>exact(a2d h hn).1
 |false=>
  cases y<;>simp [noTup]at hn;obtain⟨cs,rfl,_⟩:=h;simp [Value.cells,Value.oneCell']at hu
theorem d6k(hT:TyOk T)(hR:Rel T F0 w0 X W0 W H F w){t:TypeId}{x:Operand}{d:DV}(hx:Conc W H F d (a.eval x)):a3e P W H F a w ⟨dst,.load t x,type,pos,after,guard⟩ (d4i T H t d):=by
 unfold d4i;split
 ·rename_i i o;rw [a0j];split
  ·rename_i b hb;obtain⟨g,t',us,h1,h2⟩:=hx;unfold lBox;split
   ·rename_i t2 cs hob;refine e7k fun v hv=> ?_;have h3:=(hR.blk i b _ hb h1).1;rw [hob]at h3;obtain⟨g',us',h4,h5,h6⟩:=h3;cases h4;rw [a4d]at hv;refine b5x hT hv (ConcL.drop o h5) (List.all_eq_true.2 fun y hy=>List.all_eq_true.1 h6 y (List.mem_of_mem_drop hy)) h2 fun j v hj=> ?_;rw [List.getElem?_drop]at hj;exact hR.cell hb h1 _ _ hj
   trivial
  trivial
 ·rename_i y o;refine b2r fun v hv=> ?_;obtain⟨b,p,u,h1,h2,h3⟩:=hx;rw [a4d]at hv;refine b5x hT hv (ConcL.drop o (concL_v.1 (a4j h1))) (List.all_eq_true.2 fun y hy=>List.all_eq_true.1 (a9w h1) y (List.mem_of_mem_drop hy)) h3 fun j v hj=> ?_;rw [List.getElem?_drop]at hj;have:=FC.cell h2 hR.hd.sat hj
  rwa [<-Nat.add_assoc]at this
 ·rename_i i ver st k o c;split
  ·rename_i b hb;obtain⟨hb,hv⟩:=a3j hb;obtain⟨g,p,h0,b',e',h1,h2,h3,h4⟩:=hx;rw [hb]at h1;cases h1;obtain⟨el,q,m,n',us,rfl,h6,rfl,h8,h9⟩:=h4 hv.symm;unfold e3s;split
   ·rename_i y hst;refine e7k fun v hv=> ?_;obtain⟨u,g1,g2,g3,g4⟩:=b1y hR hb h2 (h9 (Nat.eq_of_beq_eq_true hst) y rfl);exact b2m hT hR hb h2 h0 (b2n g1 g3) g3 g4 hv
   split
   ·rename_i el' q' xs hob;intro y hy;obtain⟨x',hx',hl⟩:=Option.bind_eq_some_iff.1 hy;obtain⟨u,g1,g2,g3,g4⟩:=b1y hR hb h2 (k:=k) (y:= .v x') (by rw [hob];simp [elemO,hx']);exact b2m hT hR hb h2 h0 (concL_v.1 (a4j g1)) g3 g4 hl
   ·rename_i el' q' xs hob;intro y hy;obtain⟨x',hx',hl⟩:=Option.bind_eq_some_iff.1 hy;obtain⟨u,g1,g2,g3,g4⟩:=b1y hR hb h2 (k:=k) (y:=x') (by rw [hob];simp [elemO,hx']);exact b2m hT hR hb h2 h0 (b2n g1 g3) g3 g4 hl
   trivial
  trivial
 trivial
end
set_option linter.unusedVariables false
set_option linter.unusedSimpArgs false
section
variable{P:Program}{T:Ty P}{n:Nat}{F0:Frz}{w0:World}{X:List Nat}{W0 W:List OE}{H:DH}{F:Frz}{e:DE}{a:Act}{w:World}
variable{dst:Option Tmp}{type:TypeId}{pos:String}{after:Array Edge}{guard:Option (Nat×Bool)}
theorem d5j(x:VT):c1k x=(cellsV x).length:=by unfold c1k;rw [a1d];rfl
theorem c8m{x:VT}{u:Value}(h:VR F x u):u.cells.size=c1k x:=by
 rw [d5j,<-b5t (a4j h)];simp
theorem b7o{l:Nat}{i:Int}{k:Nat}(h:idxN l i=some k):0<=i/\i<l/\k=i.toNat:=by
 unfold idxN at h;split at h
 ·rename_i h0;cases h;exact⟨h0.1,h0.2,rfl⟩
 cases h
theorem e6b{α:Type}{xs:List α}{i:Int}{v:α}(h:ix xs i=some v):0<=i/\i<xs.length/\xs[i.toNat]?=some v:=by
 unfold ix at h;split at h
 ·rename_i h0;have:=(List.getElem?_eq_some_iff.1 h).1;exact⟨h0,by omega,h⟩
 cases h
theorem d4e(hT:TyOk T){t:TypeId}{x y:Operand}{dx:DV}{k:IntKind}{z:Int}(hx:Conc W H F dx (a.eval x))(hy:a.eval y= .int k z):a3e P W H F a w ⟨dst,.index t x y,type,pos,after,guard⟩ (b7w T dx z (T.und t)):=by
 unfold b7w;split
 ·rename_i hu;have hu:=hT.und hu;split
  ·intro v hv;simp only [Conc,VR]at hx;refine⟨_,rfl,?_⟩;unfold a0p;simp [execOp,hx,hy,c3e hu hv]
  trivial
 ·rename_i m el hu;have hu:=hT.und hu;split
  ·rename_i q hq;have hq:=hT.size hq;have key:∀(l:List DV)(cs:List Value),a.eval x= .agg cs.toArray->ConcL W H F l cs->cs.all Value.oneCell'=true->∀v,((idxN m z).bind fun k=>a5l T el (a5c l (k*q)))=some v->∃u,Conc W H F v u/\a0p P a w ⟨dst,.index t x y,type,pos,after,guard⟩ u:=by
    intro l cs ha hc ho v hv;obtain⟨k',hk,hl⟩:=Option.bind_eq_some_iff.1 hv;obtain⟨h0,h1,rfl⟩:=b7o hk;obtain⟨u,h2,h3⟩:=d2r hT hc ho hl;refine⟨u,h2,?_⟩;unfold a0p;simp [execOp,ha,hy,Instr.index,asIntOf,underlying,hu,h0,h1,hq w,h3 w]
   split
   ·obtain⟨cs,h1,h2,h3⟩:=hx;exact key _ cs h1 h2 h3
   ·obtain⟨cs,h1,h2,h3⟩:=hx;exact key _ cs h1 (concL_v.1 h2) h3
   trivial
  trivial
 trivial
theorem b1x(hT:TyOk T)(hR:Rel T F0 w0 X W0 W H F w){t el:TypeId}{q i:Nat}{b:Blk}{el':TypeId}{m c:Nat}{ad:Option Addr}{us:List Value}(hu:T.und t=some (.slice el))(hq:T.size el=some q)(h1:H[i]?=some b)(h2:W[i]?=some (.row el' q ad m c us)){x y:Operand}{k:IntKind}{z:Int}(hx:a.eval x= .slice ad m c)(hy:a.eval y= .int k z)(h0:0<=z)(hm:z<m){v:DV}(he:elemO b.ob z.toNat=some v):
 ∃u,Conc W H F (.rp i b.ver b.st z.toNat 0 (some v)) u/\a0p P a w ⟨dst,.indexAddr t x y,type,pos,after,guard⟩ u:=by
 obtain⟨_,_,_,h5⟩:=hR.row h1 h2;rcases h5 with h5|⟨g,rfl⟩
 ·omega
 refine⟨_,⟨g,z.toNat*q,rfl,b,_,h1,h2,Nat.le_refl _,fun _=>⟨el',q,m,c,us,rfl,by omega,rfl,Nat.le_refl _,fun _ y hy=>by cases hy;exact he⟩⟩,?_⟩;unfold a0p;have:=a7y (P:=P) (w:=w) (hT.und hu) (hT.size hq) (b:=g) (o:=0) (m:=m) (c:=c) (ik:=k) h0 hm;simp only [Nat.zero_add]at this;simp [execOp,hx,hy,this]
theorem b6h(hT:TyOk T)(hR:Rel T F0 w0 X W0 W H F w){t:TypeId}{x y:Operand}{dx:DV}{k:IntKind}{z:Int}(hx:Conc W H F dx (a.eval x))(hy:a.eval y= .int k z):a3e P W H F a w ⟨dst,.indexAddr t x y,type,pos,after,guard⟩ (a4s T H dx z (T.und t)):=by
 unfold a4s;split
 ·rename_i el hu;split
  ·rename_i q hq;unfold ixSl;split
   ·rename_i xs;intro v hv;obtain⟨h0,h1,h2⟩:=e6b hv;obtain⟨ad,m,c,q',hx,hs⟩:=b0b.1 hx;obtain⟨g1,g2,g3,g4⟩:=hs;rcases g4 with rfl|⟨b,o,l,rfl,hf,hr⟩
    ·simp at h2
    obtain⟨cs,⟨u,rfl,⟨h3,h4⟩,h5⟩,hpre⟩:=RowR.get hr h2;have e1:=a7y (P:=P) (w:=w) (hT.und hu) (hT.size hq) (b:=b) (o:=o) (m:=m) (c:=c) (ik:=k) h0 (by omega:z<(m:Int));have hg:a0p P a w ⟨dst,.indexAddr t x y,type,pos,after,guard⟩ (.pointer (some ⟨b,o+z.toNat*q,none⟩)):=by
     unfold a0p;simp [execOp,hx,hy,e1]
    unfold elQ;split
    ·rename_i hsz;have hsz:=Nat.eq_of_beq_eq_true hsz;rw [<-c8m h5,h3]at hsz;subst hsz;refine⟨_,⟨b,o+z.toNat*q',u,h5,?_,rfl⟩,hg⟩;obtain⟨cells,cty,fz,h6,h7⟩:=hf;refine⟨cells,cty,fz,h6,hpre.trans ?_⟩;rw [<-List.drop_drop];exact a7p h7 _
    exact⟨.pointer (some ⟨b,o+z.toNat*q,none⟩),(rfl:Value.oneCell' (.pointer _)=true),hg⟩
   ·rename_i i ver;split
    ·rename_i b hb0;obtain⟨hb,hv⟩:=a3j hb0;clear hb0;obtain⟨ad,m,c,h6,b',e',h1,h2,h3,h4⟩:=hx;rw [hb]at h1;cases h1;obtain⟨el',q',us,rfl⟩:=h4 hv.symm;have hrel:=(hR.blk i b _ hb h2).1;unfold e3h;split
     ·rename_i el2 q2 xs hob;split
      ·rename_i hq2;obtain rfl:=Nat.eq_of_beq_eq_true hq2;intro v hv2;obtain⟨g0,g1,g2⟩:=e6b hv2;rw [hob]at hrel;obtain⟨_,_,_,_,hrel1,hrel2⟩:=hrel;cases hrel1;subst hv;exact b1x hT hR hu hq hb h2 h6 hy g0 (by have:=hrel2.1;omega) (by rw [hob];simp [elemO,g2])
      trivial
     ·rename_i el2 q2 xs hob;split
      ·rename_i hq2;obtain rfl:=Nat.eq_of_beq_eq_true hq2;intro v hv2;obtain⟨g0,g1,g2⟩:=e6b hv2;rw [hob]at hrel;obtain⟨_,_,_,_,hrel1,hrel2,_⟩:=hrel;cases hrel1;subst hv;exact b1x hT hR hu hq hb h2 h6 hy g0 (by omega) (by rw [hob];simp [elemO,g2])
      trivial
     trivial
    trivial
   ·rename_i i ver lo n';split
    ·rename_i b hb0;obtain⟨hb,hv⟩:=a3j hb0;clear hb0;obtain⟨ad',c',h7,b',e',h1,h2,h3,h4⟩:=hx;rw [hb]at h1;cases h1;obtain⟨el',q',ad,m,c,us,rfl,h6⟩:=h4 hv.symm;have hrel:=(hR.blk i b _ hb h2).1;have key:∀(v:DV)(j:Nat),q'=q->0<=z->z<n'->elemO b.ob (lo+z.toNat)=some v->∃u,Conc W H F (.rp i ver b.st (lo+z.toNat) 0 (some v)) u/\a0p P a w ⟨dst,.indexAddr t x y,type,pos,after,guard⟩ u:=by
      intro v j hqq hz0 hz1 hel;subst hqq;obtain⟨s1,s2,s3,s4,s5⟩:=h6;obtain⟨k1,_,_,k5⟩:=hR.row hb h2;rcases k5 with k5|⟨g,rfl⟩
      ·omega
      have hc:c≠lo:=by omega
      simp only [hc,if_false,Option.map_some,addr_add,Nat.zero_add]at s5;subst s5;have:=a7y (P:=P) (w:=w) (hT.und hu) (hT.size hq) (b:=g) (o:=lo*q') (m:=n') (c:=c') (ik:=k) hz0 hz1;subst hv;refine⟨_,⟨g,(lo+z.toNat)*q',rfl,b,_,hb,h2,Nat.le_refl _,fun _=>⟨el',q',m,c,us,rfl,by omega,rfl,Nat.le_refl _,fun _ y hy=>by cases hy;exact hel⟩⟩,?_⟩;unfold a0p;simp [execOp,h7,hy,this,Nat.add_mul]
     unfold e6y;split
     ·rename_i el2 q2 xs hob;split
      ·rename_i hq2;intro v hv2;obtain⟨k',hk,hg⟩:=Option.bind_eq_some_iff.1 hv2;obtain⟨g0,g1,rfl⟩:=b7o hk;rw [hob]at hrel;obtain⟨_,_,_,_,hrel1,hrel2⟩:=hrel;cases hrel1;exact key _ 0 (Nat.eq_of_beq_eq_true hq2).symm g0 g1 (by rw [hob];simp [elemO,hg])
      trivial
     ·rename_i el2 q2 xs hob;split
      ·rename_i hq2;intro v hv2;obtain⟨k',hk,hg⟩:=Option.bind_eq_some_iff.1 hv2;obtain⟨g0,g1,rfl⟩:=b7o hk;rw [hob]at hrel;obtain⟨_,_,_,_,hrel1,hrel2,_⟩:=hrel;cases hrel1;exact key _ 0 (Nat.eq_of_beq_eq_true hq2).symm g0 g1 (by rw [hob];simp [elemO,hg])
      trivial
     trivial
    trivial
   trivial
  trivial
 ·rename_i m el hu;have hu:=hT.und hu;split
  ·rename_i q hq;have hq:=hT.size hq;have key:∀(g o:Nat),a.eval x= .pointer (some ⟨g,o,none⟩)->∀k',idxN m z=some k'->a0p P a w ⟨dst,.indexAddr t x y,type,pos,after,guard⟩ (.pointer (some ⟨g,o+k'*q,none⟩)):=by
    intro g o ha k' hk;obtain⟨h0,h1,rfl⟩:=b7o hk;unfold a0p;simp [execOp,ha,hy,Instr.indexAt,asIntOf,underlying,hu,Instr.sureAddr,h0,h1,hq w,addr_add]
   unfold e3k;split
   ·intro v hv;obtain⟨g,t',us,h1,h2⟩:=hx;exact⟨_,⟨g,t',us,h1,rfl⟩,key g _ h2 v hv⟩
   ·intro v hv;obtain⟨b,p,u,h1,h2,h3⟩:=hx;have:=key b _ h3 v hv;rw [Nat.add_assoc]at this;exact⟨_,⟨b,p,u,h1,h2,rfl⟩,this⟩
   ·intro v hv;obtain⟨g,p,h1,h2⟩:=hx;have:=key g _ h1 v hv;rw [Nat.add_assoc]at this;exact⟨_,⟨g,p,rfl,h2⟩,this⟩
   trivial
  trivial
 trivial
theorem d0d{op:BinOp}{t t':TypeId}{x y:Operand}{k k':IntKind}{p r:Int}(hx:a.eval x= .int k p)(hy:a.eval y= .int k' r):a3e P W H F a w ⟨dst,.binOp op t x y t',type,pos,after,guard⟩ (c6i op k p k' r):=by
 unfold c6i;split
 ·intro v hv;unfold Rt.shl at hv;split at hv
  ·cases hv
  rename_i h0;cases hv;exact⟨_,rfl,by unfold a0p;simp [execOp,hx,hy,a1n,binOp,Op.shift,h0]⟩
 ·intro v hv;unfold Rt.shr at hv;split at hv
  ·cases hv
  rename_i h0;cases hv;exact⟨_,rfl,by unfold a0p;simp [execOp,hx,hy,a1n,binOp,Op.shift,h0]⟩
 ·split
  ·rename_i hk;have hk:=of_decide_eq_true hk;subst hk;intro v hv;unfold Rt.quo at hv;split at hv
   ·cases hv
   rename_i h0;cases hv;exact⟨_,rfl,by unfold a0p;simp [execOp,hx,hy,a1n,binOp,Op.intDiv,h0]⟩
  trivial
 ·split
  ·rename_i hk;have hk:=of_decide_eq_true hk;subst hk;intro v hv;unfold Rt.rem at hv;split at hv
   ·cases hv
   rename_i h0;cases hv;exact⟨_,rfl,by unfold a0p;simp [execOp,hx,hy,a1n,binOp,Op.intDiv,h0]⟩
  trivial
 trivial
theorem d1a(hE:EnvR n W H F e a)(hg:GlR T F){d z:Int}{o:Option Operand}(h:bndA T e d o=some z):(o.map a.eval=some (.int .i64 z))∨(o.map a.eval=none/\z=d):=by
 cases o with
 |none=>simp only [bndA,Option.some.injEq]at h;exact .inr ⟨rfl,h.symm⟩
 |some x=>
  simp only [bndA]at h;split at h
  ·rename_i hx;cases h;have:=a1w hE hg hx;simp only [Conc,VR]at this;exact .inl (by simp [this])
  cases h
theorem c2f{l:Nat}{x y:Int}{p:Nat×Nat}(h:rngN l x y=some p):0<=x/\x<=y/\y<=l/\p=(x.toNat,y.toNat-x.toNat):=by
 unfold rngN at h;split at h
 ·rename_i h0;cases h;exact⟨h0.1,h0.2.1,h0.2.2,rfl⟩
 cases h
theorem d5k{q q':Nat}{xs:List VT}(h:szOk q xs=true){us:List Value}(hr:RowR (rpV q') F us xs)(hn:xs≠ []):q'=q:=by
 cases xs with
 |nil=>exact absurd rfl hn
 |cons x xs=>
  obtain⟨cs,r,h1,⟨u,rfl,⟨h3,h4⟩,h5⟩,h6⟩:=hr;have:=List.all_eq_true.1 h x (by simp);have:=Nat.eq_of_beq_eq_true this;rw [<-c8m h5,h3]at this;exact this
theorem e9x{q q':Nat}{ad:Option Addr}{m c:Nat}{xs:List VT}(hs:SlR (rpV q') F ad m c xs)(h:szOk q xs=true):SlR (rpV q) F ad m c xs:=by
 obtain⟨h1,h2,h3,h4⟩:=hs;refine⟨h1,h2,h3,?_⟩
 by_cases hn:xs= []
 ·exact .inl hn
 rcases h4 with h4|⟨b,o,l,e1,e2,e3⟩
 ·exact .inl h4
 obtain rfl:=d5k h e3 hn;exact .inr ⟨b,o,l,e1,e2,e3⟩
theorem b8n(hR:Rel T F0 w0 X W0 W H F w){d:DV}{u:Value}{k:Nat}(hx:Conc W H F d u)(h:a7l H d=some k):(∀a m c,u= .slice a m c->m=k)/\((∀l,d≠ .v (.str l))->(∀i,d≠ .mr i)->∃a m c,u= .slice a m c):=by
 unfold a7l at h;split at h
 ·rename_i i ver;rw [a0j]at h;split at h
  ·rename_i b hb;obtain⟨ad,m,c,rfl,b',e',h1,h2,h3,h4⟩:=hx;rw [hb]at h1;cases h1;split at h
   ·rename_i hv ho;obtain⟨el,q,us,rfl⟩:=h4 (Nat.eq_of_beq_eq_true hv);have:=(hR.blk i b _ hb h2).1;rw [ho]at this;obtain⟨_,_,_,_,e1,e2⟩:=this;cases e1;cases h;exact⟨fun _ _ _ e=>by cases e;exact e2.1.symm,fun _ _=>⟨_,_,_,rfl⟩⟩
   ·rename_i hv ho;obtain⟨el,q,us,rfl⟩:=h4 (Nat.eq_of_beq_eq_true hv);have:=(hR.blk i b _ hb h2).1;rw [ho]at this;obtain⟨_,_,_,_,e1,e2,_⟩:=this;cases e1;cases h;exact⟨fun _ _ _ e=>by cases e;exact e2.symm,fun _ _=>⟨_,_,_,rfl⟩⟩
   cases h
  cases h
 ·cases h;obtain⟨ad,c,rfl,_⟩:=hx;exact⟨fun _ _ _ e=>by cases e;rfl,fun _ _=>⟨_,_,_,rfl⟩⟩
 ·cases h;obtain⟨ad,m,c,q,rfl,hs⟩:=b0b.1 hx;exact⟨fun _ _ _ e=>by cases e;exact hs.1.symm,fun _ _=>⟨_,_,_,rfl⟩⟩
 ·cases h;obtain rfl:=hx;exact⟨fun _ _ _ e=>by cases e;rfl,fun _ _=>⟨_,_,_,rfl⟩⟩
 ·cases h;obtain rfl:=hx;exact⟨fun _ _ _ e=>by simp [vs]at e,fun hh _=>absurd rfl (hh _)⟩
 ·rename_i i;obtain⟨g,es,c,h1,rfl⟩:=hx;exact⟨fun _ _ _ e=>(by cases e),fun _ hh=>absurd rfl (hh _)⟩
 cases h
theorem d1d(hT:TyOk T)(hE:EnvR n W H F e a)(hR:Rel T F0 w0 X W0 W H F w){t:TypeId}{x:Operand}{lo hi:Option Operand}{dx:DV}(hx:Conc W H F dx (a.eval x)):a3e P W H F a w ⟨dst,.slice t x lo hi none,type,pos,after,guard⟩ (b0g T e H t dx lo hi):=by
 unfold b0g;split
 ·rename_i p k hlo hlen;split
  ·rename_i r hhi;have hlo:=d1a hE hR.gl hlo;have hhi:=d1a hE hR.gl hhi;obtain⟨hl1,hl2⟩:=b8n hR hx hlen;unfold c9h;split
   ·rename_i hu;have hu:=hT.und hu;split
    ·rename_i l;intro v hv;simp only [Conc,VR]at hx;simp only [a7l,Option.some.injEq]at hlen;subst hlen;refine⟨_,rfl,?_⟩;unfold a0p;have:=c1q (P:=P) (w:=w) hu hv (a:=lo.map a.eval) (b:=hi.map a.eval) hlo hhi;simp [execOp,hx,a7x hu,this]
    trivial
   ·rename_i el hu;have hu:=hT.und hu;split
    ·rename_i q hq;have hq:=hT.size hq;have rsl:∀(ad:Option Addr)(m c:Nat),a.eval x= .slice ad m c->m<=c->∀z,rngN k p r=some z->a0p P a w ⟨dst,.slice t x lo hi none,type,pos,after,guard⟩ (.slice (if c=z.1 then ad else ad.map (·.add (z.1*q))) z.2 (c-z.1)):=by
      intro ad m c hax hmc z hz;obtain⟨h0,h1,h2,rfl⟩:=c2f hz;obtain rfl:=hl1 ad m c hax;unfold a0p;have:=e1p (P:=P) (w:=w) hu hq hmc h0 h1 h2 (a:=ad) (lo':=lo.map a.eval) (hi':=hi.map a.eval) hlo hhi;simp [execOp,hax,this]
     split
     ·rename_i xs;intro v hv;unfold lslQ at hv;split at hv
      ·rename_i hsz;obtain⟨ad,m,c,q',hax,hs⟩:=b0b.1 hx;have hs:=e9x hs hsz;simp only [a7l,Option.some.injEq]at hlen;subst hlen;obtain⟨a',m',c',h1,h2⟩:=e3c (P:=P) (w:=w) (r:=rpV q) hu hq hs hv (lo':=lo.map a.eval) (hi':=hi.map a.eval) hlo hhi;exact⟨_,b0b.2 ⟨a',m',c',q,rfl,h2⟩,by unfold a0p;simp [execOp,hax,h1]⟩
      cases hv
     ·rename_i i ver;split
      ·rename_i bk hb0;obtain⟨hb,hv⟩:=a3j hb0;clear hb0;obtain⟨ad,m,c,hax,b',e',h1,h2,h3,h4⟩:=hx;rw [hb]at h1;cases h1;obtain⟨el',q',us,rfl⟩:=h4 hv.symm;have key:q'=q->∀z,rngN k p r=some z->∃u,Conc W H F (.win i ver z.1 z.2) u/\a0p P a w ⟨dst,.slice t x lo hi none,type,pos,after,guard⟩ u:=by
        rintro rfl z hz;have hrow:=hR.row hb h2;have hg:=rsl ad m c hax hrow.1 z hz;obtain⟨h0,h5,h6,rfl⟩:=c2f hz;obtain rfl:=hl1 ad m c hax;subst hv;exact⟨_,⟨_,_,rfl,bk,_,hb,h2,Nat.le_refl _,fun _=>⟨el',q',ad,m,c,us,rfl,by omega,by omega,by omega,rfl,rfl⟩⟩,hg⟩
       have hrel:=(hR.blk i bk _ hb h2).1;split
       ·rename_i hob;rw [hob]at hrel;obtain⟨_,_,_,_,hr1,_⟩:=hrel;cases hr1;split
        ·rename_i hq2;exact key (Nat.eq_of_beq_eq_true hq2).symm
        trivial
       ·rename_i hob;rw [hob]at hrel;obtain⟨_,_,_,_,hr1,_⟩:=hrel;cases hr1;split
        ·rename_i hq2;exact key (Nat.eq_of_beq_eq_true hq2).symm
        trivial
       trivial
      trivial
     ·intro z hz;have hax:a.eval x= .slice none 0 0:=hx;simp only [a7l,Option.some.injEq]at hlen;subst hlen;have hg:=rsl none 0 0 hax (Nat.le_refl _) z hz;obtain⟨h0,h1,h2,rfl⟩:=c2f hz;have e1:p.toNat=0:=by omega
      have e2:r.toNat=0:=by omega
      simp only [e1,e2]at hg;exact⟨.slice none 0 0,rfl,by simpa using hg⟩
     trivial
    trivial
   trivial
  trivial
 trivial
end
set_option linter.unusedVariables false
set_option linter.unusedSimpArgs false
section
variable{P:Program}{T:Ty P}{n:Nat}{F0:Frz}{w0:World}{X:List Nat}{W0 W:List OE}{H:DH}{F:Frz}{e:DE}{a:Act}{w:World}
variable{dst:Option Tmp}{type:TypeId}{pos:String}{after:Array Edge}{guard:Option (Nat×Bool)}
theorem b2h{op:BinOp}{q:Option Bool}{rd:List Nat}{t t':TypeId}{x y:Operand}(h:∀v,q=some v->(binOp .eql t (a.eval x) (a.eval y)).run P w= .ok (.bool v) w/\(binOp .neq t (a.eval x) (a.eval y)).run P w= .ok (.bool (!v)) w/\∀op,(eqGuard op t x y (a.eval x) (a.eval y)).run P w= .ok () w):a3e P W H F a w ⟨dst,.binOp op t x y t',type,pos,after,guard⟩ (b3b op q rd):=by
 unfold b3b;split
 ·intro v hv;obtain⟨h1,_,h2⟩:=h v hv;exact⟨_,rfl,by unfold a0p;simp [execOp,h2,h1]⟩
 ·intro v hv;obtain⟨_,h1,h2⟩:=h v hv;exact⟨_,rfl,by unfold a0p;simp [execOp,h2,h1]⟩
 trivial
theorem d7h(hR:Rel T F0 w0 X W0 W H F w){d:DV}{u:Value}{q:Option Bool}(hx:Conc W H F d u)(h:e4b H d=some q):∃ad m c,u= .slice ad m c/\∀v,q=some v->ad.isNone=v:=by
 unfold e4b at h;split at h
 ·cases h;obtain rfl:=hx;exact⟨none,0,0,rfl,fun v hv=>by cases hv;rfl⟩
 ·rename_i xs;cases h;obtain⟨ad,m,c,q',rfl,hs⟩:=b0b.1 hx;refine⟨ad,m,c,rfl,fun v hv=> ?_⟩;cases xs with
  |nil=>cases hv
  |cons x xs=>
   cases hv;rcases hs.2.2.2 with h4|⟨b,o,l,rfl,_⟩
   ·cases h4
   rfl
 ·rename_i i ver;split at h
  ·rename_i b hb0;obtain⟨hb,hv⟩:=a3j hb0;clear hb0;obtain⟨ad,m,c,rfl,b',e',h1,h2,h3,h4⟩:=hx;rw [hb]at h1;cases h1;obtain⟨el',q',us,rfl⟩:=h4 hv.symm;have hrow:=hR.row hb h2;have hrel:=(hR.blk i b _ hb h2).1;refine⟨ad,m,c,rfl,fun v hv=> ?_⟩;have hm:v=false/\0<m:=by
    split at h
    ·rename_i xs hob;cases h;rw [hob]at hrel;obtain⟨_,_,_,_,hr1,hr2⟩:=hrel;cases hr1;cases xs with
     |nil=>cases hv
     |cons x xs=>cases hv;exact⟨rfl,by have:=hr2.1;simp at this;omega⟩
    ·rename_i xs hob;cases h;rw [hob]at hrel;obtain⟨_,_,_,_,hr1,hr2,_⟩:=hrel;cases hr1;cases xs with
     |nil=>cases hv
     |cons x xs=>cases hv;exact⟨rfl,by simp at hr2;omega⟩
    cases h
   obtain⟨rfl,hm⟩:=hm;rcases hrow.2.2.2 with h0|⟨g,rfl⟩
   ·omega
   rfl
  cases h
 cases h
theorem d9b{d:DV}{u:Value}{q:Bool}(hx:Conc W H F d u)(h:nilPt d=some q):∃p,u= .pointer p/\p.isNone=q:=by
 unfold nilPt at h;split at h
 ·cases h;obtain⟨g,t,us,_,rfl⟩:=hx;exact⟨_,rfl,rfl⟩
 ·cases h;obtain⟨g,p,rfl,_⟩:=hx;exact⟨_,rfl,rfl⟩
 ·cases h;obtain⟨b,p,u,_,_,rfl⟩:=hx;exact⟨_,rfl,rfl⟩
 ·cases h;obtain⟨rfl,_⟩:=hx;exact⟨_,rfl,rfl⟩
 cases h
theorem d9f(hT:TyOk T)(hR:Rel T F0 w0 X W0 W H F w){op:BinOp}{t t':TypeId}{x y:Operand}{dx dy:DV}(hx:Conc W H F dx (a.eval x))(hy:Conc W H F dy (a.eval y)):a3e P W H F a w ⟨dst,.binOp op t x y t',type,pos,after,guard⟩ (d5h H (cstO y) op dx dy (T.und t)):=by
 unfold d5h;split
 ·rename_i el hu;have hu:=hT.und hu;split
  ·rename_i q hb hq;obtain⟨ad,m,c,h1,h2⟩:=d7h hR hx hq;have h3:a.eval y= .slice none 0 0:=by
    cases dy<;>simp [isNilSl]at hb;exact hy
   refine b2h fun v hv=> ?_;rw [h1,h3];have e1:=run_equal_slice_nil (P:=P) w t el ad m c hu;rw [h2 v hv]at e1;exact⟨by simp [binOp,e1],by simp [binOp,e1],fun op=>by unfold eqGuard;split<;>simp⟩
  trivial
 ·rename_i el hu;have hu:=hT.und hu;split
  ·rename_i q hb hq;obtain⟨p,h1,h2⟩:=d9b hx hq;have h3:a.eval y= .pointer none:=by
    unfold isNilPt at hb;split at hb
    ·exact hy.1
    cases hb
   refine b2h fun v hv=> ?_;cases hv;rw [h1,h3];have he:P.pointee t=el:=by simp [Program.pointee,hu]
   have hu':P.underlying t=some (.pointer (P.pointee t)):=by rw [he];exact hu
   rw [<-h2];exact⟨run_eql_pointer_nil (P:=P) w t p hu',run_neq_pointer_nil (P:=P) w t p hu',fun op=>by unfold eqGuard;split<;>simp⟩
  trivial
 ·rename_i ms hu;have hu:=hT.und hu;split
  ·rename_i q hb hq;have hb:=Bool.and_eq_true_iff.1 hb;have hm:P.underlying t=some (.interface (P.methodsAt t)):=by
    have:P.methodsAt t=ms:=by simp [Program.methodsAt,hu]
    rw [this];exact hu
   have h3:a.eval y= .nilIface:=by
    have h4:=hb.2;unfold isNilIf at h4;split at h4
    ·exact hy.1
    cases h4
   have h5:∃c,y= .const c:=by
    have h4:=hb.1;cases y<;>simp [cstO]at h4;exact⟨_,rfl⟩
   obtain⟨c,rfl⟩:=h5;refine b2h fun v hv=> ?_;cases hv;rw [h3];unfold nilIf at hq;split at hq
   ·cases hq;obtain⟨tx,vx,hx⟩:=hx;rw [hx];have e1:=run_equal_held_nil (P:=P) w t tx vx hm;exact⟨by simp [binOp,e1],by simp [binOp,e1],fun op=>by unfold eqGuard;split<;>simp⟩
   ·cases hq;obtain⟨vx,hx,_⟩:=hx;rw [hx];have e1:=fun tx=>run_equal_held_nil (P:=P) w t tx vx hm;exact⟨by simp [binOp,e1],by simp [binOp,e1],fun op=>by unfold eqGuard;split<;>simp⟩
   ·cases hq;rw [hx.1];have e1:=run_equal_nil_nil (P:=P) w t hm;exact⟨by simp [binOp,e1],by simp [binOp,e1],fun op=>by unfold eqGuard;split<;>simp⟩
   cases hq
  trivial
 trivial
theorem e1k(hT:TyOk T)(hR:Rel T F0 w0 X W0 W H F w){op:BinOp}{t t':TypeId}{x y:Operand}{dx dy:DV}(hx:Conc W H F dx (a.eval x))(hy:Conc W H F dy (a.eval y)):a3e P W H F a w ⟨dst,.binOp op t x y t',type,pos,after,guard⟩ (oBin T H (cstO y) op t dx dy):=by
 unfold oBin;split
 ·rename_i v hv;exact d5w hT hx hy hv
 split
 ·simp only [Conc,VR]at hx hy;exact d0d hx hy
 ·rename_i p q _;simp only [Conc,VR]at hx hy;split
  ·intro v hv;refine⟨_,rfl,?_⟩;unfold a0p;have e:(eqGuard .add t x y (vs p) (vs q)).run P w= .ok () w:=a3v;simp [execOp,hx,hy,e,a9v (P:=P) (w:=w) (t:=t) (show b4m .add p q=some (vs v) by simp [b4m,hv])]
  trivial
 exact d9f hT hR hx hy
theorem e0u{mx:Bool}{ts:Array TypeId}{x y:Operand}{dx dy v:DV}(hx:Conc W H F dx (a.eval x))(hy:Conc W H F dy (a.eval y))(h:qMM mx dx dy=some v):∃u,Conc W H F v u/\a0p P a w ⟨dst,.call ⟨.builtin (match mx with|true=> .max|false=> .min), #[x,y],ts⟩,type,pos,after,guard⟩ u:=by
 unfold qMM at h;unfold a0p;split at h
 ·rename_i k p k' q;cases hk:decide (k'=k)with
  |false=>simp only [hk]at h;cases h
  |true=>
   simp only [hk]at h;have hk:=of_decide_eq_true hk;subst hk;cases h;simp only [Conc,VR]at hx hy;cases mx with
   |true=>exact⟨_,rfl,by simp [execOp,resolve,invoke,builtin,hx,hy,Builtin.max_,Builtin.max2,imax]⟩
   |false=>exact⟨_,rfl,by simp [execOp,resolve,invoke,builtin,hx,hy,Builtin.min_,Builtin.min2,imin]⟩
 cases h
theorem e1y(hT:TyOk T)(hR:Rel T F0 w0 X W0 W H F w){t:TypeId}{x:Operand}{dx:DV}(hx:Conc W H F dx (a.eval x)):a3e P W H F a w ⟨dst,.call ⟨.builtin .len, #[x], #[t]⟩,type,pos,after,guard⟩ (oLen H dx (T.und t)):=by
 unfold oLen;split
 ·rename_i hu;have hu:=hT.und hu;split
  ·rename_i l;refine⟨_,rfl,?_⟩;unfold a0p;simp only [Conc,VR]at hx;have:=c6j (P:=P) (ty:=type) (w:=w) hu l;simp [execOp,resolve,invoke,builtin,hx,this]
  trivial
 ·rename_i el hu;have hu:=hT.und hu;unfold e6t;split
  ·trivial
  ·trivial
  rename_i h1 h2;split
  ·rename_i k hk;refine⟨_,rfl,?_⟩;unfold a0p;obtain⟨h3,h4⟩:=b8n hR hx hk;obtain⟨ad,m,c,h5⟩:=h4 h1 h2;have h6:=h3 ad m c h5;subst h6;simp [execOp,resolve,invoke,builtin,h5,Builtin.len_,underlying,hu,goInt]
  trivial
 trivial
end
end Dp
end Go.Proofs.YtjegnogjkddnbaaGreatDoor
