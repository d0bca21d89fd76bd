import Derived.Test.YtnpgbbaniknpkaaGreatDoorKR11
import Derived.WalkLawsBesides
namespace Go.Wx
open Go.RowKit
section
variable {P:Program}{n:Nat}{ds:List Deferred}{l:Env}{w:World}{d:Option Tmp}{ty:TypeId}{ps:String}{af:Array Edge}{g:Option (Nat×Bool)}
inductive Vals(l:Env):List Operand→List Value→Prop where
  |nil:Vals l [] []
  |cons {x:Operand} {v:Value} {xs:List Operand} {vs:List Value} (h:Val l x v) (r:Vals l xs vs):Vals l (x::xs) (v::vs)
theorem Ag.HR{a:Act}(h:Ag n ds l a w){xs:List Operand}{vs:List Value}(hv:Vals l xs vs):xs.map a.eval=vs:=by
  induction hv with
  |nil=>rfl
  |cons h1 _ ih=>rw[c8,h.ev h1,ih]
theorem PEv.move{x:Operand}{v:Value}(hx:Val l x v):PEv P n ds l w ⟨d,.move x,ty,ps,af,g⟩ v:=fun a w' ha _=>by
  show Sem.run P (pure (Next.value (a.eval x))) w'=_;rw[ha.ev hx];rfl
theorem PEv.assign{x:Operand}{v:Value}(hx:Val l x v):PEv P n ds l w ⟨d,.assign x,ty,ps,af,g⟩ v:=fun a w' ha _=>by
  show Sem.run P (pure (Next.value (a.eval x))) w'=_;rw[ha.ev hx];rfl
theorem C0{s:Sem Value}{v:Value}{w w':World}(h:s.run P w=.ok v w'):(do pure (Next.value (←s)):Sem Next).run P w=.ok (.value v) w':=by
  rw[Sem.run_bind,h];rfl
theorem Qu{s:Sem Unit}{w w':World}(h:s.run P w=.ok () w'):(do s;pure Next.skip:Sem Next).run P w=.ok .skip w':=by
  rw[Sem.run_bind,h];rfl
theorem PEv.pick{c x y:Operand}{p b e:Bool}(hc:Val l c (.bool p))(hx:p=true→Val l x (.bool b))(hy:p=false→Val l y (.bool e)):PEv P n ds l w ⟨d,.pick c x y,ty,ps,af,g⟩ (.bool (bif p then b else e)):=fun a w' ha _=>by
  show Sem.run P (do pure (Next.value (if ←asBool (a.eval c)then a.eval x else a.eval y))) w'=_
  rw[ha.ev hc]
  cases p with
  |true=>rw[ha.ev (hx rfl)];rfl
  |false=>rw[ha.ev (hy rfl)];rfl
theorem PEv.Cv{c x:Operand}{p b:Bool}(hc:Val l c (.bool p))(hx:p=true→Val l x (.bool b)):PEv P n ds l w ⟨d,.pick c x (.const (.bool false)),ty,ps,af,g⟩ (.bool (p&&b)):=fun a w' ha hu=>by
  have:=PEv.pick (P:=P) (d:=d) (ty:=ty) (ps:=ps) (af:=af) (g:=g) hc hx (fun _=>.const (.bool false)) a w' ha hu
  rw[this];cases p<;>rfl
theorem PEv.Ev{c y:Operand}{p b:Bool}(hc:Val l c (.bool p))(hy:p=false→Val l y (.bool b)):PEv P n ds l w ⟨d,.pick c (.const (.bool true)) y,ty,ps,af,g⟩ (.bool (p||b)):=fun a w' ha hu=>by
  have:=PEv.pick (P:=P) (d:=d) (ty:=ty) (ps:=ps) (af:=af) (g:=g) hc (fun _=>.const (.bool true)) hy a w' ha hu
  rw[this];cases p<;>rfl
theorem PEv.nilCheck{x:Operand}{ad:Addr}(hx:Val l x (.pointer (some ad))):PEv P n ds l w ⟨d,.nilCheck x,ty,ps,af,g⟩ (.pointer (some ad)):=fun a w' ha _=>by
  simp only[execOp,ha.ev hx];rfl
theorem PEv.bin{op:BinOp}{T T':TypeId}{x y:Operand}{k:IntKind}{i j:Int}{v:Value}(hx:Val l x (.int k i))(hy:Val l y (.int k j))(h:∀w,(binOp op T (.int k i) (.int k j)).run P w=.ok v w):
    PEv P n ds l w ⟨d,.binOp op T x y T',ty,ps,af,g⟩ v:=fun a w' ha _=>by
  refine C0 ?_
  rw[ha.ev hx,ha.ev hy,Sem.run_bind]
  have:(eqGuard op T x y (.int k i) (.int k j)).run P w'=.ok () w':=by unfold eqGuard;cases op<;>rfl
  rw[this]
  exact h w'
theorem PEv.lss{T T':TypeId}{x y:Operand}{k:IntKind}{i j:Int}(hx:Val l x (.int k i))(hy:Val l y (.int k j)):PEv P n ds l w ⟨d,.binOp .lss T x y T',ty,ps,af,g⟩ (.bool (decide (i<j))):=.bin hx hy fun w=>by simp[binOp,Op.intCmp]
theorem PEv.leq{T T':TypeId}{x y:Operand}{k:IntKind}{i j:Int}(hx:Val l x (.int k i))(hy:Val l y (.int k j)):PEv P n ds l w ⟨d,.binOp .leq T x y T',ty,ps,af,g⟩ (.bool (decide (i≤j))):=.bin hx hy fun w=>by simp[binOp,Op.intCmp]
theorem PEv.gtr{T T':TypeId}{x y:Operand}{k:IntKind}{i j:Int}(hx:Val l x (.int k i))(hy:Val l y (.int k j)):PEv P n ds l w ⟨d,.binOp .gtr T x y T',ty,ps,af,g⟩ (.bool (decide (j<i))):=.bin hx hy fun w=>by simp[binOp,Op.intCmp]
theorem PEv.geq{T T':TypeId}{x y:Operand}{k:IntKind}{i j:Int}(hx:Val l x (.int k i))(hy:Val l y (.int k j)):PEv P n ds l w ⟨d,.binOp .geq T x y T',ty,ps,af,g⟩ (.bool (decide (j≤i))):=.bin hx hy fun w=>by simp[binOp,Op.intCmp]
theorem PEv.eql{T T':TypeId}{x y:Operand}{k:IntKind}{i j:Int}(hx:Val l x (.int k i))(hy:Val l y (.int k j)):PEv P n ds l w ⟨d,.binOp .eql T x y T',ty,ps,af,g⟩ (.bool (decide (i=j))):=.bin hx hy fun w=>by
  simp[binOp,Op.intCmp];by_cases h:i=j<;>simp[h]
theorem PEv.neq{T T':TypeId}{x y:Operand}{k:IntKind}{i j:Int}(hx:Val l x (.int k i))(hy:Val l y (.int k j)):PEv P n ds l w ⟨d,.binOp .neq T x y T',ty,ps,af,g⟩ (.bool (!decide (i=j))):=.bin hx hy fun w=>by
  simp[binOp,Op.intCmp];by_cases h:i=j<;>simp[h]
theorem PEv.oB{T T':TypeId}{x y:Operand}{k:IntKind}{i j:Int}(hx:Val l x (.int k i))(hy:Val l y (.int k j)):PEv P n ds l w ⟨d,.binOp .add T x y T',ty,ps,af,g⟩ (.int k (k.wrap (i+j))):=.bin hx hy fun w=>by simp[binOp,Op.intArith]
theorem jZ{T T':TypeId}{x y:Operand}{k:IntKind}{i j:Int}(hx:Val l x (.int k i))(hy:Val l y (.int k j)):PEv P n ds l w ⟨d,.binOp .sub T x y T',ty,ps,af,g⟩ (.int k (k.wrap (i-j))):=.bin hx hy fun w=>by simp[binOp,Op.intArith]
theorem Kd{T T':TypeId}{x y:Operand}{k:IntKind}{i j:Int}(hx:Val l x (.int k i))(hy:Val l y (.int k j)):PEv P n ds l w ⟨d,.binOp .mul T x y T',ty,ps,af,g⟩ (.int k (k.wrap (i*j))):=.bin hx hy fun w=>by simp[binOp,Op.intArith]
theorem Ex{i:Int}(h1: -9223372036854775808≤i)(h2:i≤9223372036854775807):IntKind.i64.wrap i=i:=by
  rw[IntKind.wrap_i64];omega
theorem PEv.add{T T':TypeId}{x y:Operand}{i j:Int}(hx:Val l x (.int .i64 i))(hy:Val l y (.int .i64 j))(h1: -9223372036854775808≤i+j)(h2:i+j≤9223372036854775807):PEv P n ds l w ⟨d,.binOp .add T x y T',ty,ps,af,g⟩ (.int .i64 (i+j)):=.bin hx hy fun w=>by
  simp only[binOp,Op.intArith,Ex h1 h2];simp
theorem PEv.sub{T T':TypeId}{x y:Operand}{i j:Int}(hx:Val l x (.int .i64 i))(hy:Val l y (.int .i64 j))(h1: -9223372036854775808≤i-j)(h2:i-j≤9223372036854775807):PEv P n ds l w ⟨d,.binOp .sub T x y T',ty,ps,af,g⟩ (.int .i64 (i-j)):=.bin hx hy fun w=>by
  simp only[binOp,Op.intArith,Ex h1 h2];simp
theorem PEv.inc{T T':TypeId}{x:Operand}{k:Nat}(hx:Val l x (.int .i64 (k:Int)))(h:k<9223372036854775807):PEv P n ds l w ⟨d,.binOp .add T x (.const (.int .i64 1)) T',ty,ps,af,g⟩ (.int .i64 ((k+1:Nat):Int)):=.bin hx (.const _) fun w=>by
  simp only[binOp,Op.intArith,Ex (i:=(k:Int)+1) (by omega) (by omega)];simp
theorem PEv.CA{T T':TypeId}{x y:Operand}{k:IntKind}{i j:Int}(hx:Val l x (.int k i))(hy:Val l y (.int k j)):PEv P n ds l w ⟨d,.binOp .or T x y T',ty,ps,af,g⟩ (.int k (k.wrap (BitVec.ofInt k.bits i|||BitVec.ofInt k.bits j).toNat)):=.bin hx hy fun w=>by simp[binOp,Op.intBits]
theorem PEv.oC{T T':TypeId}{x y:Operand}{k:IntKind}{i j:Int}(hx:Val l x (.int k i))(hy:Val l y (.int k j)):PEv P n ds l w ⟨d,.binOp .andNot T x y T',ty,ps,af,g⟩ (.int k (k.wrap (BitVec.ofInt k.bits i&&& ~~~BitVec.ofInt k.bits j).toNat)):=.bin hx hy fun w=>by simp[binOp,Op.intBits]
theorem PEv.rem{T T':TypeId}{x y:Operand}{k:IntKind}{i j:Int}(hx:Val l x (.int k i))(hy:Val l y (.int k j))(h0:j≠0):PEv P n ds l w ⟨d,.binOp .rem T x y T',ty,ps,af,g⟩ (.int k (i.tmod j)):=.bin hx hy fun w=>by simp[binOp,Op.intDiv,h0]
theorem PEv.quo{T T':TypeId}{x y:Operand}{k:IntKind}{i j:Int}(hx:Val l x (.int k i))(hy:Val l y (.int k j))(h0:j≠0):PEv P n ds l w ⟨d,.binOp .quo T x y T',ty,ps,af,g⟩ (.int k (k.wrap (i.tdiv j))):=.bin hx hy fun w=>by simp[binOp,Op.intDiv,h0]
theorem PEv.K3{T T' e:TypeId}{x:Operand}{p:Option Addr}(hT:P.underlying T=some (.pointer e))(hx:Val l x (.pointer p)):PEv P n ds l w ⟨d,.binOp .eql T x (.const (.pointer none)) T',ty,ps,af,g⟩ (.bool p.isNone):=fun a w' ha _=>by
  refine C0 ?_
  have e1:a.eval (.const (.pointer none))=.pointer none:=rfl
  rw[ha.ev hx,e1,Sem.run_bind]
  have:(eqGuard .eql T x (.const (.pointer none)) (.pointer p) (.pointer none)).run P w'=.ok () w':=by unfold eqGuard;rfl
  rw[this]
  have hp:P.pointee T=e:=by unfold Program.pointee;rw[hT]
  exact run_eql_pointer_nil w' T p (by rw[hp];exact hT)
theorem oD{x y:Operand}{ts:Array TypeId}{i j:Int}(hx:Val l x (.int .i64 i))(hy:Val l y (.int .i64 j)):
    PEv P n ds l w ⟨d,.call { callee:=.builtin .min,args:=#[x,y],argTypes:=ts },ty,ps,af,g⟩ (.int .i64 (if j<i then j else i)):=fun a w' ha _=>by
  rw[BigFrame.execOp_builtin,BigFrame.builtin_min]
  refine C0 ?_
  have e:(#[x,y]:Array Operand).map a.eval=#[.int .i64 i,.int .i64 j]:=by simp[ha.ev hx,ha.ev hy]
  rw[e]
  exact run_min_int2 w' _ _ _ _ _ _
theorem PEv.yR{T T':TypeId}{x y:Operand}{xs ys:Array Value}{b:Bool}(hg:P.eqGuardType P.depth T=false)(he:∀w,(Op.equalIn 10000 T (.agg xs) (.agg ys)).run P w=.ok b w)(hx:Val l x (.agg xs))(hy:Val l y (.agg ys)):PEv P n ds l w ⟨d,.binOp .eql T x y T',ty,ps,af,g⟩ (.bool b):=fun a w' ha _=>by
  refine C0 ?_
  rw[ha.ev hx,ha.ev hy,Sem.run_bind,run_eqGuard_agg w' _ _ _ _ _ _ hg]
  show(binOp .eql T (.agg xs) (.agg ys)).run P w'=_
  rw[run_eql_struct,he];rfl
theorem Ww{d:Nat}{xs ys:Array Value}{f:Field}{fs:List Field}{w:World}{a b:Value}{r:Bool}(hn:f.name≠ "_")(hs:∀w,(isAgg f.type).run P w=.ok false w)(hx:xs[f.offset]?=some a)(hy:ys[f.offset]?=some b)(he:(Op.equalIn d f.type a b).run P w=.ok r w){q:Bool}(hq:(Op.eqFields d xs ys fs).run P w=.ok q w):
    (Op.eqFields d xs ys (f::fs)).run P w=.ok (r&&q) w:=by
  unfold Op.eqFields
  have h1:(part f.type xs f.offset).run P w=.ok a w:=by simp[part,hs,hx,Result.andThen]
  have h2:(part f.type ys f.offset).run P w=.ok b w:=by simp[part,hs,hy,Result.andThen]
  rw[bh hn]
  simp only[Sem.run_bind,h1,h2,he,Result.andThen_ok]
  cases r<;>simp[hq]
theorem PEv.neg{T:TypeId}{x:Operand}{k k':IntKind}{i:Int}(_:P.underlying T=some (.int k'))(hx:Val l x (.int k i)):PEv P n ds l w ⟨d,.unOp .neg T x,ty,ps,af,g⟩ (.int k (k.wrap (-i))):=fun a w' ha _=>by
  refine C0 ?_
  rw[ha.ev hx]
  simp[Op.unary,Op.intArith]
theorem PEv.not{T:TypeId}{x:Operand}{p:Bool}(hx:Val l x (.bool p)):PEv P n ds l w ⟨d,.unOp .not T x,ty,ps,af,g⟩ (.bool !p):=fun a w' ha _=>by
  refine C0 ?_
  rw[ha.ev hx];rfl
def nth:List Value→Nat→Option Value
  |[],_=>none
  |v::_,0=>some v
  |_::l,i+1=>nth l i
theorem oE:∀(l:List Value)(i:Nat),nth l i=l[i]?
  |[],_=>by simp[nth]
  |v::l,0=>by simp[nth]
  |v::l,i+1=>by simp[nth,oE l i]
theorem Wy{cs:Array Value}{i:Nat}{v:Value}(h:nth cs.toList i=some v):cs[i]?=some v:=by rw[oE]at h;simpa using h
theorem PEv.extract{x:Operand}{i:Nat}{vs:Array Value}{v:Value}(hx:Val l x (.tuple vs))(hn:nth vs.toList i=some v):PEv P n ds l w ⟨d,.extract x i,ty,ps,af,g⟩ v:=fun a w' ha _=>by
  refine C0 ?_
  have hv:=Wy hn
  rw[ha.ev hx];simp only[Instr.extract,hv];rfl
theorem PEv.makeFunc{fn:Fn}{cap:Array Operand}{vs:List Value}(hv:Vals l cap.toList vs):PEv P n ds l w ⟨d,.makeFunc fn #[] cap,ty,ps,af,g⟩ (.func fn #[] vs.toArray):=fun a w' ha _=>by
  refine C0 ?_
  have:cap.map a.eval=vs.toArray:=by apply gz;simp[ha.HR hv]
  rw[this];simp[Instr.makeFunc]
theorem PEv.Ck{T e:TypeId}{x:Operand}{ad:Option Addr}{k c:Nat}(hT:P.underlying T=some (.slice e))(hx:Val l x (.slice ad k c)):
    PEv P n ds l w ⟨d,.call { callee:=.builtin .len,args:=#[x],argTypes:=#[T] },ty,ps,af,g⟩ (.int .i64 (k:Int)):=fun a w' ha _=>by
  rw[BigFrame.execOp_builtin,BigFrame.builtin_len]
  refine C0 ?_
  simp[Builtin.len_,run_underlying hT,Sem.run_bind,goInt,ha.ev hx]
theorem PEv.R3{T:TypeId}{x:Operand}{s:ByteArray}(hT:P.underlying T=some .string)(hx:Val l x (.string s)):
    PEv P n ds l w ⟨d,.call { callee:=.builtin .len,args:=#[x],argTypes:=#[T] },ty,ps,af,g⟩ (.int .i64 (s.size:Int)):=fun a w' ha _=>by
  rw[BigFrame.execOp_builtin,BigFrame.builtin_len]
  refine C0 ?_
  simp[Builtin.len_,run_underlying hT,Sem.run_bind,goInt,ha.ev hx]
theorem E3(B o k:Nat):(⟨B,o,none⟩:Addr).add k=⟨B,o+k,none⟩:=by unfold Addr.add;split<;>simp_all
theorem PEv.fieldAddr{S i:Nat}{x:Operand}{fs:Array Field}{f:Field}{off k B o:Nat}(hS:P.underlying S=some (.struct fs))(hf:fs[i]?=some f)(ho:f.offset=off)(hs:∀w,(sizeOf f.type).run P w=.ok k w)(hk:Nat.beq k 0=false)
    (hx:Val l x (.pointer (some ⟨B,o,none⟩))):PEv P n ds l w ⟨d,.fieldAddr S x i,ty,ps,af,g⟩ (.pointer (some ⟨B,o+off,none⟩)):=fun a w' ha _=>by
  refine C0 ?_
  rw[ha.ev hx]
  have hk':k≠0:=fun e=>by subst e;cases hk
  simp[Instr.fieldAt,run_underlying hS,Sem.run_bind,hf,Instr.sureAddr,fieldPlace,hs,hk',ho,E3]
def AggAt(w:World)(B o:Nat)(cs:Array Value):Prop:=∀j v,cs[j]?=some v→w.cell? ⟨B,o+j,none⟩=some v
theorem G2{w w':World}{ad:Addr}{v:Value}(h:w.cell? ad=some v)(k:Up w w'):w'.cell? ad=some v:=(Below.cell k (block_lt_of_cell h)).trans h
theorem AggAt.up{w w':World}{B o:Nat}{cs:Array Value}(h:AggAt w B o cs)(k:Up w w'):AggAt w' B o cs:=fun j v hv=>G2 (h j v hv) k
theorem Blk.cell{w:World}{B:Nat}{cs:Array Value}{T:TypeId}(h:Blk w B cs T){o:Nat}{v:Value}(hv:cs[o]?=some v):w.cell? ⟨B,o,none⟩=some v:=by
  rw[cell_of_row w B o cs T (0,0) h];exact hv
theorem Blk.Ad{w:World}{B:Nat}{cs:Array Value}{T:TypeId}(h:Blk w B cs T){o:Nat}{v:Value}(hv:nth cs.toList o=some v):w.cell? ⟨B,o,none⟩=some v:=h.cell (Wy hv)
theorem AggAt.nth{w:World}{B o:Nat}{cs:Array Value}(h:AggAt w B o cs){j:Nat}{v:Value}(hv:nth cs.toList j=some v):w.cell? ⟨B,o+j,none⟩=some v:=h j v (Wy hv)
theorem Blk.agg{w:World}{B:Nat}{cs:Array Value}{T:TypeId}(h:Blk w B cs T):AggAt w B 0 cs:=fun j v hv=>h.cell (by simpa using hv)
theorem oF{w w':World}{ad:Addr}{v:Value}{B:Nat}(h:w.cell? ad=some v)(k:Sto B w w')(hne:ad.block≠B):w'.cell? ad=some v:=
  (World.cell?_of_block (w:=w) (k.block ad.block (block_lt_of_cell h) hne)).trans h
theorem K4{T:TypeId}{ad:Addr}{v:Value}{w:World}(hT:∀w,(isAgg T).run P w=.ok false w)(hc:w.cell? ad=some v):(loadVar T ad).run P w=.ok v w:=by
  simp[loadVar,Sem.run_bind,hT,hc]
theorem PEv.load{T:TypeId}{x:Operand}{ad:Addr}{v:Value}(hT:∀w,(isAgg T).run P w=.ok false w)(hx:Val l x (.pointer (some ad)))(hc:w.cell? ad=some v):PEv P n ds l w ⟨d,.load T x,ty,ps,af,g⟩ v:=fun a w' ha hu=>by
  refine C0 ?_
  rw[ha.ev hx]
  simp[Instr.loadAt,Instr.sureAddr,K4 hT (G2 hc hu)]
theorem F2{T:TypeId}{B o k:Nat}{cs:Array Value}{w:World}(hT:∀w,(isAgg T).run P w=.ok true w)(hs:∀w,(sizeOf T).run P w=.ok k w)(hk:cs.size=k)(hc:AggAt w B o cs):(loadVar T ⟨B,o,none⟩).run P w=.ok (.agg cs) w:=by
  have:=run_loadCells_list (P:=P) w ⟨B,o,none⟩ cs.toList (fun j v hv=>by rw[E3];exact hc j v (by simpa using hv))
  simp only[c9,Array.toArray_toList,hk]at this
  simp[loadVar,Sem.run_bind,hT,hs,this]
theorem PEv.Fz{T:TypeId}{x:Operand}{B o k:Nat}{cs:Array Value}(hT:∀w,(isAgg T).run P w=.ok true w)(hs:∀w,(sizeOf T).run P w=.ok k w)(hk:cs.size=k)(hx:Val l x (.pointer (some ⟨B,o,none⟩)))(hc:AggAt w B o cs):
    PEv P n ds l w ⟨d,.load T x,ty,ps,af,g⟩ (.agg cs):=fun a w' ha hu=>by
  refine C0 ?_
  rw[ha.ev hx]
  simp[Instr.loadAt,Instr.sureAddr,F2 hT hs hk (hc.up hu)]
theorem PEv.indexAddr{T e:TypeId}{x ix:Operand}{B o k c size j:Nat}(hT:P.underlying T=some (.slice e))(hs:∀w,(sizeOf e).run P w=.ok size w)(hx:Val l x (.slice (some ⟨B,o,none⟩) k c))(hi:Val l ix (.int .i64 (j:Int)))(hj:j<k):
    PEv P n ds l w ⟨d,.indexAddr T x ix,ty,ps,af,g⟩ (.pointer (some ⟨B,o+j*size,none⟩)):=fun a w' ha _=>by
  refine C0 ?_
  rw[ha.ev hx,ha.ev hi]
  simp[Instr.indexAt,asIntOf,run_underlying hT,Sem.run_bind,hs,E3,hj]
theorem Pt(w:World)(cs:Array Value)(T:TypeId):Blk (w.alloc (.cells cs T)) w.heap.size cs T:=heap_alloc_new w _
structure New(w w':World)(B:Nat)(cs:Array Value)(T:TypeId):Prop where
  blk:Blk w' B cs T
  up:Up w w'
  at_:B=w.heap.size
  size:w'.heap.size=B+1
theorem New.alloc(w:World)(cs:Array Value)(T:TypeId):New w (w.alloc (.cells cs T)) w.heap.size cs T:=⟨Pt w cs T,Up.alloc w _,rfl,by simp⟩
def cJ(w:World)(cs:Array Value)(T:TypeId)(v:Value)(w':World):Prop:=∃B,v=.pointer (some ⟨B,0,none⟩)∧New w w' B cs T
theorem REv.box{T:TypeId}{x:Operand}{v:Value}{cs:Array Value}(hx:Val l x v)(hc:v.cells=cs):REv P n ds l w ⟨d,.box T x,ty,ps,af,g⟩ (cJ w cs T):=fun a ha=>by
  subst hc
  refine⟨_,_,C0 (v:=.pointer (some ⟨w.heap.size,0,none⟩)) (w':=w.alloc (.cells v.cells T)) ?_,_,rfl,New.alloc w v.cells T⟩
  rw[ha.ev hx]
  rfl
theorem REv.HY{T:TypeId}{x:Operand}{cs:Array Value}(hx:Val l x (.agg cs)):REv P n ds l w ⟨d,.box T x,ty,ps,af,g⟩ (cJ w cs T):=.box hx rfl
theorem REv.Pu{T:TypeId}{x:Operand}{v:Value}(hx:Val l x v)(hc:v.oneCell'=true):REv P n ds l w ⟨d,.box T x,ty,ps,af,g⟩ (cJ w #[v] T):=.box hx (by cases v<;>first|rfl|cases hc)
theorem REv.alloc{T:TypeId}{v:Value}{cs:Array Value}(hz:∀w,(zeroValue T).run P w=.ok v w)(hc:v.cells=cs):REv P n ds l w ⟨d,.alloc T,ty,ps,af,g⟩ (cJ w cs T):=fun a ha=>by
  subst hc
  refine⟨_,_,C0 (v:=.pointer (some ⟨w.heap.size,0,none⟩)) (w':=w.alloc (.cells v.cells T)) ?_,_,rfl,New.alloc w v.cells T⟩
  simp only[Instr.alloc,Sem.run_bind,hz]
  rfl
theorem REv.Cb{T:TypeId}{cs:Array Value}(hz:∀w,(zeroValue T).run P w=.ok (.agg cs) w):REv P n ds l w ⟨d,.alloc T,ty,ps,af,g⟩ (cJ w cs T):=.alloc hz rfl
theorem REv.Gl{T:TypeId}{v:Value}(hz:∀w,(zeroValue T).run P w=.ok v w)(hc:v.oneCell'=true):REv P n ds l w ⟨d,.alloc T,ty,ps,af,g⟩ (cJ w #[v] T):=.alloc hz (by cases v<;>first|rfl|cases hc)
structure Set_(w w':World)(B:Nat)(cs:Array Value)(T:TypeId):Prop where
  blk:Blk w' B cs T
  sto:Sto B w w'
  size:w'.heap.size=w.heap.size
theorem Set_.setRow{w:World}{B:Nat}{old cs:Array Value}{T:TypeId}(h:Blk w B old T):Set_ w (w.setRow B cs) B cs T:=
  ⟨setRow_heap w B old cs T (0,0) h,⟨rfl,rfl,rfl,by simp,fun k _ hne=>setRow_other w B k cs hne⟩,by simp⟩
theorem New.set{w w' w'':World}{B:Nat}{z cs:Array Value}{T TT:TypeId}(h:New w w' B z T)(k:Set_ w' w'' B cs TT):New w w'' B cs TT:=
  ⟨k.blk,Up.sto h.up k.sto (by rw[h.at_];exact bl _),h.at_,by rw[k.size];exact h.size⟩
theorem SEv.store{T TT:TypeId}{x y:Operand}{B o:Nat}{v:Value}{cs:Array Value}(hs:∀w,(sizeOf T).run P w=.ok 1 w)(hx:Val l x (.pointer (some ⟨B,o,none⟩)))(hy:Val l y v)(h1:v.oneCell'=true)(hb:Blk w B cs TT)(ho:o<cs.size):
    SEv P n ds l w ⟨none,.store T x y,ty,ps,af,g⟩ (fun w'=>Set_ w w' B (cs.setIfInBounds o v) TT):=fun a ha=>by
  refine⟨_,Qu (w':=w.setRow B (cs.setIfInBounds o v)) ?_,Set_.setRow hb⟩
  rw[ha.ev hx,ha.ev hy]
  have hcell:w.cell? ⟨B,o,none⟩=some cs[o]:=hb.cell (by simp[ho])
  have hfr:w.frozen? ⟨B,o,none⟩=false:=frozen_of_row w B o cs TT hb
  have hsz:v.cells=#[v]:=by cases v<;>first|rfl|cases h1
  have hst:=run_store P w ⟨B,o,none⟩ v .plain h1
  rw[hcell]at hst
  simp only[hfr,j7,if_false,setCell_eq_setRow w B o cs TT (0,0) v hb]at hst
  simp only[Instr.storeAt,Instr.sureAddr,Sem.run_bind,Sem.run_pure,Result.andThen,storeVar,hs,hsz]
  simp[storeCells,hst,E3]
theorem SEv.Cc{T TT:TypeId}{x y:Operand}{B k:Nat}{cs old:Array Value}(hs:∀w,(sizeOf T).run P w=.ok k w)(hk:cs.size=k)(hx:Val l x (.pointer (some ⟨B,0,none⟩)))(hy:Val l y (.agg cs))(h1:cs.all (·.oneCell')=true)(hb:Blk w B old TT)(ho:old.size=k):
    SEv P n ds l w ⟨none,.store T x y,ty,ps,af,g⟩ (fun w'=>Set_ w w' B cs TT):=fun a ha=>by
  refine⟨_,Qu (w':=w.setRow B cs) ?_,Set_.setRow hb⟩
  rw[ha.ev hx,ha.ev hy]
  have:=run_storeCells_from (P:=P) B TT cs.toList 0 old w hb (by simp;omega) (fun v hv=>(ck.1 h1) v (by simpa using hv))
  simp only[List.take_zero,du,Array.toArray_toList]at this
  simp only[Instr.storeAt,Instr.sureAddr,Sem.run_bind,Sem.run_pure,Result.andThen,storeVar,hs,Value.cells]
  simp[hk,this]
theorem Cu{x:Operand}{xs:Array Operand}{ts:Array TypeId}{f:FuncId}{lb:Array Value}{vs:List Value}(hx:Val l x (.func (.func f) #[] lb))(hv:Vals l xs.toList vs)(hf:∀args w,(callFunc f args).run P w=.ok (.enter f args) w):
    ∀a,Ag n ds l a w→(execOp a.eval ⟨d,.call { callee:=.value x,args:=xs,argTypes:=ts },ty,ps,af,g⟩).run P w=.ok (.enter f (vs.toArray++lb)) w:=fun a ha=>by
  have e1:xs.map a.eval=vs.toArray:=by apply gz;simp[ha.HR hv]
  simp only[execOp,resolve,ha.ev hx,e1,Deferred.ofValue,Sem.run_bind,Sem.run_pure,Result.andThen,invoke]
  simp[hf]
theorem Yo{m:Nat}{f:FuncId}{fn:Func}{c:Code}{args:Array Value}{R:Ending→World→Prop}{l:Env}(hf:P.funcs[f]?=some fn)(hb:fn.body=some c)(hn:fn.ntmps=n)(hl:∀a,a={ tmps:=args++Array.replicate (n-args.size) undef,defers:=[] }→Ag n [] l a w)
    (h:CW none m P n [] c (bodyPost P fn R) l w):Calls P f args w R:=by
  subst hn
  exact callsIn_wide.1 (callsIn_of_wp (n:=m) hf hb trivial (h _ (hl _ rfl)))
end
section
variable {R:Option Nat}{m:Nat}{P:Program}{n:Nat}{ds:List Deferred}{Q:Exit→Act→World→Prop}{l:Env}{w:World}
theorem Ac{y:Code}(h:CW R m P n ds y Q l w):KW n ds (Exit.then (y.wpIn (FR R) m P Q) Q .normal) l w:=h
theorem Al{id:Nat}(h:KW n ds (Q .normal) l w):KW n ds (Exit.inBlock id Q .normal) l w:=h
theorem Ab{K:Act→World→Prop}{id:Nat}(h:KW n ds (Q (.exit id)) l w):KW n ds (Exit.then K Q (.exit id)) l w:=h
theorem Ar{K:Act→World→Prop}(h:KW n ds (Q .ret) l w):KW n ds (Exit.then K Q .ret) l w:=h
theorem A7{id:Nat}(h:KW n ds (Q .ret) l w):KW n ds (Exit.inBlock id Q .ret) l w:=h
theorem Aq{id:Nat}(h:KW n ds (Q .normal) l w):KW n ds (Exit.inBlock id Q (.exit id)) l w:=fun a ha=>by
  show(if id=id then Q .normal a w else Q (.exit id) a w)
  rw[bh rfl];exact h a ha
theorem J7{id id':Nat}(hne:id'≠id)(h:KW n ds (Q (.exit id')) l w):KW n ds (Exit.inBlock id Q (.exit id')) l w:=fun a ha=>by
  show(if id'=id then Q .normal a w else Q (.exit id') a w)
  rw[aq hne];exact h a ha
theorem Av{σ:Type}{I:σ→World→Prop}{Ig:σ→Env}{μ:σ→Nat}{s:σ}(h:∃s',I s' w∧Sub l (Ig s')∧μ s'<μ s):
    KW n ds (Exit.then (fun a' w'=>∃s',I s' w'∧Ag n ds (Ig s') a' w'∧μ s'<μ s) Q .normal) l w:=fun _ ha=>
  let⟨s',h1,h2,h3⟩:=h
  ⟨s',h1,ha.sub h2,h3⟩
def H2:List Value→Nat→Env
  |[],_=>[]
  |v::vs,k=>(k,.eq v)::H2 vs (k+1)
theorem R4:∀(vs:List Value)(k i:Nat)(ph:Ph),lk (H2 vs k) i=some ph→∃j v,i=k+j∧vs[j]?=some v∧ph=.eq v
  |[],_,_,_,h=>by cases h
  |v::vs,k,i,ph,h=>by
    by_cases e:i=k
    · subst e
      rw[H2,A9]at h
      cases h
      exact⟨0,v,rfl,rfl,rfl⟩
    · rw[H2,Be e]at h
      obtain⟨j,u,h1,h2,h3⟩:=R4 vs (k+1) i ph h
      exact⟨j+1,u,by omega,by simpa using h2,h3⟩
theorem Oi(args:List Value)(h:Nat.ble args.length n=true):Ag n [] (H2 args 0) { tmps:=args.toArray++Array.replicate (n-args.toArray.size) undef,defers:=[] } w:=by
  have hle:=a_ h
  refine⟨rfl,by simp;omega,fun i ph hi=>?_⟩
  obtain⟨j,v,h1,h2,h3⟩:=R4 args 0 i ph hi
  have hj:i=j:=by omega
  subst hj
  subst h3
  have hlt:i<args.length:=(am.1 h2).1
  have h4:args[i]=v:=(am.1 h2).2
  show(args.toArray++Array.replicate (n-args.toArray.size) undef).getD i undef=v
  simp[Array.getElem?_append,hlt,h4]
theorem Qv{m:Nat}{f:FuncId}{fn:Func}{c:Code}{args:List Value}{R:Ending→World→Prop}(hf:P.funcs[f]?=some fn)(hb:fn.body=some c)(hn:fn.ntmps=n)(hl:Nat.ble args.length n=true)
    (h:CW none m P n [] c (bodyPost P fn R) (H2 args 0) w):Calls P f args.toArray w R:=
  Yo hf hb hn (fun a ha=>by subst ha;exact Oi args hl) h
section
variable {fn:Func}{RR:Ending→World→Prop}{a:Act}
theorem tI{t:Tmp}{v:Value}(hr:fn.results=#[.tmp t])(hv:lk l t=some (.eq v))(hR:RR (.returned v) w):KW n [] (bodyPost P fn RR .ret) l w:=fun a ha=>
  ⟨ha.defers,v,by rw[results_tmp hr,ha.val _ _ hv],hR⟩
theorem Gi(hr:fn.results=#[])(hR:RR (.returned (.tuple #[])) w):KW n [] (bodyPost P fn RR .ret) l w:=fun _ ha=>
  ⟨ha.defers,_,results_none hr _ _ _,hR⟩
theorem Dh(hr:fn.results=#[])(hR:RR (.returned (.tuple #[])) w):KW n [] (bodyPost P fn RR .normal) l w:=fun _ ha=>
  ⟨ha.defers,_,results_none hr _ _ _,hR⟩
theorem Gj{t u:Tmp}{v x:Value}(hr:fn.results=#[.tmp t,.tmp u])(hv:lk l t=some (.eq v))(hx:lk l u=some (.eq x))(hR:RR (.returned (.tuple #[v,x])) w):KW n [] (bodyPost P fn RR .ret) l w:=fun a ha=>
  ⟨ha.defers,_,by rw[results_tmp2 hr,ha.val _ _ hv,ha.val _ _ hx],hR⟩
theorem F3{t:Tmp}{T:TypeId}{B k:Nat}{cs:Array Value}(hr:fn.results=#[.cell t T])(hv:lk l t=some (.eq (.pointer (some ⟨B,0,none⟩))))(hT:∀w,(isAgg T).run P w=.ok true w)(hs:∀w,(sizeOf T).run P w=.ok k w)(hk:cs.size=k)(hc:AggAt w B 0 cs)
    (hR:RR (.returned (.agg cs)) w):KW n [] (bodyPost P fn RR .ret) l w:=fun a ha=>
  ⟨ha.defers,.agg cs,by
    have h1:a.tmps.getD t undef=.pointer (some ⟨B,0,none⟩):=ha.val _ _ hv
    rw[bm]at h1
    simp[results,hr,h1,asAddr,F2 hT hs hk hc],hR⟩
theorem oG{t u:Tmp}{T T':TypeId}{B B' k:Nat}{cs:Array Value}{x:Value}(hr:fn.results=#[.cell t T,.cell u T'])(hv:lk l t=some (.eq (.pointer (some ⟨B,0,none⟩))))(hu:lk l u=some (.eq (.pointer (some ⟨B',0,none⟩))))(hT:∀w,(isAgg T).run P w=.ok true w)(hs:∀w,(sizeOf T).run P w=.ok k w)(hk:cs.size=k)(hc:AggAt w B 0 cs)
    (hT':∀w,(isAgg T').run P w=.ok false w)(hx:w.cell? ⟨B',0,none⟩=some x)(hR:RR (.returned (.tuple #[.agg cs,x])) w):KW n [] (bodyPost P fn RR .ret) l w:=fun a ha=>
  ⟨ha.defers,.tuple #[.agg cs,x],by
    have h1:a.tmps.getD t undef=.pointer (some ⟨B,0,none⟩):=ha.val _ _ hv
    have h2:a.tmps.getD u undef=.pointer (some ⟨B',0,none⟩):=ha.val _ _ hu
    rw[bm]at h1 h2
    simp[results,hr,h1,h2,asAddr,F2 hT hs hk hc,K4 hT' hx],hR⟩
end
section
variable {d:Option Tmp}{ty:TypeId}{ps:String}{af:Array Edge}{g:Option (Nat×Bool)}
theorem Bi{xs:Array Operand}{ts:Array TypeId}{f:FuncId}{vs:List Value}(hv:Vals l xs.toList vs)(hf:∀args w,(callFunc f args).run P w=.ok (.enter f args) w):
    ∀a,Ag n ds l a w→(execOp a.eval ⟨d,.call { callee:=.value (.func f),args:=xs,argTypes:=ts },ty,ps,af,g⟩).run P w=.ok (.enter f vs.toArray) w:=fun a ha=>by
  have:=Cu (ds:=ds) (n:=n) (l:=l) (w:=w) (d:=d) (ty:=ty) (ps:=ps) (af:=af) (g:=g) (ts:=ts) (Val.func (l:=l) f) hv hf a ha
  rw[this];simp
theorem Ag.known{t:Tmp}{a:Act}{p:Value→World→Prop}(ha:Ag n ds l a w)(h:lk l t=some (.pred p)):p (a.eval (.tmp t)) w:=ha.val t _ h
theorem Ey{x:Operand}{xs:Array Operand}{ts:Array TypeId}{f:FuncId}{vs:List Value}(hx:Val l x (.func (.func f) #[] #[]))(hv:Vals l xs.toList vs)(hf:∀args w,(callFunc f args).run P w=.ok (.enter f args) w):
    ∀a,Ag n ds l a w→(execOp a.eval ⟨d,.call { callee:=.value x,args:=xs,argTypes:=ts },ty,ps,af,g⟩).run P w=.ok (.enter f vs.toArray) w:=fun a ha=>by
  have:=Cu (ds:=ds) (n:=n) (l:=l) (w:=w) (d:=d) (ty:=ty) (ps:=ps) (af:=af) (g:=g) (ts:=ts) hx hv hf a ha
  rw[this];simp
end
theorem C{f:FuncId}{fn:Func}{c:Code}(hf:P.funcs[f]?=some fn)(hname:(fn.name== "runtime.NumGoroutine")=false)(hb:fn.body=some c):∀args w,(callFunc f args).run P w=.ok (.enter f args) w:=by
  intro args w
  have h:¬fn.name= "runtime.NumGoroutine" :=by simpa using hname
  simp[callFunc,Sem.run_bind,program,Sem.run,Result.andThen,hf,h,hb]
end
def M8:List Nat→Nat→Bool
  |[],_=>false
  |x::l,i=>bif Nat.beq i x then true else M8 l i
def Ce(ks:List Nat):Env→Env
  |[]=>[]
  |(i,ph)::l=>bif M8 ks i then(i,ph)::Ce ks l else Ce ks l
def D7(ks:List Nat):Env→Env
  |[]=>[]
  |(i,ph)::l=>bif M8 ks i then D7 ks l else(i,ph)::D7 ks l
theorem Jd{ks:List Nat}{i:Nat}:M8 ks i=true↔i∈ks:=by
  induction ks with
  |nil=>simp[M8]
  |cons x l ih=>
    by_cases e:i=x
    · subst e;simp[M8]
    · have:Nat.beq i x=false:=by
        cases hb:Nat.beq i x with
        |false=>rfl
        |true=>exact absurd (ci hb) e
      simp[M8,this,ih,e]
theorem Fc{ks:List Nat}:∀{l:Env}{i:Nat}{ph:Ph},lk (Ce ks l) i=some ph→i∈ks∧lk l i=some ph
  |[],_,_,h=>by cases h
  |(j,q)::l,i,ph,h=>by
    unfold Ce at h
    by_cases e:i=j
    · subst e
      cases hm:M8 ks i with
      |true=>rw[hm]at h;simp only[cond_true]at h;rw[A9]at h⊢;exact⟨Jd.1 hm,h⟩
      |false=>
        rw[hm]at h;simp only[cond_false]at h
        have:=(Fc h).1
        rw[←Jd,hm]at this;cases this
    · rw[Be e]
      cases hm:M8 ks j with
      |true=>rw[hm]at h;simp only[cond_true]at h;rw[Be e]at h;exact Fc h
      |false=>rw[hm]at h;simp only[cond_false]at h;exact Fc h
theorem Dc{ks:List Nat}:∀{l:Env}{i:Nat}{ph:Ph},lk (D7 ks l) i=some ph→i∉ks∧lk l i=some ph
  |[],_,_,h=>by cases h
  |(j,q)::l,i,ph,h=>by
    unfold D7 at h
    by_cases e:i=j
    · subst e
      cases hm:M8 ks i with
      |false=>rw[hm]at h;simp only[cond_false]at h;rw[A9]at h⊢;exact⟨fun hh=>(by rw[Jd.2 hh]at hm;cases hm),h⟩
      |true=>
        rw[hm]at h;simp only[cond_true]at h
        have:=(Dc h).1
        exact absurd (Jd.1 hm) this
    · rw[Be e]
      cases hm:M8 ks j with
      |false=>rw[hm]at h;simp only[cond_false]at h;rw[Be e]at h;exact Dc h
      |true=>rw[hm]at h;simp only[cond_true]at h;exact Dc h
theorem Dq:∀{l r:Env}{i:Nat}{ph:Ph},lk (l++r) i=some ph→lk l i=some ph∨lk r i=some ph
  |[],_,_,_,h=>.inr h
  |(j,q)::l,r,i,ph,h=>by
    by_cases e:i=j
    · subst e;rw[e_,A9]at h;rw[A9];exact .inl h
    · rw[e_,Be e]at h;rw[Be e];exact Dq h
def phUp(ph:Ph):Prop:=∀v w w',ph.holds v w→Up w w'→ph.holds v w'
theorem phUp.eq(v:Value):phUp (.eq v):=fun _ _ _ h _=>h
theorem phUp.cond(b:Bool)(v:Value):phUp (.cond b v):=fun _ _ _ h _=>h
def R5:List Oper→List Nat
  |[]=>[]
  |o::l=>(match o.dst with|some d=>d::R5 l|none=>R5 l)
section
variable (R:Option Nat)(m:Nat)(P:Program)(n:Nat)(ds:List Deferred)
def cK(o:Oper)(a:Act)(w:World)(Post:Value→World→Prop):Prop:=
  (∃v w',(execOp a.eval o).run P w=.ok (.value v) w'∧Post v w')∨(∃f args w1,(execOp a.eval o).run P w=.ok (.enter f args) w1∧Ret P f args w1 Post)
def BT(ops:Array Oper)(w0:World)(env:Env)(o:Oper)(ph:Ph):Prop:=
  ∀a w,Up w0 w→Ag n ds env a w→if Region.wanted o (yielded ops a.tmps)=true then cK P o a w (fun v w'=>Up w w'∧ph.holds v w')else ph.holds undef w
def HW(ops:Array Oper)(base:Env)(w0:World):Env→List Oper→(Env→Prop)→Prop
  |done,[],K=>K done
  |done,o::rest,K=>∃ph d,o.dst=some d∧phUp ph∧BT P n ds ops w0 (Ce (o.looksAt ops) done++base) o ph∧HW ops base w0 ((d,ph)::done) rest K
end
def oH(n:Nat)(ops:Array Oper):Bool:=
  (List.range ops.size).all fun i=>
    match ops[i]? with
    |none=>false
    |some o=>
      (match o.dst with|some d=>Nat.ble (d+1) n|none=>false)&&
      (o.after.all fun e=> !Region.binds .any e||Nat.ble (e.on+1) i)&&
      ((List.range ops.size).all fun j=>
        match ops[j]? with
        |none=>true
        |some p=>
          (Nat.beq i j|| !(o.dst==p.dst))&&
          (match p.dst with
            |none=>true
            |some t=> !M8 (o.looksAt ops) t||(o.after.any fun e=>Region.binds .any e&&Nat.beq e.on j)))
section
variable {R:Option Nat}{m:Nat}{P:Program}{n:Nat}{ds:List Deferred}{Q:Exit→Act→World→Prop}{l:Env}{w:World}{ops:Array Oper}
theorem Yp(h:oH n ops=true){i:Nat}{o:Oper}(ho:ops[i]?=some o):
    (∃d,o.dst=some d∧d<n)∧(∀e∈o.after,Region.binds .any e=true→e.on<i)∧
    (∀(j:Nat)(p:Oper),ops[j]?=some p→(i≠j→o.dst≠p.dst)∧(∀t,p.dst=some t→t∈o.looksAt ops→∃e∈o.after,Region.binds .any e=true∧e.on=j)):=by
  have hi:i<ops.size:=(cb.1 ho).1
  have h1:=di.1 h i (cn.2 hi)
  simp only[ho,b6]at h1
  obtain⟨⟨h2,h3⟩,h4⟩:=h1
  refine⟨?_,?_,?_⟩
  · cases hd:o.dst with
    |none=>rw[hd]at h2;cases h2
    |some d=>rw[hd]at h2;exact⟨d,rfl,a_ h2⟩
  · intro e he hb
    have:=ck.1 h3 e he
    rw[hb]at this
    exact a_ (by simpa using this)
  · intro j p hp
    have hj:j<ops.size:=(cb.1 hp).1
    have h5:=di.1 h4 j (cn.2 hj)
    simp only[hp,b6]at h5
    refine⟨fun hne he=>?_,fun t ht hl=>?_⟩
    · have:Nat.beq i j=false:=by
        cases hb:Nat.beq i j with
        |false=>rfl
        |true=>exact absurd (ci hb) hne
      simp[this,he]at h5
    · have h6:=h5.2
      rw[ht]at h6
      simp only[Jd.2 hl,ja,g7]at h6
      rw[←Array.any_toList]at h6
      obtain⟨e,he,hh⟩:=ip.1 h6
      simp only[b6]at hh
      exact⟨e,by simpa using he,hh.1,ci hh.2⟩
theorem Wz{base:Env}{w0:World}{K:Env→Prop}:∀(rest:List Oper)(done:Env),HW P n ds ops base w0 done rest K→
    ∃E:Nat→Env,E 0=done∧K (E rest.length)∧∀(i:Nat)(o:Oper),rest[i]?=some o→∃ph d,o.dst=some d∧phUp ph∧BT P n ds ops w0 (Ce (o.looksAt ops) (E i)++base) o ph∧E (i+1)=(d,ph)::E i
  |[],done,h=>⟨fun _=>done,rfl,h,fun i o hi=>by simp at hi⟩
  |o::rest,done,⟨ph,d,hd,hu,ho,hr⟩=>by
    obtain⟨E,h0,hK,hi⟩:=Wz rest _ hr
    refine⟨fun i=>match i with|0=>done|i+1=>E i,rfl,hK,fun i p hp=>?_⟩
    cases i with
    |zero=>
      simp at hp
      subst hp
      exact⟨ph,d,hd,hu,ho,h0⟩
    |succ i=>exact hi i p (by simpa using hp)
theorem Lt{o:Oper}{a:Act}{Post:Value→World→Prop}{K:Act→World→Prop}{w:World}(h:cK P o a w Post)(hk:∀v w',Post v w'→K (a.put o.dst v) w'):o.wpIn (FR R) m P a w K Q:=by
  rcases h with⟨v,w',hr,hp⟩|⟨f,args,w1,hr,hc⟩
  · exact G5 hr (hk v w' hp)
  · exact Np hr hc hk
theorem kA{w0:World}{base:Env}(hok:oH n ops=true)(E:Nat→Env)(hE0:E 0=[])
    (hE:∀(i:Nat)(o:Oper),ops[i]?=some o→∃ph d,o.dst=some d∧phUp ph∧BT P n ds ops w0 (Ce (o.looksAt ops) (E i)++base) o ph∧E (i+1)=(d,ph)::E i)
    (hbase:∀i ph,lk base i=some ph→phUp ph∧∀(j:Nat)(o:Oper),ops[j]?=some o→o.dst≠some i)
    (hQ:∀a w,Up w0 w→Ag n ds (E ops.size++base) a w→Q .normal a w):
    ∀(fuel:Nat)(listed:Array Bool)(a:Act)(w:World),listed.size=ops.size→listed.toList.countP (· ==false)≤fuel→Up w0 w→Ag n ds base a w→
      (∀(j:Nat)(o:Oper)(d:Nat)(ph:Ph),ops[j]?=some o→o.dst=some d→E (j+1)=(d,ph)::E j→listed.getD j false=true→ph.holds (a.tmps.getD d undef) w)→
      wpAnyIn (FR R) m P .any ops Q fuel listed a w:=by
  -- a slot of a part of E comes of an operation ahead
  have hEl:∀k i ph,k≤ops.size→lk (E k) i=some ph→∃j o,j<k∧ops[j]?=some o∧o.dst=some i∧E (j+1)=(i,ph)::E j:=by
    intro k
    induction k with
    |zero=>intro i ph _ h;rw[hE0]at h;cases h
    |succ k ih=>
      intro i ph hk h
      have hko:ops[k]?=some ops[k]:=by simp[show k<ops.size by omega]
      obtain⟨q,d,hd,_,_,he⟩:=hE k _ hko
      rw[he]at h
      by_cases e:i=d
      · subst e
        rw[A9]at h
        cases h
        exact⟨k,_,by omega,hko,hd,he⟩
      · rw[Be e]at h
        obtain⟨j,o,h1,h2⟩:=ih i ph (by omega) h
        exact⟨j,o,by omega,h2⟩
  have hall:∀(listed:Array Bool),listed.size=ops.size→Region.ready .any ops listed=[]→∀i,i<ops.size→listed.getD i false=true:=by
    intro listed hs hr i
    induction i using Nat.strongRecOn with
    |_ i ih=>
      intro hi
      cases hb:listed.getD i false with
      |true=>rfl
      |false=>
        exfalso
        have hmem:i∈Region.ready .any ops listed:=by
          unfold Region.ready
          rw[fe]
          refine⟨cn.2 hi,?_⟩
          have hio:ops[i]?=some ops[i]:=by simp[hi]
          have hlt:i<listed.size:=by omega
          have hb':listed.getD i true=false:=by
            rw[bm]at hb⊢
            simp only[hlt,ce,dr]at hb⊢
            exact hb
          simp only[hb',Bool.not_false,hio,ga,dr,Bool.true_and]
          refine ck.2 fun e he=>?_
          cases hbe:Region.binds .any e with
          |false=>rfl
          |true=>
            have:=(Yp hok hio).2.1 e he hbe
            simp[ih e.on this (by omega)]
        rw[hr]at hmem
        cases hmem
  have hdone:∀(listed:Array Bool)(a:Act)(w:World),listed.size=ops.size→Region.ready .any ops listed=[]→Up w0 w→Ag n ds base a w→
      (∀(j:Nat)(o:Oper)(d:Nat)(ph:Ph),ops[j]?=some o→o.dst=some d→E (j+1)=(d,ph)::E j→listed.getD j false=true→ph.holds (a.tmps.getD d undef) w)→Q .normal a w:=by
    intro listed a w hs hr hu ha hI
    refine hQ a w hu ⟨ha.defers,ha.size,fun i ph hi=>?_⟩
    rcases Dq hi with h|h
    · obtain⟨j,o,hj,ho,hd,he⟩:=hEl _ _ _ (bl _) h
      exact hI j o i ph ho hd he (hall listed hs hr j hj)
    · exact ha.val i ph h
  intro fuel
  induction fuel with
  |zero=>
    intro listed a w hs hc hu ha hI
    have hnone:∀i,i<ops.size→listed.getD i false=true:=by
      intro i hi
      have h0:listed.toList.countP (· ==false)=0:=by omega
      rw[gp]at h0
      have hlt:i<listed.size:=by omega
      have:=h0 listed[i] (by simp)
      rw[bm]
      simp only[hlt,ce,dr]
      simpa using this
    have hr:Region.ready .any ops listed=[]:=by
      unfold Region.ready
      rw[ft]
      intro i hi
      have hi':=cn.1 hi
      have h1:=hnone i hi'
      have hlt:i<listed.size:=by omega
      have:listed.getD i true=true:=by
        rw[bm]at h1⊢
        simp only[hlt,ce,dr]at h1⊢
        exact h1
      simp[this]
    exact⟨hr,hdone listed a w hs hr hu ha hI⟩
  |succ fuel ih=>
    intro listed a w hs hc hu ha hI
    refine⟨fun hr=>hdone listed a w hs hr hu ha hI,fun i hi=>?_⟩
    unfold Region.ready at hi
    rw[fe]at hi
    obtain⟨hir,hi2⟩:=hi
    have hi':i<ops.size:=cn.1 hir
    have hio:ops[i]?=some ops[i]:=by simp[hi']
    generalize ops[i]=o at hio
    simp only[b6,hio,ga,dr]at hi2
    obtain⟨hb,hed⟩:=hi2
    have hlt:i<listed.size:=by omega
    have hbi:listed[i]=false:=by
      rw[bm]at hb
      simp only[hlt,ce,dr]at hb
      simpa using hb
    obtain⟨hd0,hon,hpair⟩:=Yp hok hio
    obtain⟨ph,d,hd,hup,hop,hEi⟩:=hE i o hio
    have hdn:d<n:=by obtain⟨d',h1,h2⟩:=hd0;rw[hd]at h1;cases h1;exact h2
    -- what the operation looks at is known
    have hag:Ag n ds (Ce (o.looksAt ops) (E i)++base) a w:=by
      refine⟨ha.defers,ha.size,fun t q ht=>?_⟩
      rcases Dq ht with h|h
      · obtain⟨h1,h2⟩:=Fc h
        obtain⟨j,p,hj,hp,hpd,hEj⟩:=hEl _ _ _ (by omega) h2
        obtain⟨e,he,hbe,hon'⟩:=(hpair j p hp).2 t hpd h1
        have:=ck.1 hed e he
        rw[hbe,hon']at this
        exact hI j p t q hp hpd hEj (by simpa using this)
      · exact ha.val t q h
    have step:∀v w',Up w w'→ph.holds v w'→wpAnyIn (FR R) m P .any ops Q fuel (listed.setIfInBounds i true) (a.put o.dst v) w':=by
      intro v w' hu' hv
      have hcnt:(listed.setIfInBounds i true).toList.countP (· ==false)≤fuel:=by
        rw[il,ky (by simpa using hlt)]
        have hpos:0<listed.toList.countP (· ==false):=j3.2 ⟨listed[i],by simp,by simp[hbi]⟩
        have e1:(listed.toList[i]'(by simpa using hlt)==false)=true:=by simp[hbi]
        rw[bh e1,aq (by simp)]
        omega
      refine ih _ _ _ (by simpa using hs) hcnt (hu.trans hu') ?_ ?_
      · refine⟨by rw[hd];exact ha.defers,by rw[hd];simp[Act.put,ha.size],fun t q ht=>?_⟩
        have hne:t≠d:=fun e=>(hbase t q ht).2 i o hio (by rw[hd,e])
        rw[hd,Dp hne]
        exact(hbase t q ht).1 _ _ _ (ha.val t q ht) hu'
      · intro j p d' q hp hpd hEj hl
        by_cases e:j=i
        · subst e
          rw[hio]at hp
          cases hp
          rw[hd]at hpd
          cases hpd
          rw[hEi]at hEj
          cases hEj
          rw[hd,Fj (by rw[ha.size];exact hdn)]
          exact hv
        · have hne:d'≠d:=fun ee=>(hpair j p hp).1 (fun ee=>e ee.symm) (by rw[hd,hpd,ee])
          rw[hd,Dp hne]
          obtain⟨q',d'',hd'',hup',_,hEj'⟩:=hE j p hp
          rw[hEj]at hEj'
          cases hEj'
          have hl':listed.getD j false=true:=by
            rw[bm,ki (fun ee=>e ee.symm)]at hl
            rw[bm];exact hl
          exact hup' _ _ _ (hI j p d' q hp hpd hEj hl') hu'
    have h2:=hop a w hu hag
    unfold wpOpIn
    rw[hio]
    dsimp only
    by_cases hw:Region.wanted o (yielded ops a.tmps)=true
    · rw[bh hw]at h2⊢
      exact Lt h2 fun v w'⟨h3,h4⟩=>step v w' h3 h4
    · rw[aq hw]at h2⊢
      exact⟨fun _ _=>trivial,step _ _ (Up.refl w) h2⟩
theorem R6{l:List Oper}{o:Oper}{d:Nat}(h:o∈l)(hd:o.dst=some d):d∈R5 l:=by
  induction l with
  |nil=>cases h
  |cons p l ih=>
    unfold R5
    rcases bp.1 h with e|e
    · subst e;rw[hd];exact b7
    · cases p.dst with
      |none=>exact ih e
      |some x=>exact b_ _ (ih e)
theorem C5{id:Nat}{opsL:List Oper}(hm:P.follows .mixedOrders=true)(hok:oH n opsL.toArray=true)(hl:Cq l=true){base:Env}(hb:D7 (R5 opsL) l=base)
    (h:HW P n ds opsL.toArray base w [] opsL (fun env=>∀w',Up w w'→KW n ds (Q .normal) (env++base) w')):CW R m P n ds (.region id opsL.toArray true) Q l w:=by
  intro a ha
  obtain⟨E,hE0,hK,hE⟩:=Wz _ _ h
  subst hb
  refine wpIn_region_any hm (kA (w0:=w) (base:=D7 (R5 opsL) l) hok E hE0 (fun i o ho=>hE i o (by simpa using ho)) ?_ ?_ _ _ _ _ (by simp) ?_ (Up.drew w) ?_ ?_)
  · intro i ph hi
    obtain⟨h1,h2⟩:=Dc hi
    refine⟨fun v w1 w2 hv _=>Gb hl h2 hv,fun j o ho hd=>h1 (R6 (by have:=ai (l:=opsL) (i:=j) (by simpa using ho);exact this) hd)⟩
  · intro a' w' hu ha'
    exact hK w' hu a' (by simpa using ha')
  · have:(Array.replicate opsL.toArray.size false).toList.countP (· ==false)≤(Array.replicate opsL.toArray.size false).toList.length:=i8
    simpa using this
  · exact⟨ha.defers,ha.size,fun i ph hi=>Gb hl (Dc hi).2 (ha.val _ _ (Dc hi).2)⟩
  · intro j o d ph ho hd _ hlj
    rw[bm,ff]at hlj
    split at hlj<;>simp at hlj
section
variable {base done:Env}{w0:World}{o:Oper}{rest:List Oper}{K:Env→Prop}{d:Nat}
theorem HW.nil(h:K done):HW P n ds ops base w0 done [] K:=h
theorem HW.p{v:Value}(h:PEv P n ds (Ce (o.looksAt ops) done++base) w0 o v)(hg:o.guard=none)(hd:o.dst=some d)(k:HW P n ds ops base w0 ((d,.eq v)::done) rest K):HW P n ds ops base w0 done (o::rest) K:=
  ⟨.eq v,d,hd,phUp.eq v,fun a w hu ha=>by
    rw[bh (by simp[Region.wanted,hg])]
    exact .inl ⟨v,w,h a w ha hu,Up.refl w,rfl⟩,k⟩
theorem Fe{v:Value}{j dj:Nat}{oj:Oper}{want b:Bool}(hg:o.guard=some (j,want))(hj:ops[j]?=some oj)(hdj:oj.dst=some dj)(hdn:Nat.ble (dj+1) n=true)(hb:lk (Ce (o.looksAt ops) done++base) dj=some (.eq (.bool b)))
    (hd:o.dst=some d)(h:(b==want)=true→PEv P n ds (Ce (o.looksAt ops) done++base) w0 o v)(k:HW P n ds ops base w0 ((d,.cond (b==want) v)::done) rest K):HW P n ds ops base w0 done (o::rest) K:=
  ⟨.cond (b==want) v,d,hd,phUp.cond _ v,fun a w hu ha=>by
    have hw:=D6 (o:=o) (ops:=ops) (a:=a) hg hj hdj (by rw[ha.size];exact a_ hdn) (ha.val _ _ hb)
    rw[hw]
    cases hc:(b==want)with
    |true=>exact .inl ⟨v,w,h hc a w ha hu,Up.refl w,rfl⟩
    |false=>exact rfl,k⟩
theorem R7{v:Value}{j dj:Nat}{oj:Oper}{want b B:Bool}(hg:o.guard=some (j,want))(hj:ops[j]?=some oj)(hdj:oj.dst=some dj)(hdn:Nat.ble (dj+1) n=true)(hb:lk (Ce (o.looksAt ops) done++base) dj=some (.cond B (.bool b)))
    (hd:o.dst=some d)(h:(B&&(b==want))=true→PEv P n ds (Ce (o.looksAt ops) done++base) w0 o v)(k:HW P n ds ops base w0 ((d,.cond (B&&(b==want)) v)::done) rest K):HW P n ds ops base w0 done (o::rest) K:=
  ⟨.cond (B&&(b==want)) v,d,hd,phUp.cond _ v,fun a w hu ha=>by
    have hv:=ha.val _ _ hb
    cases hB:B with
    |false=>
      subst hB
      have hw:=He (o:=o) (ops:=ops) (a:=a) hg hj hdj hv (fun b e=>by cases e)
      rw[aq (by rw[hw];exact ca)]
      exact rfl
    |true=>
      subst hB
      have hw:=D6 (o:=o) (ops:=ops) (a:=a) hg hj hdj (by rw[ha.size];exact a_ hdn) hv
      rw[hw]
      cases hc:(b==want)with
      |true=>exact .inl ⟨v,w,h (by rw[hc];rfl) a w ha hu,Up.refl w,rfl⟩
      |false=>exact rfl,k⟩
theorem HW.c{v:Value}{f:FuncId}{args:Array Value}(he:∀a w,Up w0 w→Ag n ds (Ce (o.looksAt ops) done++base) a w→(execOp a.eval o).run P w=.ok (.enter f args) w)(hg:o.guard=none)(hd:o.dst=some d)
    (hc:∀w,Up w0 w→Ret P f args w fun u w'=>u=v∧Up w w')(k:HW P n ds ops base w0 ((d,.eq v)::done) rest K):HW P n ds ops base w0 done (o::rest) K:=
  ⟨.eq v,d,hd,phUp.eq v,fun a w hu ha=>by
    rw[bh (by simp[Region.wanted,hg])]
    exact .inr ⟨f,args,w,he a w hu ha,(hc w hu).mono fun u w'⟨h1,h2⟩=>⟨h2,h1⟩⟩,k⟩
theorem CB{v:Value}{f:FuncId}{args:Array Value}{j dj:Nat}{oj:Oper}{want b:Bool}(hg:o.guard=some (j,want))(hj:ops[j]?=some oj)(hdj:oj.dst=some dj)(hdn:Nat.ble (dj+1) n=true)(hb:lk (Ce (o.looksAt ops) done++base) dj=some (.eq (.bool b)))
    (hd:o.dst=some d)(he:(b==want)=true→∀a w,Up w0 w→Ag n ds (Ce (o.looksAt ops) done++base) a w→(execOp a.eval o).run P w=.ok (.enter f args) w)
    (hc:(b==want)=true→∀w,Up w0 w→Ret P f args w fun u w'=>u=v∧Up w w')(k:HW P n ds ops base w0 ((d,.cond (b==want) v)::done) rest K):HW P n ds ops base w0 done (o::rest) K:=
  ⟨.cond (b==want) v,d,hd,phUp.cond _ v,fun a w hu ha=>by
    have hw:=D6 (o:=o) (ops:=ops) (a:=a) hg hj hdj (by rw[ha.size];exact a_ hdn) (ha.val _ _ hb)
    rw[hw]
    cases hcc:(b==want)with
    |true=>exact .inr ⟨f,args,w,he hcc a w hu ha,(hc hcc w hu).mono fun u w'⟨h1,h2⟩=>⟨h2,h1⟩⟩
    |false=>exact rfl,k⟩
theorem CC{j dj:Nat}{oj:Oper}{want:Bool}{v:Value}(hg:o.guard=some (j,want))(hj:ops[j]?=some oj)(hdj:oj.dst=some dj)(hdn:Nat.ble (dj+1) n=true)(hb:lk (Ce (o.looksAt ops) done++base) dj=some (.eq (.bool want)))
    (h:PEv P n ds (Ce (o.looksAt ops) done++base) w0 o v)(hd:o.dst=some d)(k:HW P n ds ops base w0 ((d,.eq v)::done) rest K):HW P n ds ops base w0 done (o::rest) K:=
  ⟨.eq v,d,hd,phUp.eq v,fun a w hu ha=>by
    have hw:=D6 (o:=o) (ops:=ops) (a:=a) hg hj hdj (by rw[ha.size];exact a_ hdn) (ha.val _ _ hb)
    have e:(want==want)=true:=by cases want<;>rfl
    rw[hw,e,bh rfl]
    exact .inl ⟨v,w,h a w ha hu,Up.refl w,rfl⟩,k⟩
theorem xF{j dj:Nat}{oj:Oper}{want:Bool}{v:Value}{f:FuncId}{args:Array Value}(hg:o.guard=some (j,want))(hj:ops[j]?=some oj)(hdj:oj.dst=some dj)(hdn:Nat.ble (dj+1) n=true)(hb:lk (Ce (o.looksAt ops) done++base) dj=some (.eq (.bool want)))
    (he:∀a w,Up w0 w→Ag n ds (Ce (o.looksAt ops) done++base) a w→(execOp a.eval o).run P w=.ok (.enter f args) w)(hd:o.dst=some d)
    (hc:∀w,Up w0 w→Ret P f args w fun u w'=>u=v∧Up w w')(k:HW P n ds ops base w0 ((d,.eq v)::done) rest K):HW P n ds ops base w0 done (o::rest) K:=
  ⟨.eq v,d,hd,phUp.eq v,fun a w hu ha=>by
    have hw:=D6 (o:=o) (ops:=ops) (a:=a) hg hj hdj (by rw[ha.size];exact a_ hdn) (ha.val _ _ hb)
    have e:(want==want)=true:=by cases want<;>rfl
    rw[hw,e,bh rfl]
    exact .inr ⟨f,args,w,he a w hu ha,(hc w hu).mono fun u w'⟨h1,h2⟩=>⟨h2,h1⟩⟩,k⟩
theorem HW.no{j dj:Nat}{oj:Oper}{want b:Bool}(hg:o.guard=some (j,want))(hj:ops[j]?=some oj)(hdj:oj.dst=some dj)(hdn:Nat.ble (dj+1) n=true)(hb:lk (Ce (o.looksAt ops) done++base) dj=some (.eq (.bool b)))(hne:(b==want)=false)(hd:o.dst=some d)
    (k:HW P n ds ops base w0 ((d,.eq undef)::done) rest K):HW P n ds ops base w0 done (o::rest) K:=
  ⟨.eq undef,d,hd,phUp.eq _,fun a w hu ha=>by
    have hw:=D6 (o:=o) (ops:=ops) (a:=a) hg hj hdj (by rw[ha.size];exact a_ hdn) (ha.val _ _ hb)
    rw[hw,hne,aq ca]
    exact rfl,k⟩
theorem Nq{j dj:Nat}{oj:Oper}{want b B:Bool}(hg:o.guard=some (j,want))(hj:ops[j]?=some oj)(hdj:oj.dst=some dj)(hdn:Nat.ble (dj+1) n=true)(hb:lk (Ce (o.looksAt ops) done++base) dj=some (.cond B (.bool b)))(hne:(b==want)=false)(hd:o.dst=some d)
    (k:HW P n ds ops base w0 ((d,.eq undef)::done) rest K):HW P n ds ops base w0 done (o::rest) K:=
  ⟨.eq undef,d,hd,phUp.eq _,fun a w hu ha=>by
    have hv:=ha.val _ _ hb
    cases hB:B with
    |false=>
      subst hB
      have hw:=He (o:=o) (ops:=ops) (a:=a) hg hj hdj hv (fun b e=>by cases e)
      rw[aq (by rw[hw];exact ca)]
      exact rfl
    |true=>
      subst hB
      have hw:=D6 (o:=o) (ops:=ops) (a:=a) hg hj hdj (by rw[ha.size];exact a_ hdn) hv
      rw[hw,hne,aq ca]
      exact rfl,k⟩
theorem Ew{j dj:Nat}{oj:Oper}{want:Bool}(hg:o.guard=some (j,want))(hj:ops[j]?=some oj)(hdj:oj.dst=some dj)(hb:lk (Ce (o.looksAt ops) done++base) dj=some (.eq undef))(hd:o.dst=some d)
    (k:HW P n ds ops base w0 ((d,.eq undef)::done) rest K):HW P n ds ops base w0 done (o::rest) K:=
  ⟨.eq undef,d,hd,phUp.eq _,fun a w hu ha=>by
    have hw:=He (o:=o) (ops:=ops) (a:=a) hg hj hdj (ha.val _ _ hb) (fun b e=>by cases e)
    rw[aq (by rw[hw];exact ca)]
    exact rfl,k⟩
theorem yS{ph:Ph}{j dj:Nat}{oj:Oper}{want:Bool}(hp:phUp ph)(hg:o.guard=some (j,want))(hj:ops[j]?=some oj)(hdj:oj.dst=some dj)(hdn:Nat.ble (dj+1) n=true)(hb:lk (Ce (o.looksAt ops) done++base) dj=some (.eq (.bool want)))
    (h:∀a w,Up w0 w→Ag n ds (Ce (o.looksAt ops) done++base) a w→∃f args,(execOp a.eval o).run P w=.ok (.enter f args) w∧Ret P f args w fun v w'=>Up w w'∧ph.holds v w')(hd:o.dst=some d)(k:HW P n ds ops base w0 ((d,ph)::done) rest K):HW P n ds ops base w0 done (o::rest) K:=
  ⟨ph,d,hd,hp,fun a w hu ha=>by
    have hw:=D6 (o:=o) (ops:=ops) (a:=a) hg hj hdj (by rw[ha.size];exact a_ hdn) (ha.val _ _ hb)
    have e:(want==want)=true:=by cases want<;>rfl
    rw[hw,e,bh rfl]
    obtain⟨f,args,h1,h2⟩:=h a w hu ha
    exact .inr ⟨f,args,w,h1,h2⟩,k⟩
end
end
section
variable {R:Option Nat}{m:Nat}{P:Program}{n:Nat}{ds:List Deferred}{Q:Exit→Act→World→Prop}{l:Env}{w:World}{ops:Array Oper}{rest:List Oper}{op:Op}{ty:TypeId}{ps:String}{af:Array Edge}{v:Value}{d t:Nat}
theorem U(h:PEv P n ds l w ⟨some d,op,ty,ps,af,none⟩ v)(k:LW R m P n ds ops Q rest ((d,.eq v)::l) w)(hn:Nat.ble (d+1) n=true:=by exact rfl):LW R m P n ds ops Q (⟨some d,op,ty,ps,af,none⟩::rest) l w:=LW.p h rfl rfl hn k
theorem I(hx:lk l t=some (.eq v))(k:LW R m P n ds ops Q rest ((d,.eq v)::l) w)(hn:Nat.ble (d+1) n=true:=by exact rfl):LW R m P n ds ops Q (⟨some d,.move (.tmp t),ty,ps,af,none⟩::rest) l w:=LW.p (PEv.move (.tmp hx)) rfl rfl hn k
theorem LW.A(hx:lk l t=some (.eq v))(k:LW R m P n ds ops Q rest ((d,.eq v)::l) w)(hn:Nat.ble (d+1) n=true:=by exact rfl):LW R m P n ds ops Q (⟨some d,.assign (.tmp t),ty,ps,af,none⟩::rest) l w:=LW.p (PEv.assign (.tmp hx)) rfl rfl hn k
theorem Az(k:LW R m P n ds ops Q rest ((d,.eq v)::l) w)(hn:Nat.ble (d+1) n=true:=by exact rfl):LW R m P n ds ops Q (⟨some d,.assign (.const v),ty,ps,af,none⟩::rest) l w:=LW.p (PEv.assign (.const _)) rfl rfl hn k
theorem Ah{y:Code}{ops:Array Oper}(h:CW R m P n ds y Q l w):LW R m P n ds ops (Exit.then (y.wpIn (FR R) m P Q) Q) [] l w:=LW.nil (Ac h)
theorem An{x y:Code}{ops:Array Oper}(h:CW R m P n ds x (Exit.then (y.wpIn (FR R) m P Q) Q) l w):LW R m P n ds ops (Exit.then ((Code.seq x y).wpIn (FR R) m P Q) Q) [] l w:=LW.nil (Ac (Ai h))
theorem Af{y:Code}{id:Nat}{ops:List Oper}(h:LW R m P n ds ops.toArray (Exit.then (y.wpIn (FR R) m P Q) Q) ops l w):CW R m P n ds (.seq (.region id ops.toArray false) y) Q l w:=Ai (Aa h)
theorem Au{g:Option Nat}{j dj:Nat}{oj:Oper}{want:Bool}(k:LW R m P n ds ops Q (⟨g,op,ty,ps,af,none⟩::rest) l w)(hj:ops[j]?=some oj:=by exact rfl)(hdj:oj.dst=some dj:=by exact rfl)(hdn:Nat.ble (dj+1) n=true:=by exact rfl)(hb:lk l dj=some (.eq (.bool want)):=by exact rfl):LW R m P n ds ops Q (⟨g,op,ty,ps,af,some (j,want)⟩::rest) l w:=LW.yes rfl rfl hj hdj hdn hb k
theorem Bh{j dj:Nat}{oj:Oper}{want b:Bool}(k:LW R m P n ds ops Q rest ((d,.eq undef)::l) w)(hj:ops[j]?=some oj:=by exact rfl)(hdj:oj.dst=some dj:=by exact rfl)(hdn:Nat.ble (dj+1) n=true:=by exact rfl)(hb:lk l dj=some (.eq (.bool b)):=by exact rfl)(hne:(b==want)=false:=by exact rfl)(hn:Nat.ble (d+1) n=true:=by exact rfl):LW R m P n ds ops Q (⟨some d,op,ty,ps,af,some (j,want)⟩::rest) l w:=LW.no rfl hj hdj hdn hb hne rfl hn k
end
section
variable {P:Program}{n:Nat}{ds:List Deferred}{ops:Array Oper}{base done:Env}{w0:World}{rest:List Oper}{K:Env→Prop}{d t:Nat}{op:Op}{ty:TypeId}{ps:String}{af:Array Edge}{v:Value}
theorem J(h:PEv P n ds (Ce (Oper.looksAt ops ⟨some d,op,ty,ps,af,none⟩) done++base) w0 ⟨some d,op,ty,ps,af,none⟩ v)(k:HW P n ds ops base w0 ((d,.eq v)::done) rest K):HW P n ds ops base w0 done (⟨some d,op,ty,ps,af,none⟩::rest) K:=HW.p h rfl rfl k
end
theorem dT{p:Prop}[Decidable p](h:decide p=true):p:=b9 h
theorem dF{p:Prop}[Decidable p](h:decide p=false):¬p:=cd h
section
variable {R:Option Nat}{m:Nat}{P:Program}{n:Nat}{ds:List Deferred}{Q:Exit→Act→World→Prop}{l:Env}{w:World}{ops:Array Oper}{rest:List Oper}{o:Oper}
theorem Ap{Post:Value→World→Prop}{d:Nat}(h:REv P n ds l w o Post)(hd:o.dst=some d)(k:∀v w',Post v w'→LW R m P n ds ops Q rest ((d,.eq v)::l) w')(hg:o.guard=none:=by exact rfl)(hn:Nat.ble (d+1) n=true:=by exact rfl)(hl:Cq l=true:=by exact rfl):LW R m P n ds ops Q (o::rest) l w:=LW.r h hg hd hn hl k
theorem Cd{Post:World→Prop}(h:SEv P n ds l w o Post)(k:∀w',Post w'→LW R m P n ds ops Q rest l w')(hg:o.guard=none:=by exact rfl)(hd:o.dst=none:=by exact rfl)(hl:Cq l=true:=by exact rfl):LW R m P n ds ops Q (o::rest) l w:=LW.s h hg hd hl k
theorem A4{f:FuncId}{args:Array Value}{Post:Value→World→Prop}{d:Nat}(he:∀a,Ag n ds l a w→(execOp a.eval o).run P w=.ok (.enter f args) w)(hd:o.dst=some d)(hc:Ret P f args w Post)(k:∀v w',Post v w'→LW R m P n ds ops Q rest ((d,.eq v)::l) w')(hg:o.guard=none:=by exact rfl)(hn:Nat.ble (d+1) n=true:=by exact rfl)(hl:Cq l=true:=by exact rfl):LW R m P n ds ops Q (o::rest) l w:=LW.c he hg hd hn hl hc k
theorem PEv.fA{d:Option Tmp}{ty:TypeId}{ps:String}{af:Array Edge}{g:Option (Nat×Bool)}{S i t:Nat}{fs:Array Field}{f:Field}(off:Nat){k B o:Nat}(hS:P.underlying S=some (.struct fs))(hf:fs[i]?=some f)(hs:∀w,(sizeOf f.type).run P w=.ok k w)(hx:lk l t=some (.eq (.pointer (some ⟨B,o,none⟩))))(ho:f.offset=off:=by exact rfl)(hk:Nat.beq k 0=false:=by exact rfl):PEv P n ds l w ⟨d,.fieldAddr S (.tmp t) i,ty,ps,af,g⟩ (.pointer (some ⟨B,o+off,none⟩)):=PEv.fieldAddr (off:=off) hS hf ho hs hk (.tmp hx)
theorem PEv.ld{d:Option Tmp}{ty:TypeId}{ps:String}{af:Array Edge}{g:Option (Nat×Bool)}{T:TypeId}{t:Nat}{ad:Addr}{v:Value}(hT:∀w,(isAgg T).run P w=.ok false w)(hx:lk l t=some (.eq (.pointer (some ad))))(hc:w.cell? ad=some v):PEv P n ds l w ⟨d,.load T (.tmp t),ty,ps,af,g⟩ v:=PEv.load hT (.tmp hx) hc
end
section
variable {P:Program}{n:Nat}{ds:List Deferred}{ops:Array Oper}{base done:Env}{w0:World}{rest:List Oper}{K:Env→Prop}{d:Nat}{op:Op}{ty:TypeId}{ps:String}{af:Array Edge}
theorem C6{j dj:Nat}{oj:Oper}{want:Bool}{v:Value}(h:PEv P n ds (Ce (Oper.looksAt ops ⟨some d,op,ty,ps,af,some (j,want)⟩) done++base) w0 ⟨some d,op,ty,ps,af,some (j,want)⟩ v)(k:HW P n ds ops base w0 ((d,.eq v)::done) rest K)(hj:ops[j]?=some oj:=by exact rfl)(hdj:oj.dst=some dj:=by exact rfl)(hdn:Nat.ble (dj+1) n=true:=by exact rfl)(hb:lk (Ce (Oper.looksAt ops ⟨some d,op,ty,ps,af,some (j,want)⟩) done++base) dj=some (.eq (.bool want)):=by exact rfl):HW P n ds ops base w0 done (⟨some d,op,ty,ps,af,some (j,want)⟩::rest) K:=CC rfl hj hdj hdn hb h rfl k
theorem Ec{j dj:Nat}{oj:Oper}{want b:Bool}(k:HW P n ds ops base w0 ((d,.eq undef)::done) rest K)(hj:ops[j]?=some oj:=by exact rfl)(hdj:oj.dst=some dj:=by exact rfl)(hdn:Nat.ble (dj+1) n=true:=by exact rfl)(hb:lk (Ce (Oper.looksAt ops ⟨some d,op,ty,ps,af,some (j,want)⟩) done++base) dj=some (.eq (.bool b)):=by exact rfl)(hne:(b==want)=false:=by exact rfl):HW P n ds ops base w0 done (⟨some d,op,ty,ps,af,some (j,want)⟩::rest) K:=HW.no rfl hj hdj hdn hb hne rfl k
end
theorem PEv.la{P:Program}{n:Nat}{ds:List Deferred}{l:Env}{w:World}{d:Option Tmp}{ty:TypeId}{ps:String}{af:Array Edge}{g:Option (Nat×Bool)}{T t B o k:Nat}{cs:Array Value}(hT:∀w,(isAgg T).run P w=.ok true w)(hs:∀w,(sizeOf T).run P w=.ok k w)(hx:lk l t=some (.eq (.pointer (some ⟨B,o,none⟩))))(hc:AggAt w B o cs)(hk:cs.size=k:=by exact rfl):PEv P n ds l w ⟨d,.load T (.tmp t),ty,ps,af,g⟩ (.agg cs):=PEv.Fz hT hs hk (.tmp hx) hc
abbrev En(P:Program)(f:FuncId):Prop:=∀(args:Array Value)(w:World),(callFunc f args).run P w=.ok (.enter f args) w
theorem Val.t{l:Env}{t:Nat}{v:Value}(h:lk l t=some (.eq v)):Val l (.tmp t) v:=.tmp h
theorem Vals.o{l:Env}{t:Nat}{v:Value}(h:lk l t=some (.eq v)):Vals l [.tmp t] [v]:=.cons (.tmp h) .nil
theorem Vals.u{l:Env}{s t:Nat}{u v:Value}(h:lk l s=some (.eq u))(k:lk l t=some (.eq v)):Vals l [.tmp s,.tmp t] [u,v]:=.cons (.tmp h) (.cons (.tmp k) .nil)
theorem vQ{l:Env}{x:Operand}{v:Value}(h:Val l x v:=by first|exact .tmp rfl|exact .cond rfl (by first|assumption|simp_all)):Val l x v:=h
abbrev eC:=@Bi
abbrev cS:=@Qv
structure Fact where
 Kind:Int
 ID:Int
 Version:Int
 Day:Int
 Gone:Bool
 Time:Int
 Until:Int
 Wafer:Int
 Other:Int
 Lot:Int
 Product:Int
 Tool:Int
 Chamber:Int
 Step:Int
 Recipe:Int
 Revision:Int
 Value:Int
 Parties:Int
 Text:ByteArray
abbrev vi(n:Int):Value:=.int .i64 n
def Fact.cells(f:Fact):Array Go.Value:=#[vi f.Kind,vi f.ID,vi f.Version,vi f.Day,.bool f.Gone,vi f.Time,vi f.Until,vi f.Wafer,vi f.Other,vi f.Lot,vi f.Product,vi f.Tool,vi f.Chamber,vi f.Step,vi f.Recipe,vi f.Revision,vi f.Value,vi f.Parties,.string f.Text]
def Ft(f g:Fact):Bool:=f.Kind==g.Kind&&(f.ID==g.ID&&(f.Version==g.Version&&(f.Day==g.Day&&(f.Gone==g.Gone&&(f.Time==g.Time&&(f.Until==g.Until&&(f.Wafer==g.Wafer&&(f.Other==g.Other&&(f.Lot==g.Lot&&(f.Product==g.Product&&(f.Tool==g.Tool&&(f.Chamber==g.Chamber&&(f.Step==g.Step&&(f.Recipe==g.Recipe&&(f.Revision==g.Revision&&(f.Value==g.Value&&(f.Parties==g.Parties&&(f.Text.toList==g.Text.toList))))))))))))))))))
structure GAct where
 Wafer:Int
 Step:Int
 Tool:Int
 Chamber:Int
 Recipe:Int
 Revision:Int
 Time:Int
def GAct.cells(a:GAct):Array Go.Value:=#[vi a.Wafer,vi a.Step,vi a.Tool,vi a.Chamber,vi a.Recipe,vi a.Revision,vi a.Time]
def Yq(x:Int):Prop:= -9223372036854775808≤x∧x≤9223372036854775807
def Sl{α:Type}(w:World)(v:Value)(k:Nat)(enc:α→Array Value)(xs:List α):Prop:=
 ∃ad c,v=.slice ad xs.length c∧∀i x,xs[i]?=some x→∃B o,ad=some ⟨B,o,none⟩∧AggAt w B (o+i*k) (enc x)
theorem Sl.up{α:Type}{w w':World}{v:Value}{k:Nat}{enc:α→Array Value}{xs:List α}(h:Sl w v k enc xs)(u:Up w w'):Sl w' v k enc xs:=by
 obtain⟨ad,c,hv,he⟩:=h
 exact⟨ad,c,hv,fun i x hx=>let⟨B,o,h1,h2⟩:=he i x hx;⟨B,o,h1,h2.up u⟩⟩
def Els{α:Type}(w:World)(ad:Option Addr)(k:Nat)(enc:α→Array Value)(xs:List α):Prop:=
 ∀i x,xs[i]?=some x→∃B o,ad=some ⟨B,o,none⟩∧AggAt w B (o+i*k) (enc x)
theorem Els.up{α:Type}{w w':World}{ad:Option Addr}{k:Nat}{enc:α→Array Value}{xs:List α}(h:Els w ad k enc xs)(u:Up w w'):Els w' ad k enc xs:=fun i x hx=>let⟨B,o,h1,h2⟩:=h i x hx;⟨B,o,h1,h2.up u⟩
theorem Sl.nil{α:Type}(w:World)(k:Nat)(enc:α→Array Value):Sl w (.slice none 0 0) k enc []:=⟨none,0,rfl,fun i x h=>by simp at h⟩
theorem Ay{α:Type}{w:World}{ad:Option Addr}{c k:Nat}{enc:α→Array Value}{xs:List α}(h:Els w ad k enc xs):Sl w (.slice ad xs.length c) k enc xs:=⟨ad,c,rfl,h⟩
theorem W5{α:Type}{w:World}{B k:Nat}{T:TypeId}{enc:α→Array Value}{xs:List α}{cs:Array Value}(h:Blk w B cs T)(he:∀i x,xs[i]?=some x→∀j v,(enc x)[j]?=some v→cs[i*k+j]?=some v):Els w (some ⟨B,0,none⟩) k enc xs:=fun i x hx=>
 ⟨B,0,rfl,fun j v hv=>h.cell (by rw[dp];exact he i x hx j v hv)⟩
section
variable {P:Program}{n:Nat}{ds:List Deferred}{l:Env}{w:World}{d:Option Tmp}{ty:TypeId}{ps:String}{af:Array Edge}{g:Option (Nat×Bool)}
theorem PEv.Ao{T e:TypeId}{x ix:Operand}{ad:Option Addr}{B o k c size j:Nat}(hT:P.underlying T=some (.slice e))(hs:∀w,(sizeOf e).run P w=.ok size w)(hx:Val l x (.slice ad k c))(hi:Val l ix (.int .i64 (j:Int)))(hj:j<k)(had:ad=some ⟨B,o,none⟩):
   PEv P n ds l w ⟨d,.indexAddr T x ix,ty,ps,af,g⟩ (.pointer (some ⟨B,o+j*size,none⟩)):=by
 subst had;exact PEv.indexAddr hT hs hx hi hj
end
theorem Fact.one(f:Fact):f.cells.all (·.oneCell')=true:=by simp[Fact.cells,Value.oneCell']
theorem GAct.one(a:GAct):a.cells.all (·.oneCell')=true:=by simp[GAct.cells,Value.oneCell']
def Gc(f:Fact)(p:Addr):Array Go.Value:=#[vi f.Kind,vi f.ID,vi f.Version,vi f.Day,.bool f.Gone,vi f.Time,vi f.Until,vi f.Wafer,vi f.Other,vi f.Lot,vi f.Product,vi f.Tool,vi f.Chamber,vi f.Step,vi f.Recipe,vi f.Revision,vi f.Value,vi f.Parties,.string f.Text,.pointer (some p)]
theorem Ul(f:Fact)(p:Addr):(Gc f p).all (·.oneCell')=true:=by simp[Gc,Value.oneCell']
structure Base where
 Processes:List Fact
 Measures:List Fact
 Swaps:List Fact
 Lots:List Fact
 Flows:List Fact
 Qualified:List Fact
 Holds:List Fact
 Releases:List Fact
 Resets:List Fact
 Targets:List Fact
 Gaps:List Fact
def BaseC(w:World)(bc:Array Go.Value)(b:Base):Prop:=
 ∃v0 v1 v2 v3 v4 v5 v6 v7 v8 v9 v10,bc=#[v0,v1,v2,v3,v4,v5,v6,v7,v8,v9,v10]∧Sl w v0 19 Fact.cells b.Processes∧Sl w v1 19 Fact.cells b.Measures∧Sl w v2 19 Fact.cells b.Swaps∧Sl w v3 19 Fact.cells b.Lots∧Sl w v4 19 Fact.cells b.Flows∧Sl w v5 19 Fact.cells b.Qualified∧Sl w v6 19 Fact.cells b.Holds∧Sl w v7 19 Fact.cells b.Releases∧Sl w v8 19 Fact.cells b.Resets∧Sl w v9 19 Fact.cells b.Targets∧Sl w v10 19 Fact.cells b.Gaps
theorem BaseC.up{w w':World}{bc:Array Go.Value}{b:Base}(h:BaseC w bc b)(u:Up w w'):BaseC w' bc b:=by
 obtain⟨v0,v1,v2,v3,v4,v5,v6,v7,v8,v9,v10,e,h0,h1,h2,h3,h4,h5,h6,h7,h8,h9,h10⟩:=h
 exact⟨v0,v1,v2,v3,v4,v5,v6,v7,v8,v9,v10,e,h0.up u,h1.up u,h2.up u,h3.up u,h4.up u,h5.up u,h6.up u,h7.up u,h8.up u,h9.up u,h10.up u⟩
theorem BaseC.size{w:World}{bc:Array Go.Value}{b:Base}(h:BaseC w bc b):bc.size=11:=by
 obtain⟨v0,v1,v2,v3,v4,v5,v6,v7,v8,v9,v10,e,_⟩:=h
 subst e;rfl
theorem Sl.one{α:Type}{w:World}{v:Value}{k:Nat}{enc:α→Array Value}{xs:List α}(h:Sl w v k enc xs):v.oneCell'=true:=by obtain⟨ad,c,rfl,_⟩:=h;rfl
theorem BaseC.one{w:World}{bc:Array Go.Value}{b:Base}(h:BaseC w bc b):bc.all (·.oneCell')=true:=by
 obtain⟨v0,v1,v2,v3,v4,v5,v6,v7,v8,v9,v10,e,h0,h1,h2,h3,h4,h5,h6,h7,h8,h9,h10⟩:=h
 subst e;simp[h0.one,h1.one,h2.one,h3.one,h4.one,h5.one,h6.one,h7.one,h8.one,h9.one,h10.one]
theorem BaseC.tJ{w:World}{bc:Array Go.Value}{b:Base}(h:BaseC w bc b):∃v,bc[0]?=some v∧Sl w v 19 Fact.cells b.Processes:=by
 obtain⟨v0,v1,v2,v3,v4,v5,v6,v7,v8,v9,v10,e,h0,h1,h2,h3,h4,h5,h6,h7,h8,h9,h10⟩:=h
 subst e;exact⟨v0,rfl,h0⟩
theorem BaseC.LD{w:World}{bc:Array Go.Value}{b:Base}(h:BaseC w bc b):∃v,bc[2]?=some v∧Sl w v 19 Fact.cells b.Swaps:=by
 obtain⟨v0,v1,v2,v3,v4,v5,v6,v7,v8,v9,v10,e,h0,h1,h2,h3,h4,h5,h6,h7,h8,h9,h10⟩:=h
 subst e;exact⟨v2,rfl,h2⟩
theorem BaseC.LF{w:World}{bc:Array Go.Value}{b:Base}(h:BaseC w bc b):∃v,bc[3]?=some v∧Sl w v 19 Fact.cells b.Lots:=by
 obtain⟨v0,v1,v2,v3,v4,v5,v6,v7,v8,v9,v10,e,h0,h1,h2,h3,h4,h5,h6,h7,h8,h9,h10⟩:=h
 subst e;exact⟨v3,rfl,h3⟩
theorem BaseC.LG{w:World}{bc:Array Go.Value}{b:Base}(h:BaseC w bc b):∃v,bc[4]?=some v∧Sl w v 19 Fact.cells b.Flows:=by
 obtain⟨v0,v1,v2,v3,v4,v5,v6,v7,v8,v9,v10,e,h0,h1,h2,h3,h4,h5,h6,h7,h8,h9,h10⟩:=h
 subst e;exact⟨v4,rfl,h4⟩
theorem BaseC.LH{w:World}{bc:Array Go.Value}{b:Base}(h:BaseC w bc b):∃v,bc[5]?=some v∧Sl w v 19 Fact.cells b.Qualified:=by
 obtain⟨v0,v1,v2,v3,v4,v5,v6,v7,v8,v9,v10,e,h0,h1,h2,h3,h4,h5,h6,h7,h8,h9,h10⟩:=h
 subst e;exact⟨v5,rfl,h5⟩
theorem BaseC.LI{w:World}{bc:Array Go.Value}{b:Base}(h:BaseC w bc b):∃v,bc[6]?=some v∧Sl w v 19 Fact.cells b.Holds:=by
 obtain⟨v0,v1,v2,v3,v4,v5,v6,v7,v8,v9,v10,e,h0,h1,h2,h3,h4,h5,h6,h7,h8,h9,h10⟩:=h
 subst e;exact⟨v6,rfl,h6⟩
theorem BaseC.LJ{w:World}{bc:Array Go.Value}{b:Base}(h:BaseC w bc b):∃v,bc[7]?=some v∧Sl w v 19 Fact.cells b.Releases:=by
 obtain⟨v0,v1,v2,v3,v4,v5,v6,v7,v8,v9,v10,e,h0,h1,h2,h3,h4,h5,h6,h7,h8,h9,h10⟩:=h
 subst e;exact⟨v7,rfl,h7⟩
theorem Ae{α:Type}{xs:List α}{i:Nat}(h:i<xs.length):∃x,xs[i]?=some x:=⟨xs[i],by simp[h]⟩
theorem Cr{α:Type}{xs:List α}{i:Nat}{x:α}(h:xs[i]?=some x):xs.take (i+1)=xs.take i++[x]:=by
 rw[f8,h];rfl
end Go.Wx
namespace Go
theorem oQ{p:Prop}(h:p:=by omega):p:=h
theorem kQ{p:Prop}(h:p:=by kernel_rfl):p:=h
theorem cQ{p:Prop}(h:p:=by decide):p:=h
theorem sQ{p:Prop}(h:p:=by rintro _ W1 ⟨rfl,u⟩;exact⟨u,rfl⟩):p:=h
theorem eQ{p:Prop}(h:p:=by first|rfl|exact Fact.one _|exact GAct.one _|exact Ul _ _|exact hold0_one|(simp[Value.oneCell'])):p:=h
theorem dQ{p q:Prop}(h:p)(k:p→q:=by first|exact b9|exact cd|exact fun h=>h):q:=k h
end Go
namespace Go.Wx
open Go.RowKit
section
variable {P:Program}{n:Nat}{ds:List Deferred}{l:Env}{w:World}{d:Option Tmp}{ty:TypeId}{ps:String}{af:Array Edge}{g:Option (Nat×Bool)}
inductive Parts(l:Env):List (Nat×Operand)→List (Nat×Value)→Prop where
 |nil:Parts l [] []
 |cons {i:Nat} {x:Operand} {v:Value} {xs:List (Nat×Operand)} {vs:List (Nat×Value)} (h:Val l x v) (r:Parts l xs vs):Parts l ((i,x)::xs) ((i,v)::vs)
theorem Parts.map{a:Act}{xs:List (Nat×Operand)}{vs:List (Nat×Value)}(hp:Parts l xs vs)(h:Ag n ds l a w):xs.map (fun(i,x)=>(i,a.eval x))=vs:=by
 induction hp with
 |nil=>rfl
 |cons h1 _ ih=>rw[c8,ih];dsimp only;rw[h.ev h1]
def placesOf(T:TypeId):Sem (Array (Nat×Nat)):=do
 match ←underlying T with
 |.struct fs=>fs.mapM fun f=>do pure (f.offset,←sizeOf f.type)
 |_=>stuck ""
theorem run_build{T:TypeId}{fs:Array Field}{z cs:Array Value}{vs:List (Nat×Value)}{pl:Array (Nat×Nat)}(hu:P.underlying T=some (.struct fs))(hz:∀w,(zeroValue T).run P w=.ok (.agg z) w)
   (hp:∀w,(placesOf T).run P w=.ok pl w)(hf:Instr.fill (pl[·]?) z vs=some cs)(w:World):(Instr.build T vs.toArray).run P w=.ok (.agg cs) w:=by
 have hp':=hp w
 simp only[placesOf,Sem.run_bind,run_underlying hu,Result.andThen]at hp'
 simp only[Instr.build,Sem.run_bind,hz,Result.andThen,run_underlying hu,hp',Value.cells,hf]
 rfl
theorem PEv.build{T:TypeId}{fs:Array Field}{z cs:Array Value}{xs:Array (Nat×Operand)}{vs:List (Nat×Value)}{pl:Array (Nat×Nat)}(hu:P.underlying T=some (.struct fs))(hz:∀w,(zeroValue T).run P w=.ok (.agg z) w)
   (hp:∀w,(placesOf T).run P w=.ok pl w)(hv:Parts l xs.toList vs)(hf:Instr.fill (pl[·]?) z vs=some cs):
   PEv P n ds l w ⟨d,.build T xs,ty,ps,af,g⟩ (.agg cs):=fun a w' ha _=>by
 refine C0 ?_
 have e:(xs.map fun(i,x)=>(i,a.eval x))=vs.toArray:=by apply gz;rw[←hv.map ha];simp
 rw[e];exact run_build hu hz hp hf w'
theorem R8(off:Nat):∀(vs:List Value)(i:Nat)(cs:Array Value)(k:Nat),off+i+vs.length≤cs.size→
   ((vs.zipIdx i).foldl (fun(cs:Array Value)(x:Value×Nat)=>cs.setIfInBounds (off+x.2) x.1) cs)[k]?=(if off+i≤k∧k<off+i+vs.length then vs[k-(off+i)]? else cs[k]?)∧((vs.zipIdx i).foldl (fun(cs:Array Value)(x:Value×Nat)=>cs.setIfInBounds (off+x.2) x.1) cs).size=cs.size
 |[],i,cs,k,_=>by
   refine⟨?_,rfl⟩
   rw[aq (by simp<;>omega)];rfl
 |v::vs,i,cs,k,h=>by
   simp only[bg]at h
   simp only[List.zipIdx_cons,kr,bg]
   have hh:off+(i+1)+vs.length≤(cs.setIfInBounds (off+i) v).size:=by rw[jn];omega
   obtain⟨h1,h2⟩:=R8 off vs (i+1) (cs.setIfInBounds (off+i) v) k hh
   refine⟨?_,by rw[h2];simp⟩
   rw[h1,g6]
   by_cases hk:off+i=k
   · subst hk
     rw[aq (show ¬(off+(i+1)≤off+i∧off+i<off+(i+1)+vs.length)by omega),bh rfl,bh (show off+i<cs.size by omega),bh (show off+i≤off+i∧off+i<off+i+(vs.length+1)by omega)]
     simp
   by_cases hk2:off+(i+1)≤k∧k<off+(i+1)+vs.length
   · rw[bh hk2,bh (show off+i≤k∧k<off+i+(vs.length+1)by omega),show k-(off+i)=(k-(off+(i+1)))+1 by omega,fh]
   rw[aq hk2,aq hk,aq (show ¬(off+i≤k∧k<off+i+(vs.length+1))by omega)]
theorem oI{k:Nat}{z cs:Array Value}{v:Value}(hk:cs.size=k)(hz:z.size=k+1)(h1:v.oneCell'=true):Instr.fill (#[(0,k),(k,1)][·]?) z [(0,.agg cs),(1,v)]=some (cs.push v):=by
 have hv:v.cells=#[v]:=by cases v<;>first|rfl|cases h1
 have hf:=fun j=>R8 0 cs.toList 0 z j (by simp;omega)
 have e0:(#[(0,k),(k,1)]:Array (Nat×Nat))[0]?=some (0,k):=rfl
 have e1:(#[(0,k),(k,1)]:Array (Nat×Nat))[1]?=some (k,1):=rfl
 have ea:(Value.agg cs).cells=cs:=rfl
 have hl:cs.zipIdx.foldl (fun(cs:Array Value)(x:Value×Nat)=>cs.setIfInBounds (0+x.2) x.1) z=(cs.toList.zipIdx 0).foldl (fun(cs:Array Value)(x:Value×Nat)=>cs.setIfInBounds (0+x.2) x.1) z:=by
   rw[←Array.foldl_toList];simp
 generalize(cs.toList.zipIdx 0).foldl (fun(cs:Array Value)(x:Value×Nat)=>cs.setIfInBounds (0+x.2) x.1) z=F at hf hl
 unfold Instr.fill
 simp only[e0,ea,hk]
 rw[aq (by simp;omega)]
 have hl':cs.zipIdx.foldl (fun cs(x:Value×Nat)=>match x with|(c,j)=>cs.setIfInBounds (0+j) c) z=F:=hl
 rw[hl']
 unfold Instr.fill
 have hF:F.size=k+1:=by rw[(hf 0).2,hz]
 simp only[e1,hv]
 rw[aq (by simp;omega)]
 unfold Instr.fill
 congr 1
 apply Array.ext_getElem?
 intro j
 have hj:=(hf j).1
 show(F.setIfInBounds (k+0) v)[j]?=_
 rw[g6,Array.getElem?_push]
 by_cases e:k+0=j
 · subst e
   rw[bh rfl,bh oQ,bh (by omega)]
 rw[aq e,aq oQ,hj]
 by_cases hlt:j<k
 · rw[bh (by simp;omega)];simp
 rw[aq (by simp;omega)]
 have h1:z[j]?=none:=by simp;omega
 have h2:cs[j]?=none:=by simp;omega
 rw[h1,h2]
theorem kB{z:Array Value}(f:Fact)(p:Addr)(hz:z.size=20):Instr.fill (#[(0,19),(19,1)][·]?) z [(0,.agg f.cells),(1,.pointer (some p))]=some (Gc f p):=oI rfl hz rfl
def Lu:List Value→Nat→List (Nat×Value)
 |[],_=>[]
 |v::vs,k=>(k,v)::Lu vs (k+1)
theorem Yr(size:Nat):∀(vs:List Value)(i:Nat)(cs:Array Value),(∀v∈vs,v.cells.size=size)→(i+vs.length)*size≤cs.size→
   ∃out,Instr.fill (fun i=>some (i*size,size)) cs (Lu vs i)=some out∧out.size=cs.size∧(∀k,k<i*size→out[k]?=cs[k]?)∧∀j v,vs[j]?=some v→∀q u,v.cells[q]?=some u→out[(i+j)*size+q]?=some u
 |[],i,cs,_,_=>⟨cs,rfl,rfl,fun _ _=>rfl,fun j v h=>by simp at h⟩
 |v::vs,i,cs,hs,hl=>by
   have hv:v.cells.size=size:=hs v (by simp)
   simp only[bg]at hl
   have e1:(i+(vs.length+1))*size=i*size+size+vs.length*size:=by rw[eu,eu];omega
   have e2:(i+1+vs.length)*size=i*size+size+vs.length*size:=by rw[eu,eu];omega
   have hf:=fun k=>R8 (i*size) v.cells.toList 0 cs k (by simp[hv];omega)
   obtain⟨out,h1,h2,h3,h4⟩:=Yr size vs (i+1) ((v.cells.toList.zipIdx 0).foldl (fun(cs:Array Value)(x:Value×Nat)=>cs.setIfInBounds (i*size+x.2) x.1) cs) (fun u hu=>hs u (b_ _ hu)) (by rw[(hf 0).2];omega)
   refine⟨out,?_,by rw[h2,(hf 0).2],fun k hk=>?_,fun j u hj q x hx=>?_⟩
   · unfold Lu Instr.fill
     simp only[hv]
     rw[aq (by simp;omega)]
     rw[←h1]
     congr 1
     rw[←Array.foldl_toList]
     simp
   · rw[h3 k (by rw[eu];omega),(hf k).1,aq (by simp[hv];omega)]
   cases j with
   |zero=>
     simp at hj
     subst hj
     have hq:q<size:=by rw[←hv];exact(cb.1 hx).1
     rw[fo,h3 _ (by rw[eu];omega),(hf _).1,bh (by simp[hv];omega)]
     simpa using hx
   |succ j=>
     have:=h4 j u (by simpa using hj) q x hx
     rw[show i+(j+1)=i+1+j by omega];exact this
def NewSl{α:Type}(w:World)(T:TypeId)(k:Nat)(enc:α→Array Value)(xs:List α)(v:Value)(w':World):Prop:=
 ∃B cs,v=.slice (some ⟨B,0,none⟩) xs.length xs.length∧New w w' B cs T∧cs.size=xs.length*k∧Els w' (some ⟨B,0,none⟩) k enc xs
theorem NewSl.q{α:Type}{w w':World}{T:TypeId}{k:Nat}{enc:α→Array Value}{xs:List α}{v:Value}(h:NewSl w T k enc xs v w'):Up w w'∧Sl w' v k enc xs:=by
 obtain⟨B,cs,rfl,N,_,E⟩:=h
 exact⟨N.up,Ay E⟩
theorem R9{α:Type}{T e:TypeId}{k N:Nat}{enc:α→Array Value}{mk:α→Value}{xs:List α}{vs:List (Nat×Value)}{z:Value}(hu:P.underlying T=some (.slice e))(hs:∀w,(sizeOf e).run P w=.ok k w)(hz:∀w,(zeroValue e).run P w=.ok z w)
   (hN:xs.length=N)(hsmall:N*k≤16777216)(hmk:∀x,(mk x).cells=enc x)(hk:∀x,(enc x).size=k)(hv:vs=Lu (xs.map mk) 0)(w:World):
   ∃v w',(Instr.buildSlice T N vs.toArray).run P w=.ok v w'∧NewSl w e k enc xs v w':=by
 subst hN
 obtain⟨out,h1,h2,_,h4⟩:=Yr k (xs.map mk) 0 ((Array.range (xs.length*k)).map fun i=>(if xs.length*k=0 then(#[]:Array Value)else z.cells)[i%(if xs.length*k=0 then(#[]:Array Value)else z.cells).size]!) (by intro v hv;obtain⟨x,_,rfl⟩:=bx.1 hv;rw[hmk,hk]) (by simp)
 have hel:Els (w.alloc (.cells out e)) (some ⟨w.heap.size,0,none⟩) k enc xs:=W5 (Pt w out e) fun i x hx j v hj=>by
   have:=h4 i (mk x) (by simp[hx]) j v (by rw[hmk];exact hj)
   simpa using this
 refine⟨.slice (some ⟨w.heap.size,0,none⟩) xs.length xs.length,w.alloc (.cells out e),?_,w.heap.size,out,rfl,New.alloc w out e,by rw[h2];simp,hel⟩
 subst hv
 have hlim:¬(xs.length*k>2^24):=by omega
 simp only[Instr.buildSlice,Sem.run_bind,run_underlying hu,Result.andThen,hs,aq hlim]
 by_cases h0:xs.length*k=0
 · simp only[h0]at h1⊢
   simp at h1⊢
   simp[h1,newRow]
 simp only[aq h0]at h1⊢
 simp[h1,hz,Sem.run_bind,newRow]
theorem REv.buildSlice{α:Type}{T e:TypeId}{k N:Nat}{enc:α→Array Value}{mk:α→Value}{xs:List α}{po:Array (Nat×Operand)}{vs:List (Nat×Value)}{z:Value}(hu:P.underlying T=some (.slice e))(hs:∀w,(sizeOf e).run P w=.ok k w)(hz:∀w,(zeroValue e).run P w=.ok z w)
   (hN:xs.length=N)(hsmall:N*k≤16777216)(hmk:∀x,(mk x).cells=enc x)(hk:∀x,(enc x).size=k)(hp:Parts l po.toList vs)(hv:vs=Lu (xs.map mk) 0):REv P n ds l w ⟨d,.buildSlice T N po,ty,ps,af,g⟩ (NewSl w e k enc xs):=fun a ha=>by
 obtain⟨v,w',h1,h2⟩:=R9 (P:=P) hu hs hz hN hsmall hmk hk hv w
 refine⟨v,w',C0 ?_,h2⟩
 have e1:(po.map fun(i,x)=>(i,a.eval x))=vs.toArray:=by apply gz;rw[←hp.map ha];simp
 rw[e1];exact h1
end
structure Kx(bq:Nat)(X Y:Nat→Prop)(w w':World):Prop where
 os:w'.os=w.os
 tape:w'.tape=w.tape
 output:w'.output=w.output
 size:w.heap.size≤w'.heap.size
 same:∀(k:Nat)(o:Obj),w.heap[k]?=some o→((o.isCells=true∧¬X k)∨(o.isCells=false∧¬Y k∧(k<bq∨o.isWalk=true)))→w'.heap[k]?=some o
theorem Kx.refl(bq:Nat)(X Y:Nat→Prop)(w:World):Kx bq X Y w w:=⟨rfl,rfl,rfl,bl _,fun _ _ h _=>h⟩
section
variable {bq:Nat}{X Y:Nat→Prop}
theorem Kx.trans{a b c:World}(h:Kx bq X Y a b)(k:Kx bq X Y b c):Kx bq X Y a c:=⟨k.os.trans h.os,k.tape.trans h.tape,k.output.trans h.output,bu h.size k.size,fun i o hi ho=>k.same i o (h.same i o hi ho) ho⟩
theorem Kx.up{w0 w w':World}(h:Kx bq X Y w0 w)(u:Up w w'):Kx bq X Y w0 w':=
 ⟨u.os.trans h.os,u.tape.trans h.tape,u.output.trans h.output,bu h.size u.size,fun k o hk ho=>(u.block (lt_of_block (h.same k o hk ho))).trans (h.same k o hk ho)⟩
theorem Kx.HZ{w0 w w':World}{B:Nat}(h:Kx bq X Y w0 w)(k:Sto B w w')(hc:∃cs T,Blk w B cs T)(hB:X B∨w0.heap.size≤B):Kx bq X Y w0 w':=
 ⟨k.os.trans h.os,k.tape.trans h.tape,k.output.trans h.output,bu h.size k.size,fun i o hi ho=>(k.block i (lt_of_block (h.same i o hi ho)) (fun e=>by
   have h1:=h.same i o hi ho
   subst e
   obtain⟨cs,T,hc⟩:=hc
   rw[show w.heap[i]?=_ from hc]at h1
   cases h1
   rcases hB with hB|hB
   · rcases ho with ho|ho
     · exact ho.2 hB
     cases ho.1
   have:=lt_of_block hi;omega)).trans (h.same i o hi ho)⟩
theorem Kx.IA{w0 w w':World}{B:Nat}(h:Kx bq X Y w0 w)(k:Sto B w w')(hc:∃o:Obj,w.heap[B]?=some o∧o.isCells=false)(hB:Y B∨w0.heap.size≤B):Kx bq X Y w0 w':=
 ⟨k.os.trans h.os,k.tape.trans h.tape,k.output.trans h.output,bu h.size k.size,fun i o hi ho=>(k.block i (lt_of_block (h.same i o hi ho)) (fun e=>by
   have h1:=h.same i o hi ho
   subst e
   obtain⟨o',hc,hf⟩:=hc
   rw[hc]at h1
   cases h1
   rcases hB with hB|hB
   · rcases ho with ho|ho
     · rw[hf]at ho;cases ho.1
     exact ho.2.1 hB
   have:=lt_of_block hi;omega)).trans (h.same i o hi ho)⟩
end
structure Ko(bq:Nat)(w w':World):Prop where
 os:w'.os=w.os
 tape:w'.tape=w.tape
 output:w'.output=w.output
 size:w.heap.size≤w'.heap.size
 same:∀(k:Nat)(o:Obj),w.heap[k]?=some o→(k<bq∨o.isCells=true)→w'.heap[k]?=some o
theorem Ko.grown{bq:Nat}{w w':World}{row:Option Nat}(hg:w.grownBy w' row)(hr:∀r,row=some r→bq≤r∧∃o:Obj,w.heap[r]?=some o∧o.isCells=false):Ko bq w w':=
 ⟨hg.os,hg.tape,hg.output,hg.size,fun k o hk ho=>(hg.block k (lt_of_block hk) (fun e=>by
   obtain⟨h0,o',h1,h2⟩:=hr k e.symm
   rw[hk]at h1;cases h1
   rcases ho with ho|ho
   · omega
   rw[ho]at h2;cases h2)).trans hk⟩
theorem Ko.putObj{bq:Nat}{w:World}{l:Nat}{o:Obj}(o':Obj)(h:w.heap[l]?=some o)(ho:o.isCells=false)(hl:bq≤l):Ko bq w (w.putObj l o'):=
 Ko.grown (grownBy_putObj' w l o') (fun r e=>by cases e;exact⟨hl,o,h,ho⟩)
theorem Blk.ko{bq:Nat}{w w':World}{B:Nat}{cs:Array Value}{T:TypeId}(h:Blk w B cs T)(k:Ko bq w w'):Blk w' B cs T:=k.same B _ h (.inr rfl)
theorem Blk.kx{bq:Nat}{X Y:Nat→Prop}{w w':World}{B:Nat}{cs:Array Value}{T:TypeId}(h:Blk w B cs T)(k:Kx bq X Y w w')(hB:¬X B):Blk w' B cs T:=k.same B _ h (.inl ⟨rfl,hB⟩)
theorem Up.ko{bq:Nat}{w0 w w':World}(h:Up w0 w)(k:Ko bq w w')(hb:w0.heap.size≤bq):Up w0 w':=
 ⟨k.os.trans h.os,k.tape.trans h.tape,k.output.trans h.output,bu (Up.size h) k.size,fun i hi=>by
   have h1:=h.block hi
   have h2:w.heap[i]?=some w0.heap[i]:=by rw[h1];simp[hi]
   rw[k.same i _ h2 (.inl oQ),←h2,h1]⟩
theorem Up.kx{bq:Nat}{X Y:Nat→Prop}{w0 w w':World}(h:Up w0 w)(k:Kx bq X Y w w')(hX:∀i,X i→w0.heap.size≤i)(hY:∀i,Y i→w0.heap.size≤i)(hb:w0.heap.size≤bq):Up w0 w':=
 ⟨k.os.trans h.os,k.tape.trans h.tape,k.output.trans h.output,bu (Up.size h) k.size,fun i hi=>by
   have h1:=h.block hi
   have h2:w.heap[i]?=some w0.heap[i]:=by rw[h1];simp[hi]
   have h3:((w0.heap[i]).isCells=true∧¬X i)∨((w0.heap[i]).isCells=false∧¬Y i∧(i<bq∨(w0.heap[i]).isWalk=true)):=by
     cases hc:(w0.heap[i]).isCells
     · exact .inr ⟨rfl,fun hy=>by have:=hY i hy;omega,.inl oQ⟩
     exact .inl ⟨rfl,fun hx=>by have:=hX i hx;omega⟩
   rw[k.same i _ h2 h3,←h2,h1]⟩
theorem Ys{w w':World}(h:Up w w'):w.grownBy w' none:=⟨h.os,h.tape,h.output,h.size,fun _ hk _=>h.block hk⟩
structure Jw{β:Type}(B:Nat)(J:β→World→Prop)(s:β)(w:World):Prop where
 ab:AbidesFrom B J
 j:J s w
theorem Jw.walk{β:Type}{B:Nat}{J:β→World→Prop}{s:β}{w w':World}{r:Nat}{o:Obj}(h:Jw B J s w)(g:w.grownBy w' (some r))(hr:B≤r)(ho:w.heap[r]?=some o)(hw:o.isWalk=true):Jw B J s w':=⟨h.ab,h.ab s w w' _ h.j g (fun i e=>by cases e;exact⟨hr,o,ho,hw⟩)⟩
theorem Jw.up{β:Type}{B:Nat}{J:β→World→Prop}{s:β}{w w':World}(h:Jw B J s w)(u:Up w w'):Jw B J s w':=⟨h.ab,h.ab s w w' none h.j (Ys u) (fun r e=>by cases e)⟩
theorem tK(R:Option Nat)(k:Nat):(FR R).room k:=fun d hd=>by cases hd
theorem RoundIn.any{R:Option Nat}{n n':Nat}{P:Program}{l:Nat}{f:FuncId}{tmps:Array Value}{assign body:Code}{w:World}{RR:Ending→World→Prop}(h:RoundIn (FR R) n P l f tmps assign body w RR):RoundIn (FR R) n' P l f tmps assign body w RR:=
 ⟨h.1,fun c cs _=>h.2 c cs (tK _ _)⟩
theorem Yt{r:Option Nat}{ρ:Operand→Value}{o:Oper}{l:Nat}{f:FuncId}{tm:Array Value}{as bo:Code}{P:Program}{w w':World}(h:(execOp ρ o).run P w=.ok (.round l f tm as bo) w'):(o.semAt r ρ).run P w=.ok (.round l f tm as bo) w':=by
 by_cases hd:∃c,o.op=.defer c
 · obtain⟨c,hc⟩:=hd
   simp only[execOp,hc,Sem.run_bind]at h
   cases hr:(resolve ρ c o.type).run P w with
   |ok d w1=>simp[hr,Result.andThen]at h
   |halt x w1=>simp[hr,Result.andThen]at h
 rw[Oper.semAt_eq _ _ _ (fun c hc=>hd ⟨c,hc⟩)];exact h
section
variable {R:Option Nat}{m:Nat}{P:Program}{n:Nat}{ds:List Deferred}{Q:Exit→Go.Act→World→Prop}{l:Env}{w:World}{ops:Array Oper}{rest:List Oper}{o:Oper}
theorem LW.y{lp m':Nat}{vs:List Value}{d:Nat}{Post:Value→World→Prop}{x:Operand}{xs:Array Operand}{ts:Array TypeId}{ty:TypeId}{ps:String}{af:Array Edge}
   (hx:Val l x (.func (.yield lp) #[] #[]))(hv:Vals l xs.toList vs)(hn:Nat.ble (d+1) n=true)(hl:Cq l=true)
   (hY:YieldAt (FR none) m' P lp vs.toArray w fun e w'=>∃v,e=.returned v∧Post v w')(k:∀v w',Post v w'→LW R m P n ds ops Q rest ((d,.eq v)::l) w'):
   LW R m P n ds ops Q (⟨some d,.call { callee:=.value x,args:=xs,argTypes:=ts },ty,ps,af,none⟩::rest) l w:=fun a ha=>
 wpListIn_plain rfl fun K hK=>by
   obtain⟨fn,tmps,assign,body,hy,hR⟩:=hY
   have e1:xs.map a.eval=vs.toArray:=by apply gz;simp[ha.HR hv]
   have he:(execOp a.eval ⟨some d,.call { callee:=.value x,args:=xs,argTypes:=ts },ty,ps,af,none⟩).run P w=.ok (.round lp fn tmps assign body) w:=by
     simp only[execOp,resolve,ha.ev hx,e1,Deferred.ofValue,Sem.run_bind,Sem.run_pure,Result.andThen,invoke]
     simpa using hy
   refine⟨fun _ _=>trivial,?_⟩
   rw[show(FR R).round=R from rfl,Yt he]
   refine⟨fun hd=>(by cases hd),?_⟩
   have h1:RoundIn (FR none) (m-1) P lp fn tmps assign body w _:=RoundIn.any hR
   refine RoundIn.mono (show RoundIn (FR R) (m-1) P lp fn tmps assign body w _ from h1) ?_
   rintro e w'' ⟨v,rfl,hp⟩
   exact hK _ _ (k v w'' hp _ ((ha.world hl w'').put hn rfl))
def IterS{α:Type}(P:Program)(g:Nat)(lb:Array Value)(encs:α→Array Value)(X Y:Nat→Prop)(S Sp:List α→Prop)(N:Nat)(w:World):Prop:=
 SeqStopsK (FR none) 9 P g lb encs (Kx w.heap.size X Y) S Sp N w
theorem IterS.of{α:Type}{g:Nat}{lb:Array Value}{encs:α→Array Value}{X Y:Nat→Prop}{S Sp:List α→Prop}{N:Nat}{w:World}
   (h:∀(lp:Nat)(J Jx:List α→World→Prop)(W:World),Up w W→AbidesFrom W.heap.size Jx→
     (∀pre x W1,Jw W.heap.size J pre W1→pre.length<N→YieldAt (FR none) 8 P lp (encs x) W1 fun e W'=>∃v,e=.returned v∧∃y,v=.bool y∧((y=true∧Jw W.heap.size J (pre++[x]) W'∧Kx w.heap.size X Y W1 W')∨(y=false∧Jx (pre++[x]) W')))→
     Jw W.heap.size J [] W→Ret P g (#[.func (.yield lp) #[] #[]]++lb) W fun _ W'=>(∃ys,S ys∧J ys W')∨∃pre,Sp pre∧Jx pre W'):IterS P g lb encs X Y S Sp N w:=by
 intro lp J Jx W hW hJ hJx hY h0
 have:=h lp J Jx W hW hJx (fun pre x W1 hj hlen=>by
   obtain⟨fn,tmps,assign,body,h1,h2⟩:=hY pre x W1 hj.j hlen
   refine⟨fn,tmps,assign,body,h1,h2.mono ?_⟩
   rintro e W' (⟨rfl,h3,h4⟩|⟨rfl,h3⟩)
   · exact⟨_,rfl,_,rfl,.inl ⟨rfl,⟨hJ,h3⟩,h4⟩⟩
   exact⟨_,rfl,_,rfl,.inr ⟨rfl,h3⟩⟩) ⟨hJ,h0⟩
 refine callsIn_wide.2 (Calls.mono this ?_)
 rintro e W' ⟨v,rfl,h⟩
 exact⟨⟨_,rfl⟩,h⟩
theorem Ke{α:Type}{p:α→Bool}{xs:List α}{k:Nat}{x:α}(h:xs[k]?=some x)(hp:p x=true):(xs.take (k+1)).filter p=(xs.take k).filter p++[x]:=by
 rw[Cr h,cz];simp[hp]
theorem Rn{α:Type}{p:α→Bool}{xs:List α}{k:Nat}{x:α}(h:xs[k]?=some x)(hp:p x=false):(xs.take (k+1)).filter p=(xs.take k).filter p:=by
 rw[Cr h,cz];simp[hp]
theorem Lv{α:Type}(p:α→Bool)(xs:List α)(k:Nat):(xs.take k).filter p<+:xs.filter p:=(List.take_prefix k xs).filter p
theorem gL{α:Type}{p:α→Bool}{xs:List α}{k:Nat}{x:α}(h:xs[k]?=some x)(hp:p x=true):((xs.take k).filter p).length<(xs.filter p).length:=by
 have h1:=(Lv p xs (k+1)).length_le
 rw[Ke h hp]at h1
 simp at h1
 omega
theorem CW.rangeFunc{α:Type}{g:Operand}{ps:Array Tmp}{assign body:Code}{gf:Nat}{lb:Array Value}{encs:α→Array Value}(X Y:Nat→Prop){S Sp:List α→Prop}{N:Nat}(I:List α→World→Prop)(Ix:Code→List α→World→Prop)(Ax:α→Go.Act→World→Prop)
   (hx:Val l g (.func (.func gf) #[] lb))(en:∀args w,(callFunc gf args).run P w=.ok (.enter gf args) w)(hit:IterS P gf lb encs X Y S Sp N w)(hps:∀x,(encs x).size=ps.size)(hl:Cq l=true)
   (hI:OwnFrom w.heap.size I)(hIx:∀c,OwnFrom w.heap.size (Ix c))(hAx:∀x a',OwnFrom w.heap.size (fun(_:Unit)W=>Ax x a' W))(h0:I [] w)
   (hassign:∀(lp:Nat)(pre:List α)(x:α)(W:World)(K:Go.Act→World→Prop),I pre W→(∀a' W',KeepsFrom w.heap.size W W'→Kx w.heap.size X Y W W'→I pre W'→Ax x a' W'→K a' W')→
     ∀a,Ag n ds l a W→assign.wpIn (FR (some lp)) 8 P (Exit.then K (fun _ _ _=>False)) { tmps:=(ps.zip (encs x)).foldl (fun t(p,v)=>t.setIfInBounds p v) a.tmps,defers:=[] } W)
   (hbody:∀(lp:Nat)(pre:List α)(x:α)(a':Go.Act)(W:World),I pre W→Ax x a' W→pre.length<N→body.wpIn (FR (some lp)) 8 P (ownPostG w.heap.size (Kx w.heap.size X Y) I Ix (pre++[x]) W) a' W)
   (hdone:∀(D:Nat)(ys:List α)(W:World),w.heap.size≤D→S ys→I ys W→W.heap[D]?=some (.deferred (some []))→KW n ({ target:=.collected D,args:=#[] }::ds) (Q .normal) l W)
   (hstop:∀(D:Nat)(c:Code)(pre:List α)(W:World),w.heap.size≤D→Sp pre→Ix c pre W→W.heap[D]?=some (.deferred (some []))→CW none 10 P n ({ target:=.collected D,args:=#[] }::ds) c Q l W):
   CW none 10 P n ds (.rangeFunc g ps assign body) Q l w:=fun a ha=>
 wpIn_rangeFunc_ownH (F:=FR none) (n:=10) (N:=N) (S:=S) (Sp:=Sp) (w0:=w) rfl cQ (ha.ev hx) trivial en (show SeqStopsK (FR none) (10-1) P gf lb encs (Kx w.heap.size X Y) _ _ _ w from hit)
   (fun h k=>h.trans k) (fun W lp o o' hlp h ho hw=>⟨rfl,rfl,rfl,by simp,fun k o'' hk hko=>by
     by_cases e:k=lp
     · subst e
       rw[h]at hk;cases hk
       rcases hko with hko|⟨_,_,hko|hko⟩
       · rw[hko.1]at ho;cases ho
       · omega
       rw[hko]at hw;cases hw
     rw[World.putObj_heap_other e];exact hk⟩) (Below.refl _ _) hps I Ix hI hIx h0 Ax hAx
   (fun lp pre x W K hi hk=>hassign lp pre x W K hi hk a (ha.world hl W))
   (fun lp pre x a' W _ _ hi hax hlen=>hbody lp pre x a' W hi hax hlen)
   (fun D ys W hD hS hi hk=>hdone D ys W hD hS hi hk _ ⟨by rw[←ha.defers],ha.size,(ha.world hl W).val⟩)
   (fun D c pre W hD hS hi hk=>hstop D c pre W hD hS hi hk _ ⟨by rw[←ha.defers],ha.size,(ha.world hl W).val⟩)
def Ob(w:World)(D:Nat)(o:Obj):Prop:=w.heap[D]?=some o
theorem Ob.up{w w':World}{D:Nat}{o:Obj}(h:Ob w D o)(u:Up w w'):Ob w' D o:=(u.block (lt_of_block h)).trans h
theorem Ob.lt{w:World}{D:Nat}{o:Obj}(h:Ob w D o):D<w.heap.size:=lt_of_block h
theorem Up.keeps{w w':World}(h:Up w w')(B:Nat):KeepsFrom B w w':=⟨h.size,fun _ _ _ hk _=>(h.block (lt_of_block hk)).trans hk⟩
theorem Keeps.up{B:Nat}{w0 w w':World}(h:KeepsFrom B w0 w)(u:Up w w'):KeepsFrom B w0 w':=h.trans (u.keeps B)
def Kf(B:Nat)(w0 w:World):Prop:=KeepsFrom B w0 w
theorem Kf.refl(B:Nat)(w:World):Kf B w w:=KeepsFrom.refl B w
theorem Kf.up{B:Nat}{w0 w w':World}(h:Kf B w0 w)(u:Up w w'):Kf B w0 w':=Keeps.up h u
theorem Kf.sto{B:Nat}{w0 w w':World}{B':Nat}(h:Kf B w0 w)(k:Sto B' w w')(hB:B'<B∨w0.heap.size≤B'∨∃cs T,Blk w B' cs T):Kf B w0 w':=
 ⟨bu h.size k.size,fun i o hBi hi ho=>(k.block i (lt_of_block (h.same i o hBi hi ho)) (fun e=>by
   have hk1:=h.same i o hBi hi ho
   subst e
   rcases hB with hB|hB|⟨cs,T,hB⟩
   · omega
   · have:=lt_of_block hi;omega
   rw[show w.heap[i]?=_ from hB]at hk1;cases hk1;cases ho)).trans (h.same i o hBi hi ho)⟩
theorem Up.putObj{w0 w:World}{D:Nat}(h:Up w0 w)(o':Obj)(hD:w0.heap.size≤D):Up w0 (w.putObj D o'):=
 ⟨h.os,h.tape,h.output,bu h.size (by simp),fun k hk=>by
   rw[World.putObj_heap_other (fun e=>by omega)];exact h.block hk⟩
theorem Ag.IB{a:Go.Act}{p:Nat}{v:Value}(h:Ag n ds l a w)(hp:Nat.ble (p+1) n=true):Ag n [] ((p,.eq v)::l) { tmps:=(#[p].zip #[v]).foldl (fun t(p,v)=>t.setIfInBounds p v) a.tmps,defers:=[] } w:=by
 have h1:Ag n [] l { tmps:=a.tmps,defers:=[] } w:=⟨rfl,h.size,h.val⟩
 have h2:=h1.put (d:=p) (ph:=.eq v) (v:=v) hp rfl
 have e:({ tmps:=(#[p].zip #[v]).foldl (fun t(p,v)=>t.setIfInBounds p v) a.tmps,defers:=[] }:Go.Act)=({ tmps:=a.tmps,defers:=[] }:Go.Act).put (some p) v:=by simp[Go.Act.put]
 rw[e];exact h2
def Sz(B:Nat)(w:World):Prop:=B≤w.heap.size
theorem Sz.le{B:Nat}{w:World}(h:Sz B w):B≤w.heap.size:=h
theorem Sz.up{B:Nat}{w w':World}(h:Sz B w)(u:Up w w'):Sz B w':=bu h u.size
theorem Sz.sto{B B':Nat}{w w':World}(h:Sz B w)(k:Sto B' w w')(_:B=B):Sz B w':=bu h k.size
theorem Sz.ko{B bq:Nat}{w w':World}(h:Sz B w)(k:Ko bq w w'):Sz B w':=bu h k.size
theorem Ht{lp:Nat}{c:Code}{p:Nat}{v:Value}(hp:Nat.ble (p+1) n=true)(h:CW (some lp) m P n [] c Q ((p,.eq v)::l) w):
 ∀a,Ag n ds l a w→c.wpIn (FR (some lp)) m P Q { tmps:=(#[p].zip #[v]).foldl (fun t(p,v)=>t.setIfInBounds p v) a.tmps,defers:=[] } w:=fun _ ha=>h _ (ha.IB hp)
theorem Ff{f:FuncId}{fn:Func}{c:Code}{args:List Value}{RR:Ending→World→Prop}(hf:P.funcs[f]?=some fn)(hb:fn.body=some c)(hn:fn.ntmps=n)(hl:Nat.ble args.length n=true)
   (h:CW none 10 P n [] c (bodyPostM (FR none) 10 P fn RR) (H2 args 0) w):Calls P f args.toArray w RR:=by
 subst hn
 exact callsIn_wide.1 (callsIn_of_wp_marks (n:=10) hf hb trivial (h _ (Oi args hl)))
theorem Oj{fn:Func}{RR:Ending→World→Prop}{D:Nat}{tm:Array Value}{rest:List Deferred}(hk:Ob w D (.deferred (some [])))(h:LeavesInM (FR none) m P fn tm RR rest .returning (w.putObj D (.deferred none))):
 LeavesInM (FR none) m P fn tm RR ({ target:=.collected D,args:=#[] }::rest) .returning w:=⟨by simp,.inl ⟨_,_,rfl,run_takeDeferred hk,h⟩⟩
theorem Lw{fn:Func}{RR:Ending→World→Prop}{tm:Array Value}{v:Value}(hr:(results fn tm).run P w=.ok v w)(h:RR (.returned v) w):LeavesInM (FR none) m P fn tm RR [] .returning w:=⟨v,hr,h⟩
theorem Mq{fn:Func}{RR:Ending→World→Prop}{D:Nat}(hk:Ob w D (.deferred (some [])))(hl:Cq l=true)(h:KW n [] (bodyPost P fn RR .ret) l (w.putObj D (.deferred none))):KW n [{ target:=.collected D,args:=#[] }] (bodyPostM (FR none) m P fn RR .ret) l w:=fun a ha=>by
 obtain⟨_,v,h2,h3⟩:=h { tmps:=a.tmps,defers:=[] } ⟨rfl,ha.size,(ha.world hl _).val⟩
 show LeavesInM (FR none) m P fn a.tmps RR a.defers .returning w
 rw[ha.defers]
 exact Oj hk (Lw h2 h3)
theorem Sa{fn:Func}{RR:Ending→World→Prop}(h:KW n [] (bodyPost P fn RR .ret) l w):KW n [] (bodyPostM (FR none) m P fn RR .ret) l w:=fun a ha=>by
 obtain⟨_,v,h2,h3⟩:=h a ha
 show LeavesInM (FR none) m P fn a.tmps RR a.defers .returning w
 rw[ha.defers]
 exact Lw h2 h3
end
end Go.Wx
