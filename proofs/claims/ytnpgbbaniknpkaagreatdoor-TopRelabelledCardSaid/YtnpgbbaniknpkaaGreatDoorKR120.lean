import Derived.Test.YtnpgbbaniknpkaaGreatDoorKR119
import Derived.Recover
namespace Go.Wx
open Go.RowKit
section
variable {m:Nat}{P:Program}{n:Nat}{ds:List Deferred}{Q:Exit→Act→World→Prop}{l:Env}{w:World}
theorem Pf{m:Nat}{f:FuncId}{fn:Func}{c:Code}{args:List Value}{RR:Ending→World→Prop}(hf:P.funcs[f]?=some fn)(hb:fn.body=some c)(hn:fn.ntmps=n)(hl:Nat.ble args.length n=true)
   (h:CW none m P n [] c (bodyPostD P fn RR) (H2 args 0) w):Calls P f args.toArray w RR:=by
 subst hn
 exact calls_of_wp_defers hf hb (wpIn_wide.1 (h _ (Oi args hl)))
theorem aY{ρ:Operand→Value}{d:Option Tmp}{ty:TypeId}{ps:String}{af:Array Edge}{g:Option (Nat×Bool)}:(execOp ρ ⟨d,.call { callee:=.builtin .recover,args:=#[],argTypes:=#[] },ty,ps,af,g⟩).run P w=.ok .recover w:=by
 simp[execOp,resolve,invoke,builtin]
theorem LW.defer{R:Option Nat}{ops:Array Oper}{rest:List Oper}{o:Oper}{dd:Deferred}(h:∀a,Ag n ds l a w→(execOp a.eval o).run P w=.ok (.defer dd) w)(hg:o.guard=none)(hd:o.dst=none)(hr:∀e,execOp e o=(o.semAt (FR R).round e))(k:LW R m P n (dd::ds) ops Q rest l w):LW R m P n ds ops Q (o::rest) l w:=fun a ha=>by
 unfold wpListIn
 rw[bh (by simp[Region.wanted,hg])]
 refine⟨fun _ _=>trivial,?_⟩
 rw[←hr,h a ha,Oper.uponIn_defer]
 exact k _ ⟨by rw[hd];show dd::a.defers=_;rw[ha.defers],by rw[hd];exact ha.size,by rw[hd];exact ha.val⟩
theorem Wg{ops:Array Oper}{rest:List Oper}{x:Operand}{fv:Fn}{cap:Array Value}{ty:TypeId}{ps:String}{af:Array Edge}(hx:Val l x (.func fv #[] cap))(k:LW none m P n ({ target:=.fn fv cap,args:=#[] }::ds) ops Q rest l w):LW none m P n ds ops Q (⟨none,.defer { callee:=.value x,args:=#[],argTypes:=#[] },ty,ps,af,none⟩::rest) l w:=
 LW.defer (fun a ha=>by simp[execOp,resolve,ha.ev hx,Deferred.ofValue]) rfl rfl (fun _=>rfl) k
def AZ(P:Program)(f:FuncId)(args:Array Value)(w:World)(Post:World→Prop):Prop:=CallsD P f args .returning w fun e u' w'=>u'=.returning∧∃v,e=.returned v∧Post w'
theorem jE{fn:Func}{RR:Ending→World→Prop}{fv:Fn}{cap:Array Value}{f:FuncId}{args:Array Value}{Post:World→Prop}(hi:(invoke (.fn fv cap) #[]).run P w=.ok (.enter f args) w)(hl:Cq l=true)
   (hc:AZ P f args w Post)(k:∀w',Post w'→KW n [] (bodyPost P fn RR .ret) l w'):KW n [{ target:=.fn fv cap,args:=#[] }] (bodyPostD P fn RR .ret) l w:=fun a ha=>by
 show Leaves P fn a.tmps RR a.defers .returning w
 rw[ha.defers]
 refine leaves_cons (by simp) hi (hc.mono ?_)
 rintro e u' w' ⟨rfl,v,rfl,hp⟩
 obtain⟨_,v2,h2,h3⟩:=k w' hp { tmps:=a.tmps,defers:=[] } ⟨rfl,ha.size,(ha.world hl _).val⟩
 exact⟨v2,h2,h3⟩
theorem aZ{c:Code}{Q Q':Exit→Act→List Frame→World→Prop}{a:Act}{cs:List Frame}(h:c.wpS P Q a cs w)(hq:∀e a cs w,Q e a cs w→Q' e a cs w):c.wpS P Q' a cs w:=
 fun b k hb hr=>let⟨e,a',cs',w',q,r⟩:=h b k hb hr;⟨e,a',cs',w',hq _ _ _ _ q,r⟩
def DW(P:Program)(n:Nat)(c:Code)(Q:Exit→Act→World→Prop)(l:Env)(w:World):Prop:=∀cs,recoverD cs=none→∀a,Ag n [] l a w→c.wpS P (fun e a' cs' w'=>cs'=cs∧Q e a' w') a cs w
theorem DW.seq{x y:Code}(h:DW P n x (Exit.then (y.wpIn (FR none) m P Q) Q) l w):DW P n (.seq x y) Q l w:=fun cs hcs a ha=>wpS_seq (aZ (h cs hcs a ha) fun e a' cs' w'⟨e1,hq⟩=>by
 subst e1
 cases e with
 |normal=>exact wpS_of_wp (wpIn_wide.1 (wpIn_mono (show y.wpIn (FR none) m P Q a' w' from hq) (fun _ _ _ h=>⟨rfl,h⟩)))
 |exit id=>exact⟨rfl,hq⟩
 |goto l=>exact⟨rfl,hq⟩
 |ret=>exact⟨rfl,hq⟩
 |panic ch=>exact⟨rfl,hq⟩
 |outgrown=>exact⟨rfl,hq⟩)
theorem X6{f:FuncId}{fn:Func}{c:Code}{args:List Value}{Post:World→Prop}(hf:P.funcs[f]?=some fn)(hb:fn.body=some c)(hn:fn.ntmps=n)(hl:Nat.ble args.length n=true)
   (h:DW P n c (bodyPost P fn fun e w'=>∃v,e=.returned v∧Post w') (H2 args 0) w):AZ P f args.toArray w Post:=by
 subst hn
 refine callsD_of_wpS hf hb fun c₀ cs hu=>aZ (h (c₀::cs) (by simp[recoverD,hu]) _ (Oi args hl)) fun e a cs' w'⟨e1,hq⟩=>?_
 subst e1
 have hc:({ c₀ with mode:=.returning }:Frame)=c₀:=by rw[←hu]
 cases e with
 |normal=>obtain⟨hd,v,hr,h1,h2⟩:=hq;exact⟨hd,.returning,by rw[hc],v,hr,rfl,h1,h2⟩
 |ret=>obtain⟨hd,v,hr,h1,h2⟩:=hq;exact⟨hd,.returning,by rw[hc],v,hr,rfl,h1,h2⟩
 |panic ch=>obtain⟨hd,v,hv,_⟩:=hq;cases hv
 |outgrown=>obtain⟨v,hv,_⟩:=hq;cases hv
 |exit id=>exact hq.elim
 |goto l=>exact hq.elim
def DL(P:Program)(n:Nat)(ops:Array Oper)(Q:Exit→Act→World→Prop)(rest:List Oper)(l:Env)(w:World):Prop:=∀k,(∀j:Nat,rest[j]?=ops[k+j]?)→∀cs,recoverD cs=none→∀a,Ag n [] l a w→wpOpsS P ops (fun e a' cs' w'=>cs'=cs∧Q e a' w') (List.range' k rest.length) a cs w
theorem DW.region{id:Nat}{ops:List Oper}(h:DL P n ops.toArray Q ops l w):DW P n (.region id ops.toArray false) Q l w:=fun cs hcs a ha=>wpS_region (by
 rw[List.range_eq_range']
 exact h 0 (fun j=>by simp) cs hcs a ha)
section
variable {ops:Array Oper}{rest:List Oper}{o:Oper}{d:Nat}
theorem DL.nil(h:KW n [] (Q .normal) l w):DL P n ops Q [] l w:=fun _ _ _ _ a ha=>⟨rfl,h a ha⟩
theorem yM{a:Act}(hg:o.guard=none):Region.wanted o (yielded ops a.tmps)=true:=by simp[Region.wanted,hg]
theorem bB{k:Nat}(h:∀j:Nat,(o::rest)[j]?=ops[k+j]?):ops[k]?=some o∧∀j:Nat,rest[j]?=ops[k+1+j]?:=
 ⟨by have:=h 0;simpa using this.symm,fun j=>by have:=h (j+1);rw[show k+1+j=k+(j+1)by omega,←this];simp⟩
theorem BB(h:∀a:Act,(execOp a.eval o).run P w=.ok .recover w)(hg:o.guard=none)(hd:o.dst=some d)(hn:Nat.ble (d+1) n=true)(k:DL P n ops Q rest ((d,.eq .nilIface)::l) w):DL P n ops Q (o::rest) l w:=fun i hi cs hcs a ha=>by
 obtain⟨h0,h1⟩:=bB hi
 rw[bg,List.range'_succ]
 unfold wpOpsS
 rw[h0]
 simp only[yM hg,if_true,h a,hcs]
 exact k (i+1) h1 cs hcs _ (by rw[hd];exact ha.put hn rfl)
theorem DL.p{v:Value}(h:PEv P n [] l w o v)(hg:o.guard=none)(hd:o.dst=some d)(hn:Nat.ble (d+1) n=true)(k:DL P n ops Q rest ((d,.eq v)::l) w):DL P n ops Q (o::rest) l w:=fun i hi cs hcs a ha=>by
 obtain⟨h0,h1⟩:=bB hi
 rw[bg,List.range'_succ]
 unfold wpOpsS
 rw[h0]
 simp only[yM hg,if_true,h a w ha (Up.refl w)]
 exact k (i+1) h1 cs hcs _ (by rw[hd];exact ha.put hn rfl)
end
end
end Go.Wx
