import Derived.Test.YtdilcdgjklimoaaGreatDoorKR123
import Derived.Test.YtdilcdgjklimoaaGreatDoorRows
import Derived.MakeChecks
import Derived.LaidLaws
import Derived.Handed
import Derived.Stop.Joined
import Derived.Lib.LaidTab
namespace Go.Proofs.YtdilcdgjklimoaaGreatDoor
open Go.Proofs.Tryz
open Go
def aS:List (String×DataW Unit):=[("math/bits.deBruijn32tab",Rows.laid_math_bits_deBruijn32tab),("math/bits.deBruijn64tab",Rows.laid_math_bits_deBruijn64tab)]
def IY(l:List Nat):Array Value:=(l.map fun n:Nat=>Go.Value.int .u8 (n:Int)).toArray
noncomputable def lv(h:Array Obj)(g:Nat)(cs:Array Value):Array Obj:=h.modify g fun
 |.cells _ t frozen=>.cells cs t frozen
 |o=>o
def FW:List Nat:=(0::1::28::2::29::14::24::3::30::22::20::15::25::17::4::8::31::27::13::23::21::19::16::7::26::12::18::6::11::5::10::9::[])
noncomputable def laidWorld(os:Os):World:=
 let w0:=World.holding Tryz.prog os ⟨#[],#[],[]⟩
 { w0 with heap:=lv (lv w0.heap 0 (IY FW)) 1 Wx.S7 }
theorem Uk(os:Os)(args:Array Value):laidMetH Tryz.prog aS ((laidWorld os).forCall (fun _ _=>0) ⟨#[],args,[]⟩).memory:=by
 rw[Go.MakeChecks.laidMetH_plain _ _ _ (by kernel_rfl)]
 exact laidMet_of_run' 8 kQ kQ
theorem mF:Wx.S7.toList=(Wx.S6.map fun n:Nat=>(n:Int)).map fun z=>Go.Value.int .u8 z:=by
 unfold Wx.S7
 rw[List.map_map]
 rfl
theorem wM{W:World}(h:laidMetH Tryz.prog aS W):∃T,Wx.Blk W 1 Wx.S7 T:=by
 rw[Go.MakeChecks.laidMetH_plain _ _ _ (by kernel_rfl)]at h
 obtain⟨ps,⟨_,_,_,_,p,q,_,_,_,_,⟨g,t,cs,fuel,p2,q2,hg,ht,hvar,hd,_,e2⟩,e1⟩,_,hrow⟩:=h
 obtain rfl:=Option.some.inj ((show Tryz.prog.globalNamed "math/bits.deBruijn64tab" =some 1 by kernel_rfl).symm.trans hg)
 obtain rfl:=Option.some.inj ((show(Tryz.prog.globals[1]?).map (·.type)=some 256 by kernel_rfl).symm.trans ht)
 have hc:=Go.Lib.cells_of_tab (k:=.u8) (zs:=Wx.S6.map fun n:Nat=>(n:Int)) underlying256 underlying5 kQ kQ (show DataW.trod _ _ _ _ _ _ _ _ _=some (Go.Lib.tabData .u8 (Wx.S6.map fun n:Nat=>(n:Int)),p2)from hd)
 rw[←mF]at hc
 have hc2:cs=Wx.S7:=Array.ext' hc
 subst hc2
 obtain⟨⟨c,T,hb⟩,_⟩:=hrow 1 0 (by rw[e1,e2];refine List.mem_append_right _ (List.mem_append_left _ (List.mem_append_left _ ?_));exact List.mem_map.2 ⟨0,List.mem_range.2 (Nat.le_of_ble_eq_true kQ),rfl⟩)
 refine⟨T,?_⟩
 unfold World.var? at hvar
 rw[hg,Option.bind_some,hb]at hvar
 cases hvar
 exact hb
end Go.Proofs.YtdilcdgjklimoaaGreatDoor
