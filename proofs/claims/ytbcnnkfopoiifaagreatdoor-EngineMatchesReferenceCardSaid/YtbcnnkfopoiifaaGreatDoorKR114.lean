import Derived.Test.YtbcnnkfopoiifaaGreatDoorKR113
namespace Go.Wx
section
variable {P:Program}{n:Nat}{l:Env}{w:World}{fn:Func}{RR:Ending→World→Prop}
theorem sK{t u:Tmp}{T T':TypeId}{B B':Nat}{y x:Value}(hr:fn.results=#[.cell t T,.cell u T'])(hv:lk l t=some (.eq (.pointer (some ⟨B,0,none⟩))))(hu:lk l u=some (.eq (.pointer (some ⟨B',0,none⟩))))(hT:∀w,(isAgg T).run P w=.ok false w)(hy:w.cell? ⟨B,0,none⟩=some y)
   (hT':∀w,(isAgg T').run P w=.ok false w)(hx:w.cell? ⟨B',0,none⟩=some x)(hR:RR (.returned (.tuple #[y,x])) w):KW n [] (bodyPost P fn RR .ret) l w:=fun a ha=>
 ⟨ha.defers,.tuple #[y,x],by
   have h1:a.tmps.getD t undef=.pointer (some ⟨B,0,none⟩):=ha.val _ _ hv
   have h2:a.tmps.getD u undef=.pointer (some ⟨B',0,none⟩):=ha.val _ _ hu
   rw[aj]at h1 h2
   simp[results,hr,h1,h2,asAddr,Jd hT hy,Jd hT' hx],hR⟩
theorem Hm{t u s:Tmp}{T:TypeId}{B k:Nat}{cs:Array Value}{x y:Value}(hr:fn.results=#[.cell t T,.tmp u,.tmp s])(hv:lk l t=some (.eq (.pointer (some ⟨B,0,none⟩))))(hu:lk l u=some (.eq x))(hs':lk l s=some (.eq y))(hT:∀w,(isAgg T).run P w=.ok true w)(hs:∀w,(sizeOf T).run P w=.ok k w)(hk:cs.size=k)
   (hc:AggAt w B 0 cs)(hR:RR (.returned (.tuple #[.agg cs,x,y])) w):KW n [] (bodyPost P fn RR .ret) l w:=fun a ha=>
 ⟨ha.defers,.tuple #[.agg cs,x,y],by
   have h1:a.tmps.getD t undef=.pointer (some ⟨B,0,none⟩):=ha.val _ _ hv
   have h2:a.tmps.getD u undef=x:=ha.val _ _ hu
   have h3:a.tmps.getD s undef=y:=ha.val _ _ hs'
   rw[aj]at h1 h2 h3
   simp[results,hr,h1,h2,h3,asAddr,Ho hT hs hk hc],hR⟩
end
theorem Sep.KP{S0:Nat→Prop}{w0 w w':World}{As:List Asr}{A B:Asr}(h:Sep S0 w0 w As)(u:Up w w')(h1:A.holds w')(h2:B.holds w')(n1:∀i,A.foot i→w.heap.size≤i)(n2:∀i,B.foot i→w.heap.size≤i)(hd:∀i,A.foot i→¬B.foot i):Sep S0 w0 w' (As++[A,B]):=by
 have h3:=h.add u (A':=E8 [A,B]) ⟨fun C hC=>by simp at hC;rcases hC with rfl|rfl<;>assumption,by simpa using hd⟩ (fun i⟨C,hC,hi⟩=>by simp at hC;rcases hC with rfl|rfl<;>first|exact n1 i hi|exact n2 i hi)
 have h4:=Sep.unfold (Bs:=As) (As:=[A,B]) (rest:=[]) h3
 simpa using h4
theorem R5{S0:Nat→Prop}{w0 w:World}{Bs As:List Asr}{A:Asr}(h:Sep S0 w0 w (Bs++[E8 As,A])):Sep S0 w0 w (Bs++[E8 (As++[A])]):=by
 have h1:=Sep.unfold (Bs:=Bs) (As:=As) (rest:=[A]) h
 have h2:=aO (Bs:=Bs) (As:=As++[A]) (rest:=[]) (by simpa using h1)
 exact h2
theorem kV{α:Type}{enc:α→Array Value}{w:World}{b e k B:Nat}{v:Value}{xs:List α}{cs:Array Value}{T:TypeId}(h:OwnS w b e k enc v xs)(hb:Blk w B cs T)(hT:e≠T):v.ownBlock≠some B:=fun hv=>by
 obtain⟨h1,h2⟩:=h
 rcases h2 with h2|⟨g,cap,cur,rfl,hb2,hg,rest⟩
 · rw[h2.1]at hv;cases hv
 cases hv
 have:=hg.symm.trans hb
 cases this
 exact hT rfl
structure DP where
 dec:Dec
 ad:Option Addr
 cp:Nat
def DP.uv(p:DP):Value:=.slice p.ad p.dec.uses.length p.cp
def DP.cells(p:DP):Array Value:=(p.dec.v p.uv).cells
theorem DP.one(p:DP):p.cells.all (·.oneCell')=true:=Q1 _ rfl
def Fb(ti:TypeId)(L:List DP):List Asr:=L.map fun p=>A8 ti 1 Cm p.uv p.dec.uses
theorem Pq(ti:TypeId)(L:List DP)(p:DP):Fb ti L++[A8 ti 1 Cm p.uv p.dec.uses]=Fb ti (L++[p]):=by unfold Fb;rw[cq];rfl
theorem Js{ti:TypeId}{L:List DP}{w:World}(h:(E8 (Fb ti L)).holds w):∀p∈L,Sl w p.uv 1 Cm p.dec.uses:=fun p hp=>OwnS.sl (show OwnS w 0 ti 1 Cm p.uv p.dec.uses from h.1 _ (aq.2 ⟨p,hp,rfl⟩)) (fun _=>rfl)
def KQ(w:World)(v:Value)(D:Dec):Prop:=∃ad cp,v=.agg (DP.cells ⟨D,ad,cp⟩)∧Sl w (.slice ad D.uses.length cp) 1 Cm D.uses
def DecsE(w:World)(v:Value)(Ds:List Dec):Prop:=∃L:List DP,Sl w v 6 DP.cells L∧(∀p∈L,Sl w p.uv 1 Cm p.dec.uses)∧L.map DP.dec=Ds
theorem DecsE.up{w w':World}{v:Value}{Ds:List Dec}(h:DecsE w v Ds)(k:Up w w'):DecsE w' v Ds:=let⟨L,h1,h2,h3⟩:=h;⟨L,h1.up k,fun p hp=>(h2 p hp).up k,h3⟩
def Ik:Dec:=⟨0,rz,rz,[]⟩
def cG(b:Base)(t c r:Int)(rs:List Fact)(i:Nat):Dec:=match rs[i]? with
 |some x=>{ Fa b t c r x.Time (rs.take i)with run:=x.ID }
 |none=>Ik
theorem J8{b:Base}{t c r:Int}{rs:List Fact}{i:Nat}{x:Fact}(h:rs[i]?=some x):cG b t c r rs i={ Fa b t c r x.Time (rs.take i)with run:=x.ID }:=by unfold cG;rw[h]
def Gt(b:Base)(t c r:Int):List Dec:=(List.range (Md b t c r).length).map (cG b t c r (Md b t c r))
theorem Q4(b:Base)(t c r:Int):(Gt b t c r).length=(Md b t c r).length:=by unfold Gt;rw[cd,List.length_range]
theorem Nc{α:Type}(f:Nat→α)(k:Nat):(List.range (k+1)).map f=(List.range k).map f++[f k]:=by rw[List.range_succ,cq];rfl
theorem BaseC.lit{w:World}{bc:Array Value}{b:Base}(h:BaseC w bc b):∃v0 v1 v2 v3 v4 v5 v6 v7 v8 v9 v10,bc=#[v0,v1,v2,v3,v4,v5,v6,v7,v8,v9,v10]:=by
 obtain⟨v0,v1,v2,v3,v4,v5,v6,v7,v8,v9,v10,e,_⟩:=h
 exact⟨v0,v1,v2,v3,v4,v5,v6,v7,v8,v9,v10,e⟩
theorem nT(b:Base)(t c r time:Int)(a:List Fact):(Fa b t c r time a).uses.length≤a.length:=bb (Qy b.Measures b.Targets r time (D5 (Ki b t c time) a)).2.2 (Pp _ _)
def NW(g:DP→Bool)(l:List DP)(i:Int):Prop:=(∃k x,i=((k:Nat):Int)∧l[k]?=some x∧g x=true∧∀y∈l.take k,g y=false)∨(i= -1∧∀y∈l,g y=false)
theorem Vb{p:DP→Bool}{l:List DP}{k:Nat}{x:DP}(h:l[k]?=some x)(hk:∀y∈l.take k,p y=false)(hx:p x=false):∀y∈l.take (k+1),p y=false:=fun y hy=>by
 rw[cn,h]at hy
 rcases be.1 hy with hy|hy
 · exact hk y hy
 cases aa.1 hy;exact hx
def Wk(a b:Rt):Bool:=(a.n==b.n)&&((a.d==b.d)&&true)
theorem kW(a b:Rt):Wk a b=true↔a=b:=by
 obtain⟨an,ad⟩:=a
 obtain⟨bn,bd⟩:=b
 unfold Wk
 simp
theorem cH(a:Rt):Wk a a=true:=(kW a a).2 rfl
def F9(b:Base)(id:Int):Dec×Bool×Int:=match Ec b id with
 |none=>(Ik,false,200)
 |some f=>match(Gt b f.Tool f.Chamber f.Recipe).find? fun D=>decide (D.run=id)with
   |none=>(Ik,false,200)
   |some D=>(D,decide ((Ia f.Value 1000).2=0)&&Wk (Ia f.Value 1000).1 D.par,0)
theorem Xv{b:Base}{id:Int}(h:Ec b id=none):F9 b id=(Ik,false,200):=by unfold F9;rw[h]
theorem kX{b:Base}{id:Int}{f:Fact}{L:List DP}(h:Ec b id=some f)(hL:L.map DP.dec=Gt b f.Tool f.Chamber f.Recipe)(hn:∀y∈L,decide (y.dec.run=id)=false):F9 b id=(Ik,false,200):=by
 have e:((Gt b f.Tool f.Chamber f.Recipe).find? fun D=>decide (D.run=id))=none:=by
   rw[←hL]
   refine ge.2 fun D hD=>?_
   obtain⟨y,hy,rfl⟩:=aq.1 hD
   rw[hn y hy];exact bi
 unfold F9;rw[h];dsimp only;rw[e]
theorem sL{L:List DP}{k:Nat}{x:DP}{q:Dec→Bool}(hx:L[k]?=some x)(hq:q x.dec=true)(hn:∀y∈L.take k,q y.dec=false):(L.map DP.dec).find? q=some x.dec:=by
 have hlt:=(ai.1 hx).1
 have e:L=L.take k++x::L.drop (k+1):=by
   have h1:L.drop k=x::L.drop (k+1):=by
     rw[ce hlt,(ai.1 hx).2]
   rw[←h1,dg]
 rw[e,cq,cy,j5,ge.2 (fun D hD=>by
   obtain⟨y,hy,rfl⟩:=aq.1 hD
   rw[hn y hy];exact bi),js,hq]
 rfl
theorem Oe{b:Base}{id:Int}{f:Fact}{L:List DP}{k:Nat}{x:DP}(h:Ec b id=some f)(hL:L.map DP.dec=Gt b f.Tool f.Chamber f.Recipe)(hx:L[k]?=some x)(hr:decide (x.dec.run=id)=true)(hn:∀y∈L.take k,decide (y.dec.run=id)=false):
   F9 b id=(x.dec,decide ((Ia f.Value 1000).2=0)&&Wk (Ia f.Value 1000).1 x.dec.par,0):=by
 have e:=sL (q:=fun D=>decide (D.run=id)) hx hr hn
 rw[hL]at e
 unfold F9;rw[h];dsimp only;rw[e]
theorem Sep.join{S0:Nat→Prop}{w0 w w':World}{As Bs:List Asr}(h:Sep S0 w0 w As)(k:Sep no w w' Bs):Sep S0 w0 w' (As++Bs):=by
 have h3:=h.add k.Cj (A':=E8 Bs) ⟨fun A hA=>(k.each A hA).1,k.apart⟩ (fun i⟨A,hA,hi⟩=>((k.each A hA).2 i hi).resolve_left (fun h=>h))
 have h4:=Sep.unfold (Bs:=As) (As:=Bs) (rest:=[]) h3
 simpa using h4
theorem Zh{w:World}{B o:Nat}{p:DP}(h:AggAt w B o p.cells):AggAt w B (o+1) p.dec.par.cells:=fun j v hv=>by
 have h2:p.cells[1+j]?=some v:=by
   match j with
   |0=>simpa[Rt.cells,DP.cells,DecV.cells,Dec.v]using hv
   |1=>simpa[Rt.cells,DP.cells,DecV.cells,Dec.v]using hv
   |j+2=>simp[Rt.cells]at hv
 have:=h (1+j) v h2
 rwa [show o+(1+j)=o+1+j by omega]at this
theorem cI{w w':World}{ti tD:TypeId}{v:Value}{L:List DP}{Ds:List Dec}(h:Sep no w w' [A8 tD 6 DP.cells v L,E8 (Fb ti L)])(e:L.map DP.dec=Ds):DecsE w' v Ds:=⟨L,(h.own 0 rfl).sl (fun _=>rfl),Js (h.get 1 rfl),e⟩
theorem kY{n d:Int}(h:Ow n d=false):Ia n d=(DA,30):=ae (by rw[h];exact bi)
theorem Xw{b:Base}{id:Int}{f:Fact}(h:Ec b id=some f):f∈b.Processes:=d_ h
end Go.Wx
namespace Go.Proofs.YtbcnnkfopoiifaaGreatDoor
open Go.Proofs.Tryz
open Go.Wx Go.RowKit
set_option maxRecDepth 4000 in
theorem Ln(a b:Rt)(w:World):(Op.equalIn 10000 55 (.agg a.cells) (.agg b.cells)).run prog w=.ok (Wk a b) w:=by
 have hf:Tryz.prog.underlying 55=some (.struct (Tryz.prog.fieldsOf 55)):=by rw[Program.fieldsOf,mc]
 rw[run_equalIn_agg w 9999 55 _ _ hf stoodInHeld55]
 have h:(Op.eqFields 9999 a.cells b.cells (Tryz.prog.fieldsOf 55).toList).run prog w=.ok (Wk a b) w:=by
   rw[Program.fieldsOf,mc]
   dsimp only
   iterate 2 (refine Rn cQ ly rfl rfl (run_equalIn_int w 9998 _ _ _ _ _ lh) ?_)
   rfl
 exact h
theorem sM(B3 B2:Nat)(w:World)(ho:Blk w B3 #[vi 0] 97):wX prog 128 #[.pointer (some ⟨B3,0,none⟩),.pointer (some ⟨B2,0,none⟩)] w fun w'=>Stp (Ch B3 #[vi 0] 97) (Ch B3 #[vi 0] 97) w w':=by
 obtain⟨w0,rfl,_⟩:=W0 w
 have hS:Wx.Sep (Ch B3 #[vi 0] 97).foot w0 w0 [Ch B3 #[vi 0] 97]:=Sep.cons ho (fun _ h=>h) (Sep.start _ _) (by simp)
 refine P8 (n:=6) (args:=[.pointer (some ⟨B3,0,none⟩),.pointer (some ⟨B2,0,none⟩)]) func128 rfl rfl rfl (DW.seq (m:=9) (DW.region (pW (fun a=>Sm) rfl rfl rfl (DL.c (eC (.o rfl) (HR)) rfl rfl rfl rfl (cF _) ?_))))
 rintro _ w1 ⟨rfl,uw1⟩
 replace hS:=hS.up uw1
 refine DL.s (SEv.store sizeOf97 (.t rfl) (.t rfl) rfl hS.b0 bQ) rfl rfl rfl ?_
 intro w2 Nw2
 replace hS:=hS.Co 0 rfl (show Set_ _ w2 _ (#[vi 0]) _ from Nw2)
 refine DL.nil (Ab (Af (I (.lb rfl (hS.b0.An rfl)) (I (.neq (.t rfl) (.const _)) (Ai (CW.f rfl (Ak (Di rfl ⟨_,rfl,?_⟩))))))))
 exact⟨hS.fr,hS.get 0 rfl,fun _ h=>.inl h⟩
theorem Wl(bc:Array Go.Value)(b:Base)(t c r:Int)(w:World)(hC:BaseC w bc b)(hlP:b.Processes.length≤400)(hlR:b.Resets.length≤100000)(hlM:b.Measures.length≤100000)(hlT:b.Targets.length≤100000):Ret prog 64 #[.agg (F1 bc t c r)] w fun r0 w'=>∃v L,r0=.tuple #[v,vi 0]∧L.map DP.dec=Gt b t c r∧Wx.Sep no w w' [A8 57 6 DP.cells v L,E8 (Fb 3 L)]:=by
 obtain⟨w0,rfl,hS⟩:=W0 w
 refine P7 (n:=34) (m:=9) func64 rfl rfl rfl (Af (Ao (.bA rfl) rfl ?_))
 rintro _ w1 ⟨B1,rfl,NB1⟩
 replace hS:=hS.Bn NB1
 refine Ao (.Tv zeroValue47 rfl) rfl ?_
 rintro _ w2 ⟨B2,rfl,NB2⟩
 replace hS:=hS.Bn NB2
 refine Ao (.Tv zeroValue97 rfl) rfl ?_
 rintro _ w3 ⟨B3,rfl,NB3⟩
 replace hS:=hS.Bn NB3
 refine Ar (Aa (I (.makeFunc (.ct rfl (.cu rfl))) (Wv (.t rfl) (Ar (Aa (I (.Ef isAgg136 sizeOf136 ((Iu hC t c r)) (.t rfl) (hS.b0.agg)) (A3 (eC (.o rfl) (HS)) rfl (sJ bc b t c r _ (hC.up hS.Cj) oQ) ?_)))))))
 rintro v10 w4 ⟨hO10,uw4⟩
 replace hS:=hS.add uw4 (A':=A8 51 19 Fact.cells v10 (Md b t c r)) (hO10.mono (ao _)) (fun i h=>(hO10.base i h))
 obtain⟨rs,ers⟩:∃R,R=Md b t c r:=⟨_,rfl⟩
 have hrl:=Iv b t c r
 rw[←ers]at hS hrl
 obtain⟨ad10,cp10,rfl,_⟩:=(hS.own 3 rfl).sl (fun _=>rfl)
 refine LW.A rfl (Ar (Al ?_))
 replace hS:=hS.add (Up.refl _) (A':=A8 57 6 DP.cells (.slice none 0 0) ([]:List DP)) (OwnS.nil _ _ _ _ _) (by intro i h;cases h)
 replace hS:=hS.add (Up.refl _) (A':=E8 (Fb 3 [])) ⟨by simp[Fb],by simp[Fb]⟩ (by rintro i ⟨A,hA,_⟩;simp[Fb]at hA)
 refine Aa (Ac rfl (I (.Df k6 (.t rfl)) (I (.move (.const _)) (Ai (Ap (A9 (σ:=Nat×Go.Value×List DP) (fun s w=>(s.1≤rs.length)∧(s.2.2.map DP.dec=(List.range s.1).map (cG b t c r rs))∧(Wx.Sep no w0 w [Ch B1 (F1 bc t c r) 136,Ch B2 #[s.2.1] 47,Ch B3 #[vi 0] 97,A8 51 19 Fact.cells (.slice ad10 rs.length cp10) rs,A8 57 6 DP.cells s.2.1 s.2.2,E8 (Fb 3 s.2.2)])) (fun s=>[(13,.eq (vi (s.1:Int)))]) ([(1,.eq _),(2,.eq _),(3,.eq _),(4,.eq _),(11,.eq _),(12,.eq _)]) (fun s=>rs.length-s.1) (0,.slice none 0 0,[]) ?_ tQ ?_))))))
 ·exact⟨ao _,rfl,hS⟩
 rintro⟨k,v,L⟩ w5 ⟨hk,hL,hS⟩
 have hLl:L.length=k:=by have h:=a_ List.length hL;simpa using h
 change CW _ _ _ _ _ _ _ ([(13,.eq (vi (k:Int)))]++_) _
 refine Af (I (.l2 rfl rfl) (Ar (CW.b rfl (fun h14=>?_) (fun h14=>?_))))
 ·replace h14:=dQ h14
  refine Ak (Ab (Al (Ap (Al ?_))))
  have hR:Els w5 ad10 19 Fact.cells rs:=(hS.own 3 rfl).els (fun _=>rfl)
  refine Aa (Ac rfl ?_)
  obtain⟨x,hx⟩:=Av (xs:=rs) (i:=k) oQ
  obtain⟨Bx,ox,ax,hcx⟩:=hR _ x hx
  refine I (.Ay k6 k7 (.t rfl) (.t rfl) oQ ax) (I (.lc rfl (hcx)) (Ao (.Bi k_) rfl ?_))
  rintro _ w6 ⟨B6,rfl,MB6⟩
  refine LW.A rfl (Bh (.A5 k7 rfl (.t rfl) (.t rfl) (Fact.one _) MB6.blk rfl) ?_)
  intro w7 LB6
  have NB6:=MB6.set LB6
  replace hcx:=hcx.up NB6.up
  replace hS:=hS.Bn NB6
  refine Ar (Eo 8 [.eq (.agg (F1 bc t c r)),.eq (.pointer (some ⟨B6,5,none⟩)),.eq (vi x.Time),.eq (.slice ad10 rs.length cp10),.eq (vi (k:Int)),.eq (.slice ad10 (rs.take k).length cp10),.pred fun v W=>∃ad cp,v=.agg (DP.cells ⟨Fa b t c r x.Time (rs.take k),ad,cp⟩)∧OwnS W w7.drew.heap.size 3 1 Cm (.slice ad (Fa b t c r x.Time (rs.take k)).uses.length cp) (Fa b t c r x.Time (rs.take k)).uses,.pred fun v W=>∃B,v=.pointer (some ⟨B,0,none⟩)∧w7.drew.heap.size≤B∧Blk W B (DP.cells ⟨Ik,none,0⟩) 57] [7,24] kQ rfl kQ kQ kQ kQ kQ kQ kQ ⟨nm,nm,nm,nm,nm,nm,PhU.pred fun _ _ _ h u=>let⟨ad,cp,e,hb⟩:=h;⟨ad,cp,e,hb.up u⟩,PhU.pred fun _ _ _ h u=>let⟨B,e,hz,hb⟩:=h;⟨B,e,hz,hb.up u⟩,trivial⟩ ?_ ?_)
  ·intro W hU0
   have hU:=(Up.drew w7).trans hU0
   have hSW:=hS.up hU
   have zU0:=hU0.size
   have hcp:=(hSW.own 3 rfl).NT
   have hEW:Els W ad10 19 Fact.cells rs:=(hSW.own 3 rfl).els (fun _=>rfl)
   refine aC ⟨rfl,TU.p (.Ef isAgg136 sizeOf136 (Iu hC t c r) (.t rfl) (hSW.b0.agg)) rfl⟩ (aC ⟨rfl,TU.p (.fB 5 rfl) rfl⟩ (aC ⟨rfl,TU.p (.lb rfl ((hSW.blk 6 rfl).An rfl)) rfl⟩ (aC ⟨rfl,TU.p (.mv rfl) rfl⟩ (aC ⟨rfl,TU.p (.mv rfl) rfl⟩ (aC ⟨rfl,TU.p (.vl (PEv.Yr k6 k7 (.t rfl) (.t rfl) oQ) (by rw[bu,cv (by omega)])) rfl⟩ (aC ⟨rfl,TU.c (eC (.ct rfl (.ct rfl (.cu rfl))) (HT)) (gS bc b t c r x.Time ad10 cp10 (rs.take k) W (hC.up (hS.Cj.trans hU)) (Els.take hEW) (by rw[bu];omega) hlR hlM hlT) (by rintro v W1 ⟨u_,rfl,ho,hu⟩;obtain⟨adu,cpu,rfl,_⟩:=ho.sl (fun _=>rfl);exact⟨hu,adu,cpu,rfl,ho.mono zU0⟩)⟩ (aC ⟨rfl,TU.r (REv.Bi l5) (fun v W' h=>let⟨B,e,N⟩:=h;⟨N.up,B,e,by rw[N.at_];exact zU0,N.blk⟩)⟩ ?_)))))))
   exact allL.nil
  intro w8 g hU0 hg
  have hU:=(Up.drew w7).trans hU0
  obtain⟨B7,e7,z7,hB7⟩:∃B,g 7=.pointer (some ⟨B,0,none⟩)∧w7.drew.heap.size≤B∧Blk w8 B (DP.cells ⟨Ik,none,0⟩) 57:=hg 7 _ 7 cQ rfl rfl
  obtain⟨ad7,cp7,e24,ho7⟩:∃ad cp,g 24=.agg (DP.cells ⟨Fa b t c r x.Time (rs.take k),ad,cp⟩)∧OwnS w8 w7.drew.heap.size 3 1 Cm (.slice ad (Fa b t c r x.Time (rs.take k)).uses.length cp) (Fa b t c r x.Time (rs.take k)).uses:=hg 6 _ 24 cQ rfl rfl
  change LW _ _ _ _ _ _ _ _ ((7,.eq (g 7))::(24,.eq (g 24))::_) _
  rw[e7,e24]
  replace hS:=(hS.up (Up.drew _)).KP hU0 (A:=Ch B7 (DP.cells ⟨Ik,none,0⟩) 57) (B:=A8 3 1 Cm (.slice ad7 (Fa b t c r x.Time (rs.take k)).uses.length cp7) (Fa b t c r x.Time (rs.take k)).uses) hB7 (ho7.mono (ao _)) (fun i(e:i=B7)=>by omega) (fun i h=>ho7.base i h) (fun i(e:i=B7)h2=>kV ho7 hB7 cQ (e▸h2))
  refine Bh (.A5 lr rfl (.t rfl) (.t rfl) (DP.one _) (hS.blk 7 rfl) rfl) ?_
  intro w9 Nw9
  replace hS:=hS.Co 7 rfl (show Set_ _ w9 _ (DP.cells ⟨Fa b t c r x.Time (rs.take k),ad7,cp7⟩) _ from Nw9)
  refine Ar (Aa (I (.fB 1 rfl) (I (.lb rfl ((hS.blk 6 rfl).An rfl)) (I (.fB 0 rfl) (Bh (.store lf (.t rfl) (.t rfl) rfl (hS.blk 7 rfl) bQ) ?_)))))
  intro w10 Nw10
  replace hS:=hS.Co 7 rfl (show Set_ _ w10 _ (DP.cells ⟨{ Fa b t c r x.Time (rs.take k)with run:=x.ID },ad7,cp7⟩) _ from Nw10)
  refine Ai (Aa (I (.lb rfl (hS.b1.An rfl)) (I (.lc rfl ((hS.blk 7 rfl).agg)) (Ao (.buildSlice (xs:=[(⟨{ Fa b t c r x.Time (rs.take k)with run:=x.ID },ad7,cp7⟩:DP)]) (enc:=DP.cells) (mk:=fun p=>.agg p.cells) lq lr l5 rfl cQ (fun _=>rfl) (fun _=>rfl) (.cu rfl) rfl) rfl ?_))))
  rintro _ w11 ⟨B30,cB30,rfl,NB30,yB30,xB30⟩
  replace hS:=hS.up NB30.up
  have hE30:=xB30
  refine Ao (.Cu (enc:=DP.cells) (bytes:=64) (i:=Tryz.t57) lq kQ rfl rfl rfl rfl cQ (fun _=>rfl) DP.one (.t rfl) (.t rfl) (hS.own 4 rfl) (Az hE30) (by simp[maxLen];omega) (by simp;omega)) rfl ?_
  intro v31 w12 Gw12
  replace hS:=hS.E5 4 rfl Gw12
  refine Bh (.store sizeOf47 (.t rfl) (.t rfl) ((hS.own 4 rfl).sC (fun _=>rfl)) hS.b1 bQ) ?_
  intro w13 Nw13
  replace hS:=hS.Co 1 rfl (show Set_ _ w13 _ (#[v31]) _ from Nw13)
  refine LW.nil (Ae (Ab ?_))
  have h9:=R5 (Bs:=[_,_,_,_,_]) (hS.sub (.cons_cons _ (.cons_cons _ (.cons_cons _ (.cons_cons _ (.cons_cons _ (.cons_cons _ (.cons _ (.cons _ (.cons_cons _ .slnil))))))))))
  replace h9:Wx.Sep no w0 w13 ([_,_,_,_,_]++[E8 (Fb 3 L++[A8 3 1 Cm (DP.uv ⟨{ Fa b t c r x.Time (rs.take k)with run:=x.ID },ad7,cp7⟩) (DP.dec ⟨{ Fa b t c r x.Time (rs.take k)with run:=x.ID },ad7,cp7⟩).uses])]):=h9
  rw[Pq]at h9
  refine Aa (I (.ic rfl oQ) (Ac rfl (LW.nil (Aq ?_))))
  exact⟨(k+1,v31,L++[(⟨{ Fa b t c r x.Time (rs.take k)with run:=x.ID },ad7,cp7⟩:DP)]),⟨by show k+1≤_;omega,by rw[cq,Nc,hL,J8 hx];rfl,h9⟩,tQ,by show rs.length-(k+1)<rs.length-k;omega⟩
 replace h14:=dQ h14
 refine A7 (Ad (Ad (Au (Ab (Af (I (.lb rfl (hS.b1.An rfl)) (Bh (.store sizeOf47 (.t rfl) (.t rfl) ((hS.own 4 rfl).sC (fun _=>rfl)) hS.b1 bQ) ?_)))))))
 intro w14 Nw14
 replace hS:=hS.Co 1 rfl (show Set_ _ w14 _ (#[v]) _ from Nw14)
 refine Bh (.store sizeOf97 (.t rfl) (.const _) rfl hS.b2 bQ) ?_
 intro w15 Nw15
 replace hS:=hS.Co 2 rfl (show Set_ _ w15 _ (#[vi 0]) _ from Nw15)
 refine Ai (Aj (jG (f:=128) (args:=#[.pointer (some ⟨B3,0,none⟩),.pointer (some ⟨B2,0,none⟩)]) (by exact(HQ _ _)) rfl (sM B3 B2 _ hS.b2) (fun w9 u9=>?_)))
 replace hS:=hS.E5 2 rfl u9
 refine sK rfl rfl rfl isAgg47 (hS.b1.An rfl) isAgg97 (hS.b2.An rfl) ⟨_,rfl,?_⟩
 have hkl:k=rs.length:=by omega
 exact⟨v,L,rfl,by rw[hL,hkl,ers];rfl,hS.sub (.cons _ (.cons _ (.cons _ (.cons _ (.cons_cons _ (.cons_cons _ .slnil))))))⟩
theorem O0(bc:Array Go.Value)(b:Base)(t c r:Int)(w:World)(hC:BaseC w bc b)(hlP:b.Processes.length≤400)(hlR:b.Resets.length≤100000)(hlM:b.Measures.length≤100000)(hlT:b.Targets.length≤100000):Ret prog 33 #[.agg bc,vi t,vi c,vi r] w fun r0 w'=>∃v L,r0=v∧L.map DP.dec=Gt b t c r∧Wx.Sep no w w' [A8 57 6 DP.cells v L,E8 (Fb 3 L)]:=by
 obtain⟨w0,rfl,hS⟩:=W0 w
 obtain⟨v0,v1,v2,v3,v4,v5,v6,v7,v8,v9,v10,rfl⟩:=hC.lit
 refine cT 21 func33 rfl (Af (Ao (.bA rfl) rfl ?_))
 rintro _ w1 ⟨B4,rfl,NB4⟩
 replace hS:=hS.Bn NB4
 refine J (Ar (Aa (I (.lc rfl (hS.b0.agg)) (Ac rfl (Ac rfl (Ac rfl (I (.build (cs:=F1 #[v0,v1,v2,v3,v4,v5,v6,v7,v8,v9,v10] t c r) underlying136 zeroValue136 T5 (.ct rfl (.ct rfl (.ct rfl (.cu rfl)))) kQ) (A3 (eC (.o rfl) (MQ)) rfl (Wl #[v0,v1,v2,v3,v4,v5,v6,v7,v8,v9,v10] b t c r _ (hC.up hS.Cj) hlP hlR hlM hlT) ?_))))))))
 rintro _ w2 ⟨v17,L,rfl,hLm,hT⟩
 replace hS:=hS.join hT
 refine Ac rfl (I (.xt rfl rfl) (I (.xt rfl rfl) (LW.A rfl (LW.A rfl (Ar (Aa (Ac rfl (LW.A rfl (Ai (Aj (KW.q ?_)))))))))))
 exact⟨v17,L,rfl,hLm,hS.sub (.cons _ (.cons_cons _ (.cons_cons _ .slnil)))⟩
end Go.Proofs.YtbcnnkfopoiifaaGreatDoor
namespace Go.Wx
open Go.RowKit
section
variable {R:Option Nat}{m:Nat}{P:Program}{n:Nat}{ds:List Deferred}{Q:Exit→Go.Act→World→Prop}{l:Env}{w:World}
def TW(P:Program)(n:Nat)(ds:List Deferred)(ops:Array Oper)(env:Env)(W:World)(o:Oper)(v:Value):Prop:=∀a,Ag n ds env a W→if Region.wanted o (yielded ops a.tmps)=true then eS P o a W (fun u W'=>Up W W'∧u=v)else v=undef
section
variable {ops:Array Oper}{env:Env}{W:World}{o:Oper}{v:Value}
theorem TW.p(h:PEv P n ds env W o v)(hg:o.guard=none):TW P n ds ops env W o v:=fun a ha=>by
 rw[ak (by simp[Region.wanted,hg])]
 exact .inl ⟨v,W,h a W ha (Up.refl W),Up.refl W,rfl⟩
theorem TW.yp{j dj:Nat}{oj:Oper}{want:Bool}(h:PEv P n ds env W o v)(hg:o.guard=some (j,want))(hj:ops[j]?=some oj)(hdj:oj.dst=some dj)(hdn:Nat.ble (dj+1) n=true)(hb:lk env dj=some (.eq (.bool want))):TW P n ds ops env W o v:=fun a ha=>by
 have hw:=Et (o:=o) (ops:=ops) (a:=a) hg hj hdj (by rw[ha.size];exact ah hdn) (ha.val _ _ hb)
 have e:(want==want)=true:=by cases want<;>rfl
 rw[hw,e,ak rfl]
 exact .inl ⟨v,W,h a W ha (Up.refl W),Up.refl W,rfl⟩
theorem TW.no{j dj:Nat}{oj:Oper}{want b:Bool}(hg:o.guard=some (j,want))(hj:ops[j]?=some oj)(hdj:oj.dst=some dj)(hdn:Nat.ble (dj+1) n=true)(hb:lk env dj=some (.eq (.bool b)))(hne:(b==want)=false):TW P n ds ops env W o undef:=fun a ha=>by
 have hw:=Et (o:=o) (ops:=ops) (a:=a) hg hj hdj (by rw[ha.size];exact ah hdn) (ha.val _ _ hb)
 rw[hw,hne,ae bi]
end
theorem Q5{id:Nat}{opsL:List Oper}(k h:Nat)(vs:List Value)(keep:List Nat)(S:Nat→Prop)(PreH PostH:World→Prop)(hm:P.follows .mixedOrders=true)(hl:Cf l=true)
   (hA:Ea opsL.toArray=true)(hC:(Nat.beq k opsL.toArray.size||Fm opsL.toArray k)=true)(hF:I8 opsL.toArray k=true)(hks:Nat.ble k opsL.toArray.size=true)(hD:Ht n opsL.toArray 0 k=true)(hTl:Hq opsL.toArray k=true)
   (hfree:K5 l (opsL.take k)=true)(hhk:Nat.ble (h+1) k=true)(hPr:PreH w.drew)(hRU:∀W W',PreH W→Up W W'→PreH W')(hPU:∀W W',PostH W→Up W W'→PostH W')
   (hop:∀W,Fr S w.drew W→allL (fun i o=>(i≠h→TW P n ds opsL.toArray (Py opsL.toArray (fun i=>.eq (vs.getD i undef)) 0 o++l) W o (vs.getD i undef))∧
     (i=h→(PreH W→SEv P n ds (Py opsL.toArray (fun i=>.eq (vs.getD i undef)) 0 o++l) W o (fun W'=>Fr S W W'∧PostH W'))∧o.guard=none∧o.dst=none)) 0 (opsL.take k))
   (hend:∀W,Fr S w.drew W→PostH W→LW R m P n ds opsL.toArray Q (opsL.drop k) (keep.map (fun i=>(((opsL[i]?).bind (·.dst)).getD 0,.eq (vs.getD i undef)))++l) W)
   (hkp:(keep.all fun i=>Nat.ble (i+1) k&&((opsL[i]?).bind (·.dst)).isSome)=true):
   CW R m P n ds (.region id opsL.toArray true) Q l w:=by
 have hks':k≤opsL.length:=by have:=ah hks;simp at this;omega
 have sub:∀j o,j<k→opsL.toArray[j]?=some o→(opsL.take k)[j]?=some o:=fun j o hjk ho=>by
   rw[cz hjk];simpa using ho
 have hbd:∀i ph,lk l i=some ph→∀(j:Nat)(o:Oper),0≤j→j<k→opsL.toArray[j]?=some o→o.dst≠some i:=fun i ph hi j o _ hjk ho=>Gz hfree hi (am (sub j o hjk ho))
 refine Ga hm hl fun fuel listed a hf hu ha=>(Kl (k:=k) (fun i=>.eq (vs.getD i undef)) (Fr S) (fun L _ W=>((L h=true→PostH W)∧(L h=false→PreH W))∧Fr S w.drew W) (f0:=fun t=>a.tmps.getD t undef) (Fr.refl S) (fun _ _ _=>Fr.trans) (fun i v w w' h u=>h) hA hC hF hks (by simp) hD hl hbd ?_ ⟨⟨fun hh=>by simp at hh,fun _=>hPr⟩,Fr.refl _ _⟩ ?_ fuel listed a hf hu ha (fun _=>rfl))
 · intro i o _ hi hio L f W hU0 hDn hLi hed hInv a ha hsl
   have hU:=hInv.2
   have h3:=(hop W hU).at (sub i o hi hio)
   rw[dp]at h3
   by_cases ih:i=h
   · obtain⟨h4,hg,hd⟩:=h3.2 ih
     rw[ak (by simp[Region.wanted,hg])]
     obtain⟨W',hr,hf',hp⟩:=h4 (hInv.1.2 (by rw[←ih];exact hLi)) a ha
     exact .inr ⟨W',hr,hf',(fun d e=>nomatch (hd.symm.trans e)),⟨fun _=>hp,fun hh=>by rw[ih]at hh;simp[Dr]at hh⟩,hU.trans hf'⟩
   have h4:=h3.1 ih a ha
   have done:∀v W',Up W W'∧v=vs.getD i undef→Fr S W W'∧(∀d,o.dst=some d→(Ph.eq (vs.getD i undef)).holds v W')∧((Dr L i h=true→PostH W')∧(Dr L i h=false→PreH W'))∧Fr S w.drew W':=fun v W' hv=>
     ⟨hv.1.fr S,fun _ _=>hv.2,⟨fun hh=>hPU W W' (hInv.1.1 (by simpa[Dr,Ne.symm ih]using hh)) hv.1,fun hh=>hRU W W' (hInv.1.2 (by simpa[Dr,Ne.symm ih]using hh)) hv.1⟩,hU.trans (hv.1.fr S)⟩
   split at h4
   · rename_i hw
     rw[ak hw]
     rcases h4 with⟨v,W',hr,hp⟩|⟨fn,args,w1,hr,hc⟩
     · exact .inl (.inl ⟨v,W',hr,done v W' hp⟩)
     exact .inl (.inr ⟨fn,args,w1,hr,hc.mono done⟩)
   rename_i hw
   rw[ae hw]
   exact done undef W ⟨Up.refl W,h4.symm⟩
 intro f W hR hInv fuel' listed' a' hf' hu' ha' hsl'
 refine Gb hTl hA (opsL.toArray.size-k) k fuel' listed' a' W rfl (by simp;omega) (av _) hf' hu' (hend W hInv.2 (hInv.1.1 (a8 (ah hhk))) a' ⟨ha'.defers,ha'.size,fun t q ht=>?_⟩)
 rcases C3 ht with h1|h1
 · obtain⟨i,hi,he⟩:=aq.1 (J2 h1)
   cases he
   have hk1:=b7.1 hkp i hi
   rw[aw]at hk1
   have hik:i<k:=ah hk1.1
   cases ho:opsL[i]? with
   |none=>rw[ho]at hk1;cases hk1.2
   |some o=>
     rw[ho]at hk1
     cases hd:o.dst with
     |none=>simp[hd]at hk1
     |some d=>
       have ho':opsL.toArray[i]?=some o:=by simpa using ho
       have hmem:(d,Ph.eq (vs.getD i undef))∈Hu opsL.toArray (fun i=>.eq (vs.getD i undef)) 0 k:=by
         unfold Hu
         rw[ef]
         exact⟨i,bl.2 hik,by rw[ak (by simp),ho'];simp[hd]⟩
       obtain⟨q',hq⟩:=Hj hmem
       obtain⟨j,p,_,hjk,hp,hpd,e⟩:=F2 hq
       have:j=i:=by
         by_cases ee:j=i
         · exact ee
         exact absurd hpd ((D7 hD (ao _) hik ho' hd).2 j p (ao _) hjk ee hp)
       subst this
       have h5:=ha'.val d q' (Km hq)
       rw[e]at h5
       have e6:(((some o).bind fun x=>x.dst).getD 0)=d:=by simp[hd]
       rw[e6]
       exact h5
 refine ha'.val t q ?_
 rw[Hw]
 · exact h1
 cases hq:lk (Hu opsL.toArray (fun i=>.eq (vs.getD i undef)) 0 k) t with
 |none=>rfl
 |some q'=>
   obtain⟨j,p,_,hjk,hp,hpd,_⟩:=F2 hq
   exact absurd hpd (hbd t q h1 j p (ao _) hjk hp)
end
end Go.Wx
namespace Go.Proofs.YtbcnnkfopoiifaaGreatDoor
open Go.Proofs.Tryz
open Go.Wx Go.RowKit
theorem gT(cf:Nat)(lb:Array Go.Value)(p:DP→Bool)(hen:∀args w,(callFunc cf args).run prog w=.ok (.enter cf args) w)(ad:Option Addr)(cp:Nat)(l:List DP)(w:World)(hE0:Els w ad 6 DP.cells l)(hl:l.length≤100000)(hp:∀W,Up w W→∀x,Ret prog cf (#[.agg (DP.cells x)]++lb) W fun r W'=>r=.bool (p x)∧Up W W'):Ret prog 87 #[.slice ad l.length cp,.func (.func cf) #[] lb] w fun r w'=>∃i,r=vi i∧NW p l i∧Up w w':=by
 have hW:=Up.refl w
 obtain⟨w0,rfl,_⟩:=W0 w
 refine cT 19 func87 rfl (Af (J (Ar (Af (Ac rfl (I (.Df lq (.t rfl)) (I (.move (.const _)) (Ai (Ap (A9 (σ:=Nat) (fun s w=>(s≤l.length)∧(∀y∈l.take s,p y=false)∧(Up w0 w)) (fun s=>[(8,.eq (vi (s:Int)))]) ([(0,.eq _),(1,.eq _),(7,.eq _)]) (fun s=>l.length-s) 0 ?_ tQ ?_))))))))))
 ·exact⟨ao _,by simp,hW⟩
 rintro k w1 ⟨hk,hn,hW⟩
 refine Af (I (.l2 rfl rfl) (Ar (CW.b rfl (fun h9=>?_) (fun h9=>?_))))
 ·replace h9:=dQ h9
  refine Ak (Ab (Al (Ap (Af (Ac rfl (LW.A rfl (Ar ?_)))))))
  have hE:=Els.up hE0 hW
  refine Aa (Ac rfl (Ac rfl (Ac rfl ?_)))
  obtain⟨x,hx⟩:=Av (xs:=l) (i:=k) oQ
  obtain⟨Bx,ox,ax,hcx⟩:=hE _ x hx
  refine I (.Ay lq lr (.t rfl) (.t rfl) oQ ax) (I (.lc rfl (hcx)) (A3 (D0 (.t rfl) (.cu rfl) (hen)) rfl (hp _ hW x) ?_))
  rintro _ w2 ⟨rfl,uw2⟩
  replace hW:=hW.up uw2
  replace hcx:=hcx.up uw2
  refine Ai (CW.b rfl (fun h16=>?_) (fun h16=>?_))
  ·replace h16:=dQ h16
   refine Af (Ac rfl (LW.A rfl (Ai (Aj (Aw (Ah (Ah (Aw (Ah (KW.q ?_))))))))))
   exact⟨_,rfl,.inl ⟨k,x,rfl,hx,by simpa using h16,hn⟩,hW⟩
  replace h16:=dQ h16
  refine Ak (Ae (Ab (Aa (I (.ic rfl oQ) (Ac rfl (LW.nil (Aq ?_)))))))
  exact⟨k+1,⟨by omega,Vb hx hn (by simpa using h16),hW⟩,tQ,by omega⟩
 replace h9:=dQ h9
 refine A7 (Ad (Ad (Au (Ab (Af (J (Ai (Aj (KW.q ?_)))))))))
 exact⟨-1,rfl,.inr ⟨rfl,by rw[show k=l.length by omega,br]at hn;exact hn⟩,hW⟩
theorem nU(x:DP)(id:Int)(B:Nat)(w:World)(hB:Blk w B #[vi id] 3):Ret prog 88 #[.agg (DP.cells x),.pointer (some ⟨B,0,none⟩)] w fun r w'=>r=.bool (decide (x.dec.run=id))∧Up w w':=by
 have hW:=Up.refl w
 refine cT 8 func88 rfl (Af (Ao (.bA rfl) rfl ?_))
 rintro _ w1 ⟨B2,rfl,NB2⟩
 replace hB:=hB.up NB2.up
 replace hW:=hW.up NB2.up
 have hB2:=NB2.blk
 refine J (Ar (Aa (I (.fB 0 rfl) (I (.lb rfl (hB2.An rfl)) (I (.lb rfl (hB.An rfl)) (I (.eql (.t rfl) (.t rfl)) (LW.A rfl (Ai (Aj (KW.q ?_))))))))))
 exact⟨rfl,hW⟩
theorem cJ(bc:Array Go.Value)(b:Base)(id:Int)(w:World)(hC:BaseC w bc b)(hlP:b.Processes.length≤400)(hlR:b.Resets.length≤100000)(hlM:b.Measures.length≤100000)(hlT:b.Targets.length≤100000)(hV:∀f∈b.Processes,F8 f.Value):Ret prog 40 #[.agg bc,vi id] w fun r0 w'=>∃v,r0=.tuple #[v,.bool (F9 b id).2.1,vi (F9 b id).2.2]∧KQ w' v (F9 b id).1∧Up w w':=by
 obtain⟨w0,rfl,hS⟩:=W0 w
 refine cT 57 func40 rfl (Af (Ao (.bA rfl) rfl ?_))
 rintro _ w1 ⟨B2,rfl,NB2⟩
 replace hS:=hS.Bn NB2
 refine Ao (.Ro (.t rfl) rfl) rfl ?_
 rintro _ w2 ⟨B3,rfl,NB3⟩
 replace hS:=hS.Bn NB3
 refine Ao (.Bi l5) rfl ?_
 rintro _ w3 ⟨B4,rfl,NB4⟩
 replace hS:=hS.Bn NB4
 refine J (J (Ar ?_))
 cases hq1:Ec b id with
 |none=>
  refine Aa (I (.Ef l7 lw (hC.size) (.t rfl) (hS.b0.agg)) (I (.lb rfl (hS.b1.An rfl)) (A3 (eC (.u rfl rfl) (CX)) rfl (Na bc b id _ (hC.up hS.Cj) oQ) ?_)))
  rintro _ w4 ⟨rfl,uw4⟩
  replace hS:=hS.up uw4
  rw[hq1]
  refine Ac rfl (I (.xt rfl rfl) (I (.xt rfl rfl) (Ao (.Bi k_) rfl ?_)))
  rintro _ w5 ⟨B7,rfl,MB7⟩
  refine Bh (.A5 k7 rfl (.t rfl) (.t rfl) (Fact.one _) MB7.blk rfl) ?_
  intro w6 LB7
  have NB7:=MB7.set LB7
  replace hS:=hS.Bn NB7
  refine LW.A rfl (Ar (Af (Ac rfl (I (.n1 rfl) (Ai (CW.v rfl (Af (I (.build (cs:=DP.cells ⟨Ik,none,0⟩) m8 l5 G8 .nil kQ) (Bh (.A5 lr rfl (.t rfl) (.t rfl) (DP.one _) hS.b2 rfl) ?_)))))))))
  intro w7 Nw7
  replace hS:=hS.Co 2 rfl (show Set_ _ w7 _ (DP.cells ⟨Ik,none,0⟩) _ from Nw7)
  refine J (J (Ai (Aj (Ah (Hm rfl rfl rfl rfl m_ lr rfl hS.b2.agg ⟨_,rfl,?_⟩)))))
  rw[Xv hq1]
  exact⟨_,rfl,⟨none,0,rfl,Sl.nil _ _ _⟩,hS.Cj⟩
 |some f=>
  refine Aa (I (.Ef l7 lw (hC.size) (.t rfl) (hS.b0.agg)) (I (.lb rfl (hS.b1.An rfl)) (A3 (eC (.u rfl rfl) (CX)) rfl (Na bc b id _ (hC.up hS.Cj) oQ) ?_)))
  rintro _ w8 ⟨rfl,uw8⟩
  replace hS:=hS.up uw8
  rw[hq1]
  refine Ac rfl (I (.xt rfl rfl) (I (.xt rfl rfl) (Ao (.Bi k_) rfl ?_)))
  rintro _ w9 ⟨B7,rfl,MB7⟩
  refine Bh (.A5 k7 rfl (.t rfl) (.t rfl) (Fact.one _) MB7.blk rfl) ?_
  intro w10 LB7
  have NB7:=MB7.set LB7
  replace hS:=hS.Bn NB7
  refine LW.A rfl (Ar (Af (Ac rfl (I (.n1 rfl) (Ai (CW.f rfl (Ak (Ab (Af (I (.Ef l7 lw (hC.size) (.t rfl) (hS.b0.agg)) (I (.fB 11 rfl) (I (.lb rfl (hS.b3.An rfl)) (I (.fB 12 rfl) (I (.lb rfl (hS.b3.An rfl)) (I (.fB 14 rfl) (I (.lb rfl (hS.b3.An rfl)) (A3 (eC (.ct rfl (.ct rfl (.ct rfl (.cu rfl)))) (GH)) rfl (O0 bc b f.Tool f.Chamber f.Recipe _ (hC.up hS.Cj) hlP hlR hlM hlT) ?_)))))))))))))))))
  rintro _ w11 ⟨v29,L,rfl,hLm,hT⟩
  replace hS:=hS.join hT
  have hLl:L.length≤400:=by have h1:=a_ List.length hLm;rw[cd,Q4]at h1;have h2:=Iv b f.Tool f.Chamber f.Recipe;omega
  obtain⟨ad29,cp29,rfl,_⟩:=(hS.own 4 rfl).sl (fun _=>rfl)
  have hEL:Els w11 ad29 6 DP.cells L:=(hS.own 4 rfl).els (fun _=>rfl)
  refine LW.A rfl (Ar (Aa (Ac rfl (I (.makeFunc (.cu rfl)) (A3 (eC (.u rfl rfl) (NH)) rfl (gT 88 #[.pointer (some ⟨B3,0,none⟩)] (fun x=>decide (x.dec.run=id)) NI ad29 cp29 L _ hEL oQ (fun W u x=>nU x id B3 W (hS.b1.up u))) ?_)))))
  rintro _ w12 ⟨i,rfl,hi,uw12⟩
  replace hS:=hS.up uw12
  refine LW.A rfl (Ar (Af (Ac rfl (I (.lss (.t rfl) (.const _)) (Ai (CW.b rfl (fun h34=>?_) (fun h34=>?_)))))))
  ·replace h34:=dQ h34
   refine Al ?_
   have hn:=(hi.resolve_left (fun⟨k,x,e,_⟩=>by omega)).2
   refine Aa (I (.build (cs:=DP.cells ⟨Ik,none,0⟩) m8 l5 G8 .nil kQ) (Bh (.A5 lr rfl (.t rfl) (.t rfl) (DP.one _) hS.b2 rfl) ?_))
   intro w13 Nw13
   replace hS:=hS.Co 2 rfl (show Set_ _ w13 _ (DP.cells ⟨Ik,none,0⟩) _ from Nw13)
   refine J (J (Ai (Aj (Ah (Hm rfl rfl rfl rfl m_ lr rfl hS.b2.agg ⟨_,rfl,?_⟩)))))
   rw[kX hq1 hLm hn]
   exact⟨_,rfl,⟨none,0,rfl,Sl.nil _ _ _⟩,hS.Cj⟩
  replace h34:=dQ h34
  refine Ak (Ab (Al ?_))
  obtain⟨k,x,rfl,hx,hr,hn⟩:=hi.resolve_right (fun⟨e,_⟩=>by omega)
  have hkl:=(ai.1 hx).1
  refine Aa (I (.fB 16 rfl) (I (.lb rfl (hS.b3.An rfl)) (A3 (eC (.ct rfl (.cons (.const _) .nil)) (wW)) rfl (Q2 f.Value 1000 _ (hV f (Xw hq1)) cQ ⟨by decide,by decide⟩) ?_)))
  rintro _ w14 ⟨rfl,uw14⟩
  replace hS:=hS.up uw14
  refine Ac rfl (I (.xt rfl rfl) (I (.xt rfl rfl) (Ao (.Bi lm) rfl ?_)))
  rintro _ w15 ⟨B11,rfl,MB11⟩
  refine Bh (.A5 lj rfl (.t rfl) (.t rfl) (Rt.one _) MB11.blk rfl) ?_
  intro w16 LB11
  have NB11:=MB11.set LB11
  replace hS:=hS.Bn NB11
  refine LW.A rfl (Ar ?_)
  obtain⟨Bx,ox,ax,hcx⟩:=(show Els w16 ad29 6 DP.cells L from(hS.own 4 rfl).els (fun _=>rfl)) k x hx
  subst ax
  have hnB:Bx≠B4:=fun e=>hS.ne (i:=2) (j:=4) cQ rfl rfl B4 rfl (by show some Bx=some B4;rw[e])
  cases hq9:Ow f.Value 1000 with
  |true=>
   have h47:decide ((Ia f.Value 1000).2=0)=true:=by rw[Gq hq9];rfl
   refine Q5 16 15 [.slice (some ⟨Bx,ox,none⟩) L.length cp29,vi (k:Int),.pointer (some ⟨Bx,ox+k*6,none⟩),.agg x.cells,vi (Ia f.Value 1000).2,.bool true,.bool true,.agg (Ia f.Value 1000).1.cells,.slice (some ⟨Bx,ox,none⟩) L.length cp29,vi (k:Int),.pointer (some ⟨Bx,ox+k*6,none⟩),.pointer (some ⟨Bx,ox+k*6+1,none⟩),.agg x.dec.par.cells,.bool (Wk (Ia f.Value 1000).1 x.dec.par),.bool (true&&Wk (Ia f.Value 1000).1 x.dec.par),undef] [14] ((· =B4)) (fun W=>Blk W B4 (DP.cells ⟨Ik,none,0⟩) 57) (fun W=>Blk W B4 x.cells 57) kQ rfl kQ kQ kQ kQ kQ kQ kQ cQ ((hS.up (Up.drew _)).blk 2 rfl) (fun _ _ h u=>h.up u) (fun _ _ h u=>h.up u) ?_ ?_ kQ
   ·intro W hU0
    have hU:=((Up.drew w16).fr ((· =B4))).trans hU0
    have hcW:AggAt W Bx (ox+k*6) x.cells:=fun j v hv=>Qb (hcx j v hv) hU hnB
    have hB11:Blk W B11 (Ia f.Value 1000).1.cells 55:=(hS.blk 6 rfl).fr hU (fun e=>hS.pY 2 6 cQ rfl rfl e.symm)
    refine aC ⟨fun _=>TW.p (PEv.mv rfl) rfl,fun e=>absurd e cQ⟩ (aC ⟨fun _=>TW.p (PEv.mv rfl) rfl,fun e=>absurd e cQ⟩ (aC ⟨fun _=>TW.p (PEv.Ay lq lr (.t rfl) (.t rfl) hkl rfl) rfl,fun e=>absurd e cQ⟩ (aC ⟨fun _=>TW.p (PEv.lc rfl (hcW)) rfl,fun e=>absurd e cQ⟩ (aC ⟨fun _=>TW.p (PEv.mv rfl) rfl,fun e=>absurd e cQ⟩ (aC ⟨fun _=>TW.p (PEv.tr (PEv.eql (.t rfl) (.const _)) h47) rfl,fun e=>absurd e cQ⟩ (aC ⟨fun _=>TW.p (PEv.mv rfl) rfl,fun e=>absurd e cQ⟩ (aC ⟨fun _=>TW.yp (PEv.lc rfl (hB11.agg)) rfl rfl rfl rfl rfl,fun e=>absurd e cQ⟩ (aC ⟨fun _=>TW.yp (PEv.mv rfl) rfl rfl rfl rfl rfl,fun e=>absurd e cQ⟩ (aC ⟨fun _=>TW.yp (PEv.mv rfl) rfl rfl rfl rfl rfl,fun e=>absurd e cQ⟩ (aC ⟨fun _=>TW.yp (PEv.Ay lq lr (.t rfl) (.t rfl) hkl rfl) rfl rfl rfl rfl rfl,fun e=>absurd e cQ⟩ (aC ⟨fun _=>TW.yp (PEv.fB 1 rfl) rfl rfl rfl rfl rfl,fun e=>absurd e cQ⟩ (aC ⟨fun _=>TW.yp (PEv.lc rfl (Zh hcW)) rfl rfl rfl rfl rfl,fun e=>absurd e cQ⟩ (aC ⟨fun _=>TW.yp (PEv.Yl ni (Ln _ _) (.t rfl) (.t rfl)) rfl rfl rfl rfl rfl,fun e=>absurd e cQ⟩ (aC ⟨fun _=>TW.p (PEv.pa rfl (fun _=>.tmp rfl)) rfl,fun e=>absurd e cQ⟩ (aC ⟨fun e=>absurd rfl e,fun _=>⟨fun hpre=>SEv.mono (SEv.A5 lr rfl (.t rfl) (.t rfl) (DP.one x) hpre rfl) (fun W2 N=>⟨N.sto.fr,N.blk⟩),rfl,rfl⟩⟩ ?_)))))))))))))))
    exact allL.nil
   intro w17 hU0 hP
   have hU:=((Up.drew w16).fr ((· =B4))).trans hU0
   replace hS:=hS.step 2 rfl (A':=Ch B4 x.cells 57) hU hP (fun _ hi=>.inl hi)
   change LW _ _ _ _ _ _ _ _ ((56,.eq (.bool (true&&Wk (Ia f.Value 1000).1 x.dec.par)))::_) _
   refine LW.A rfl (J (Ai (Aj (Hm rfl rfl rfl rfl m_ lr rfl hS.b2.agg ⟨_,rfl,?_⟩))))
   rw[Oe hq1 hLm hx hr hn,Gq hq9]
   exact⟨_,rfl,⟨x.ad,x.cp,rfl,Js (hS.get 5 rfl) x (am hx)⟩,hS.Cj⟩
  |false=>
   have h47:decide ((Ia f.Value 1000).2=0)=false:=by rw[kY hq9];rfl
   refine Q5 16 15 [.slice (some ⟨Bx,ox,none⟩) L.length cp29,vi (k:Int),.pointer (some ⟨Bx,ox+k*6,none⟩),.agg x.cells,vi (Ia f.Value 1000).2,.bool false,.bool false,undef,undef,undef,undef,undef,undef,undef,.bool (false&&false),undef] [14] ((· =B4)) (fun W=>Blk W B4 (DP.cells ⟨Ik,none,0⟩) 57) (fun W=>Blk W B4 x.cells 57) kQ rfl kQ kQ kQ kQ kQ kQ kQ cQ ((hS.up (Up.drew _)).blk 2 rfl) (fun _ _ h u=>h.up u) (fun _ _ h u=>h.up u) ?_ ?_ kQ
   ·intro W hU0
    have hU:=((Up.drew w16).fr ((· =B4))).trans hU0
    have hcW:AggAt W Bx (ox+k*6) x.cells:=fun j v hv=>Qb (hcx j v hv) hU hnB
    have hB11:Blk W B11 (Ia f.Value 1000).1.cells 55:=(hS.blk 6 rfl).fr hU (fun e=>hS.pY 2 6 cQ rfl rfl e.symm)
    refine aC ⟨fun _=>TW.p (PEv.mv rfl) rfl,fun e=>absurd e cQ⟩ (aC ⟨fun _=>TW.p (PEv.mv rfl) rfl,fun e=>absurd e cQ⟩ (aC ⟨fun _=>TW.p (PEv.Ay lq lr (.t rfl) (.t rfl) hkl rfl) rfl,fun e=>absurd e cQ⟩ (aC ⟨fun _=>TW.p (PEv.lc rfl (hcW)) rfl,fun e=>absurd e cQ⟩ (aC ⟨fun _=>TW.p (PEv.mv rfl) rfl,fun e=>absurd e cQ⟩ (aC ⟨fun _=>TW.p (PEv.fa (PEv.eql (.t rfl) (.const _)) h47) rfl,fun e=>absurd e cQ⟩ (aC ⟨fun _=>TW.p (PEv.mv rfl) rfl,fun e=>absurd e cQ⟩ (aC ⟨fun _=>TW.no rfl rfl rfl rfl rfl rfl,fun e=>absurd e cQ⟩ (aC ⟨fun _=>TW.no rfl rfl rfl rfl rfl rfl,fun e=>absurd e cQ⟩ (aC ⟨fun _=>TW.no rfl rfl rfl rfl rfl rfl,fun e=>absurd e cQ⟩ (aC ⟨fun _=>TW.no rfl rfl rfl rfl rfl rfl,fun e=>absurd e cQ⟩ (aC ⟨fun _=>TW.no rfl rfl rfl rfl rfl rfl,fun e=>absurd e cQ⟩ (aC ⟨fun _=>TW.no rfl rfl rfl rfl rfl rfl,fun e=>absurd e cQ⟩ (aC ⟨fun _=>TW.no rfl rfl rfl rfl rfl rfl,fun e=>absurd e cQ⟩ (aC ⟨fun _=>TW.p (PEv.De (b:=false) (.t rfl) (fun hp=>absurd (show false=true from hp) cQ)) rfl,fun e=>absurd e cQ⟩ (aC ⟨fun e=>absurd rfl e,fun _=>⟨fun hpre=>SEv.mono (SEv.A5 lr rfl (.t rfl) (.t rfl) (DP.one x) hpre rfl) (fun W2 N=>⟨N.sto.fr,N.blk⟩),rfl,rfl⟩⟩ ?_)))))))))))))))
    exact allL.nil
   intro w18 hU0 hP
   have hU:=((Up.drew w16).fr ((· =B4))).trans hU0
   replace hS:=hS.step 2 rfl (A':=Ch B4 x.cells 57) hU hP (fun _ hi=>.inl hi)
   change LW _ _ _ _ _ _ _ _ ((56,.eq (.bool (false&&false)))::_) _
   refine LW.A rfl (J (Ai (Aj (Hm rfl rfl rfl rfl m_ lr rfl hS.b2.agg ⟨_,rfl,?_⟩))))
   rw[Oe hq1 hLm hx hr hn,kY hq9]
   exact⟨_,rfl,⟨x.ad,x.cp,rfl,Js (hS.get 5 rfl) x (am hx)⟩,hS.Cj⟩
end Go.Proofs.YtbcnnkfopoiifaaGreatDoor
namespace Go.Wx
theorem sN{α:Type}{enc:α→Array Value}{e k:Nat}{w0 w:World}{v:Value}{xs:List α}{rest:List Asr}(h:Sep no w0 w (A8 e k enc v xs::rest)):OwnS w w0.heap.size e k enc v xs:=(h.own 0 rfl).I1 (fun i hi=>(h.foot 0 rfl i hi).resolve_left (fun h=>h))
def wI(n:Int):Int:=IntKind.i64.wrap n
def I4(y:I6):Fact:={ Dc with Version:=wI (1+A6 (wI (y.a.tdiv 5)) 3),Day:=A6 y.b 10,Gone:=decide (A6 (wI (y.b.tdiv 10)) 6=0),Time:=A6 y.c 60 }
def FJ(y:I6):Fact:={ I4 y with Kind:=1,ID:=wI (1+A6 y.d 9),Wafer:=wI (1+A6 y.e 4),Tool:=wI ((A6 (wI (y.e.tdiv 4)) 8).tdiv 7),Chamber:=wI ((A6 (wI (y.e.tdiv 32)) 6).tdiv 5),Recipe:=wI (1+wI ((A6 y.f 8).tdiv 7)),Revision:=1,Until:=wI ((I4 y).Time+A6 (wI (y.f.tdiv 8)) 9),Value:=wI (1000*A6 (wI (y.f.tdiv 72)) 40) }
def FK(y:I6):Fact:={ I4 y with Kind:=2,ID:=wI (1+A6 y.d 9),Value:=wI (A6 y.f 60-10) }
def FL(y:I6):Fact:={ I4 y with Kind:=10,Recipe:=wI (1+wI ((A6 y.d 8).tdiv 7)),Value:=A6 y.f 40 }
def FM(y:I6):Fact:={ I4 y with Kind:=9,ID:=wI (1+A6 y.d 9),Tool:=wI ((A6 y.e 8).tdiv 7),Chamber:=wI ((A6 (wI (y.e.tdiv 8)) 6).tdiv 5) }
def kZ(y:I6):Option Fact:=if A6 y.a 5=0∨A6 y.a 5=1 then some (FJ y)else if A6 y.a 5=2 then some (FK y)else if A6 y.a 5=3 then some (FL y)else if 0<A6 y.f 3 then none else some (FM y)
theorem BX{y:I6}(h:A6 y.a 5=0∨A6 y.a 5=1):kZ y=some (FJ y):=ak h
theorem BY{y:I6}(h:A6 y.a 5=2):kZ y=some (FK y):=by unfold kZ;rw[ae oQ,ak h]
theorem BZ{y:I6}(h:A6 y.a 5=3):kZ y=some (FL y):=by unfold kZ;rw[ae oQ,ae oQ,ak h]
theorem CA{y:I6}(h0:¬A6 y.a 5=0)(h1:¬A6 y.a 5=1)(h2:¬A6 y.a 5=2)(h3:¬A6 y.a 5=3)(h:0<A6 y.f 3):kZ y=none:=by unfold kZ;rw[ae oQ,ae h2,ae h3,ak h]
theorem CB{y:I6}(h0:¬A6 y.a 5=0)(h1:¬A6 y.a 5=1)(h2:¬A6 y.a 5=2)(h3:¬A6 y.a 5=3)(h:¬0<A6 y.f 3):kZ y=some (FM y):=by unfold kZ;rw[ae oQ,ae h2,ae h3,ae h]
def Vc(xs:List I6):List Fact:=(xs.take 30).filterMap kZ
theorem Jn(xs:List I6):(Vc xs).length≤30:=by
 unfold Vc
 refine bb (List.length_filterMap_le _ _) ?_
 rw[bu];omega
theorem take_one{α:Type}{l:List α}{k:Nat}{x:α}(h:l[k]?=some x):l.take (k+1)=l.take k++[x]:=by rw[cn,h];rfl
theorem cK{xs:List I6}{k:Nat}{y:I6}(hy:xs[k]?=some y)(hk:k<30):Vc (xs.take (k+1))=Vc (xs.take k)++(kZ y).toList:=by
 unfold Vc
 rw[fq,fq,gc oQ,gc oQ,take_one hy,List.filterMap_append,List.filterMap_cons,List.filterMap_nil]
 cases kZ y<;>rfl
theorem Kt{xs:List I6}{k:Nat}{y:I6}{f:Fact}(hy:xs[k]?=some y)(hk:k<30)(h:kZ y=some f):Vc (xs.take (k+1))=Vc (xs.take k)++[f]:=by rw[cK hy hk,h];rfl
theorem sO{xs:List I6}{k:Nat}{y:I6}(hy:xs[k]?=some y)(hk:k<30)(h:kZ y=none):Vc (xs.take (k+1))=Vc (xs.take k):=by rw[cK hy hk,h];simp
theorem yQ{xs:List I6}{k:Nat}(h:¬(k<xs.length∧k<30)):Vc (xs.take k)=Vc xs:=by
 unfold Vc
 rw[fq]
 congr 1
 by_cases h1:k<30
 · rw[gc oQ,di oQ,di (by omega)]
 rw[cv (by omega)]
def rI(n:Int):Rt:=⟨n,1⟩
def Jb(a b:Dec):Bool:=decide (a.run=b.run)&&Wk a.par b.par&&Wk a.est b.est&&decide (a.uses=b.uses)
theorem R6(a b:Dec):Jb a b=true↔a=b:=by
 obtain⟨a1,a2,a3,a4⟩:=a
 obtain⟨b1,b2,b3,b4⟩:=b
 unfold Jb
 simp only[aw,fi,kW,Dec.mk.injEq,and_assoc]
theorem gU(a:Dec):Jb a a=true:=(R6 a a).2 rfl
def J9:List Dec→List Dec→Bool
 |[],[]=>true
 |a::l,b::m=>Jb a b&&J9 l m
 |_,_=>false
theorem S3:∀l:List Dec,J9 l l=true
 |[]=>rfl
 |a::l=>by unfold J9;rw[gU,S3 l];rfl
theorem nV{l m:List Int}{k:Nat}{x y:Int}(hx:l[k]?=some x)(hy:m[k]?=some y)(h:l.take k=m.take k)(e:x=y):l.take (k+1)=m.take (k+1):=by
 rw[take_one hx,take_one hy,h,e]
theorem yR{a b:Dec}(h:(!decide (a.run=b.run)|| !Wk a.par b.par|| !Wk a.est b.est|| !decide ((a.uses.length:Int)=(b.uses.length:Int)))=true):Jb a b=false:=by
 cases hs:Jb a b with
 |false=>rfl
 |true=>
   have e:=(R6 a b).1 hs
   subst e
   simp[cH]at h
theorem sP{a b:Dec}{k:Nat}{x y:Int}(hx:a.uses[k]?=some x)(hy:b.uses[k]?=some y)(h:x≠y):Jb a b=false:=by
 cases hs:Jb a b with
 |false=>rfl
 |true=>
   have e:=(R6 a b).1 hs
   subst e
   rw[hx]at hy
   exact absurd (kh hy) h
theorem sR{a b:Dec}(h:(!decide (a.run=b.run)|| !Wk a.par b.par|| !Wk a.est b.est|| !decide ((a.uses.length:Int)=(b.uses.length:Int)))=false)(hu:a.uses=b.uses):Jb a b=true:=by
 simp only[df,iv]at h
 unfold Jb
 rw[h.1.1.1,h.1.1.2,h.1.2,hu,a8 rfl];rfl
theorem Vd:∀{l m:List Dec},l.length≠m.length→J9 l m=false
 |[],[],h=>absurd rfl h
 |[],_::_,_=>rfl
 |_::_,[],_=>rfl
 |a::l,b::m,h=>by unfold J9;rw[Vd (fun e=>h (by simp[e])),ji]
theorem S4{l m:List Dec}{k:Nat}{x y:Dec}(hx:l[k]?=some x)(hy:m[k]?=some y):J9 (l.drop k) (m.drop k)=(Jb x y&&J9 (l.drop (k+1)) (m.drop (k+1))):=by
 have h1:=(ai.1 hx)
 have h2:=(ai.1 hy)
 rw[ce h1.1,ce h2.1,h1.2,h2.2];rfl
theorem gV{l m:List Dec}{k:Nat}(h1:l.length≤k)(h2:m.length≤k):J9 (l.drop k) (m.drop k)=true:=by
 rw[fc h1,fc h2];rfl
theorem CC{L:List DP}{Ds:List Dec}{k:Nat}{p:DP}(hm:L.map DP.dec=Ds)(h:L[k]?=some p):Ds[k]?=some p.dec:=by rw[←hm,cg,h];rfl
theorem EK{w:World}{B o:Nat}{p:DP}(h:AggAt w B o p.cells):w.cell? ⟨B,o,none⟩=some (vi p.dec.run):=h 0 _ rfl
theorem EL{w:World}{B o:Nat}{p:DP}(h:AggAt w B o p.cells):AggAt w B (o+3) p.dec.est.cells:=fun j v hv=>by
 have h2:p.cells[3+j]?=some v:=by
   match j with
   |0=>simpa[Rt.cells,DP.cells,DecV.cells,Dec.v]using hv
   |1=>simpa[Rt.cells,DP.cells,DecV.cells,Dec.v]using hv
   |j+2=>simp[Rt.cells]at hv
 have:=h (3+j) v h2
 rwa [show o+(3+j)=o+3+j by omega]at this
theorem lA{w:World}{B:Nat}{p:DP}{T:TypeId}(h:Blk w B p.cells T):AggAt w B 1 p.dec.par.cells:=by have:=Zh h.agg;rwa [dp]at this
theorem lB{w:World}{B:Nat}{p:DP}{T:TypeId}(h:Blk w B p.cells T):AggAt w B 3 p.dec.est.cells:=by have:=EL h.agg;rwa [dp]at this
theorem KR{w:World}{ad:Option Addr}{p q r:DP}(h:Els w ad 6 DP.cells [p,q,r]):∃B o,ad=some ⟨B,o,none⟩∧AggAt w B (o+0*6) p.cells∧AggAt w B (o+1*6) q.cells∧AggAt w B (o+2*6) r.cells:=by
 obtain⟨B,o,e,h0⟩:=h 0 p rfl
 obtain⟨B1,o1,e1,h1⟩:=h 1 q rfl
 obtain⟨B2,o2,e2,h2⟩:=h 2 r rfl
 cases e.symm.trans e1
 cases e.symm.trans e2
 exact⟨B,o,e,h0,h1,h2⟩
theorem NX{L:List DP}{a b c:Dec}(h:L.map DP.dec=[a,b,c]):∃a1 c1 a2 c2 a3 c3,L=[⟨a,a1,c1⟩,⟨b,a2,c2⟩,⟨c,a3,c3⟩]:=by
 match L,h with
 |[⟨p,a1,c1⟩,⟨q,a2,c2⟩,⟨r,a3,c3⟩],h=>
   injection h with h1 h
   injection h with h2 h
   injection h with h3 _
   subst h1 h2 h3
   exact⟨a1,c1,a2,c2,a3,c3,rfl⟩
theorem sS{w w':World}{B:Nat}{cs:Array Value}{T:TypeId}{ad:Option Addr}{xs:List Fact}(h:Els w ad 19 Fact.cells xs)(hb:Blk w B cs T)(hc:∀(i:Nat)(n:Int),cs[i]?≠some (vi n))(u:Sto B w w'):Els w' ad 19 Fact.cells xs:=fun i x hx=>by
 obtain⟨B',o,e,h1⟩:=h i x hx
 refine⟨B',o,e,h1.sto u ?_⟩
 intro e2
 have h2:=h1 0 (vi x.Kind) rfl
 rw[e2]at h2
 have h3:cs[o+i*19+0]?=some (vi x.Kind):=by
   unfold World.cell? at h2
   rw[show w.heap[B]?=some (.cells cs T (0,0))from hb]at h2
   simpa using h2
 exact hc _ _ h3
theorem yS{w w':World}{B:Nat}{cs:Array Value}{T:TypeId}{v:Value}{xs:List Fact}(h:Sl w v 19 Fact.cells xs)(hb:Blk w B cs T)(hc:∀(i:Nat)(n:Int),cs[i]?≠some (vi n))(u:Sto B w w'):Sl w' v 19 Fact.cells xs:=let⟨ad,c,e,hE⟩:=h;⟨ad,c,e,sS hE hb hc u⟩
theorem sT{w w':World}{B:Nat}{cs:Array Value}{T:TypeId}{bc:Array Value}{b:Base}(h:BaseC w bc b)(hb:Blk w B cs T)(hc:∀(i:Nat)(n:Int),cs[i]?≠some (vi n))(u:Sto B w w'):BaseC w' bc b:=by
 obtain⟨v0,v1,v2,v3,v4,v5,v6,v7,v8,v9,v10,e,h0,h1,h2,h3,h4,h5,h6,h7,h8,h9,h10⟩:=h
 have f:∀{v:Value}{xs:List Fact},Sl w v 19 Fact.cells xs→Sl w' v 19 Fact.cells xs:=fun h=>yS h hb hc u
 exact⟨v0,v1,v2,v3,v4,v5,v6,v7,v8,v9,v10,e,f h0,f h1,f h2,f h3,f h4,f h5,f h6,f h7,f h8,f h9,f h10⟩
theorem F3{l:List Fact}{d:Int}{j:Nat}(hj:j<11){x:Fact}:x∈C2 (Dj l d) j↔M6 l d x∧x.Gone=false∧x.Kind=((j+1:Nat):Int):=by
 rw[N7 l d hj]
 unfold Er
 rw[ak (aa.2 rfl),(El _).same.mem,bx,Ll]
 simp
theorem G5{l:List Fact}{d:Int}{x:Fact}(h:M6 l d x):Bw x=true:=Hh h.2.1
theorem lC{l:List Fact}{d:Int}{x y:Fact}(hx:M6 l d x)(hy:M6 l d y)(e:Bm x=Bm y):x=y:=Mc (G5 hx) (G5 hy) e (hy.2.2.2 x hx.1 hx.2.2.1) (hx.2.2.2 y hy.1 hy.2.2.1)
theorem R7(l:List Fact)(d:Int){j:Nat}(hj:j<11):(C2 (Dj l d) j).Nodup:=by
 rw[N7 l d hj]
 unfold Er
 rw[ak (aa.2 rfl)]
 exact((El _).same.perm.nodup_iff).2 ((Jl l d).filter _)
theorem nW{α:Type}{key:α→K2}{A B:List α}(hA:I0 key A)(hB:I0 key B)(hp:A.Perm B)(hd:∀x∈A,∀y∈A,key x=key y→x=y):A=B:=by
 rw[(StS.refl hA).eq,(StS.refl hB).eq]
 exact Pn hp hd
theorem Zi(l:List Fact)(d:Int){j:Nat}(hj:j<11):I0 (Ff ((j+1:Nat):Int)) (C2 (Dj l d) j):=by
 rw[N7 l d hj];unfold Er;rw[ak (aa.2 rfl)];exact(El _).ord
theorem Xx(b:Base)(t c r:Int):∀D∈Gt b t c r,D.uses.length≤(Md b t c r).length:=fun D hD=>by
 unfold Gt at hD
 obtain⟨i,hi,rfl⟩:=aq.1 hD
 have hi:=bl.1 hi
 obtain⟨x,hx⟩:=Av hi
 rw[J8 hx]
 refine bb (nT b t c r x.Time _) ?_
 rw[bu];omega
def EM(n:Nat)(b:Base):Prop:=∀j,(C2 b j).length≤n
theorem Pr{l:List Fact}{n:Nat}(h:l.length≤n)(d:Int):EM n (Dj l d):=fun j=>by
 by_cases hj:j<11
 · rw[N7 l d hj]
   exact bb (Qu _ _ _) (bb (U4 l d) h)
 rw[N8 _ hj];simp
def cL(f:Fact):List Int:=[f.ID,f.Wafer,f.Other,f.Lot,f.Product,f.Tool,f.Chamber,f.Step,f.Recipe,f.Revision,f.Time,f.Until,f.Value,f.Parties]
def F6(f:Fact)(j:Int):Int:=(cL f).getD j.toNat 0
theorem yT{f:Fact}{j:Nat}{y:Int}(h:(cL f)[j]?=some y):y=F6 f (j:Int):=by
 unfold F6
 rw[Int.toNat_natCast,d8,h];rfl
theorem sU{l:List Fact}{i:Nat}{x:Fact}{p:Fact→Bool}(h:∀y∈l.take i,p y=false)(hx:l[i]?=some x)(hp:p x=false):∀y∈l.take (i+1),p y=false:=fun y hy=>by
 rw[C8 hx,be,aa]at hy
 exact hy.elim (h y) (fun e=>by rw[e];exact hp)
theorem yU{l:List Fact}{i:Nat}{p:Fact→Bool}(h:∀y∈l.take i,p y=false)(hi:l.length≤i):∀y∈l,p y=false:=by rw[di hi]at h;exact h
def CD:Option Nat→Int
 |none=> -1
 |some q=>(q:Int)
def TInv(r t:Int)(l:List Fact)(i:Nat):Option Nat→Prop
 |none=>Lc r t (l.take i)=(Dc,false)
 |some q=>∃x,l[q]?=some x∧Lc r t (l.take i)=(x,true)
theorem TInv.skip{r t:Int}{l:List Fact}{i:Nat}{x:Fact}{m:Option Nat}(h:TInv r t l i m)(hx:l[i]?=some x)(hn:∀s:Fact×Bool,s=Lc r t (l.take i)→(decide (x.Recipe=r)&&decide (x.Time≤t)&&(!s.2||decide (s.1.Time<x.Time)))=false):TInv r t l (i+1) m:=by
 have e:Lc r t (l.take (i+1))=Lc r t (l.take i):=by rw[Qv hx];exact rQ (hn _ rfl)
 cases m with
 |none=>exact e.trans h
 |some q=>obtain⟨y,h1,h2⟩:=h;exact⟨y,h1,e.trans h2⟩
theorem TInv.put{r t:Int}{l:List Fact}{i:Nat}{x:Fact}(hx:l[i]?=some x)(hn:∀s:Fact×Bool,s=Lc r t (l.take i)→(decide (x.Recipe=r)&&decide (x.Time≤t)&&(!s.2||decide (s.1.Time<x.Time)))=true):TInv r t l (i+1) (some i):=⟨x,hx,by rw[Qv hx];exact rP (hn _ rfl)⟩
def Ve(l:List Fact)(f:Fact)(p:Nat):Prop:=p≤l.length∧(∀y∈l.drop p,Gh (runK f) (runK y)=true)∧(p=0∨∃y,l[p-1]?=some y∧Gh (runK f) (runK y)=false)
theorem sV{l:List Fact}{f:Fact}{p:Nat}(h:Ve l f p)(hs:I0 runK l):Cs l f p=Y4 runK f l:=by
 obtain⟨q,e,hq,h1,h2⟩:=Qk (key:=runK) f l hs
 rw[e]
 obtain⟨hp,g1,g2⟩:=h
 have key:∀{p q:Nat},q≤l.length→(∀y∈l.drop p,Gh (runK f) (runK y)=true)→(q=0∨∃y,l[q-1]?=some y∧Gh (runK f) (runK y)=false)→q≤p:=fun{p q}hq g1 g2=>by
   rcases g2 with rfl|⟨y,hy,hl⟩
   · omega
   rcases dq p q with h|h
   · have:=g1 y (fj.2 ⟨q-1-p,by rw[eh,show p+(q-1-p)=q-1 by omega];exact hy⟩)
     rw[hl]at this;cases this
   exact h
 rw[Nat.le_antisymm (key hp h1 g2) (key hq g1 h2)]
def D6(l:List Fact)(t c:Int)(i:Nat):List Fact:=Hl runK ((l.take i).filter (I3 t c))
theorem sW(l:List Fact)(t c:Int)(i:Nat):I0 runK (D6 l t c i):=(El _).ord
theorem sX(l:List Fact)(t c:Int)(i:Nat):(D6 l t c i).length≤i:=by
 unfold D6
 rw[(El (key:=runK) ((l.take i).filter (I3 t c))).same.length]
 exact H5 _ _ _
theorem yV{l:List Fact}{t c:Int}{i:Nat}{x:Fact}(hx:l[i]?=some x)(h:I3 t c x=false):D6 l t c (i+1)=D6 l t c i:=by unfold D6;rw[U3 hx h]
theorem Vf{l:List Fact}{t c:Int}{i p:Nat}{x:Fact}(hx:l[i]?=some x)(h:I3 t c x=true)(hp:Ve (D6 l t c i) x p):D6 l t c (i+1)=Cs (D6 l t c i) x p:=by
 rw[sV hp (sW l t c i)]
 unfold D6
 rw[M5 hx h]
 unfold Hl
 rw[ew];rfl
theorem Tm(f y:Fact):Gh (runK f) (runK y)=(decide (f.Time<y.Time)||(decide (f.Time=y.Time)&&decide (f.ID<y.ID))):=rfl
end Go.Wx
namespace Go.Proofs.YtbcnnkfopoiifaaGreatDoor
open Go.Proofs.Tryz
open Go.Wx Go.RowKit
theorem Ci(c n:Int)(w:World)(hn:n≠0):Ret prog 24 #[vi c,vi n] w fun r w'=>r=vi (A6 c n)∧Up w w':=by
 have hW:=Up.refl w
 refine cT 13 func24 rfl (Af (J (Ar (Af (Ac rfl (I (.lss (.t rfl) (.const _)) (Ai (CW.b rfl (fun h6=>?_) (fun h6=>?_)))))))))
 ·replace h6:=dQ h6
  refine Aa (Ac rfl (I (.Gk (.t rfl) (.const _)) (I (.neg lh (.t rfl)) (LW.A rfl (Ar (Aa (Ac rfl (Ac rfl (I (.rem (.t rfl) (.t rfl) oQ) (LW.A rfl (Ai (Aj (KW.q ?_)))))))))))))
  exact⟨by(rw[A6,ak h6]),hW⟩
 replace h6:=dQ h6
 refine Ak (Ab (Af (Ac rfl (Ac rfl (I (.rem (.t rfl) (.t rfl) oQ) (LW.A rfl (Ai (Aj (KW.q ?_)))))))))
 exact⟨by(rw[A6,ae (by omega)]),hW⟩
set_option maxHeartbeats 4000000 in
theorem sY(ad:Option Addr)(cp:Nat)(xs:List I6)(w:World)(hE0:Els w ad 6 I6.cells xs):Ret prog 7 #[.slice ad xs.length cp] w fun r w'=>OwnS w' w.heap.size 51 19 Fact.cells r (Vc xs)∧Up w w':=by
 obtain⟨w0,rfl,hS⟩:=W0 w
 refine cT 140 func7 rfl (Af (J (Ar (Aa (J (Ar (Al ?_)))))))
 replace hS:=hS.add (Up.refl _) (A':=A8 51 19 Fact.cells (.slice none 0 0) ([]:List Fact)) (OwnS.nil _ _ _ _ _) (fun i h=>by cases h)
 refine Aa (J (Ai (Ap (A9 (σ:=Nat×Go.Value) (fun s w=>(s.1≤xs.length∧s.1≤30)∧(Wx.Sep no w0 w [A8 51 19 Fact.cells s.2 (Vc (xs.take s.1))])) (fun s=>[(4,.eq (vi (s.1:Int))),(3,.eq (s.2))]) ([(0,.eq _),(2,.eq _)]) (fun s=>xs.length-s.1) (0,.slice none 0 0) ?_ tQ ?_))))
 ·exact⟨⟨ao _,ao _⟩,hS⟩
 rintro⟨k,v⟩ w1 ⟨hk,hS⟩
 dsimp only at hk hS
 change CW _ _ _ _ _ _ _ ([(4,.eq (vi (k:Int))),(3,.eq (v))]++_) _
 refine Al (Af (Ac rfl (Ac rfl (I (.Df underlying22 (.t rfl)) (I (.l2 rfl rfl) (Ac rfl (Dk rfl rfl (LW.gr rfl (fun hc=>PEv.lss vQ (.const _)) (I (.pa rfl (fun hp=>(by exact .cond rfl (by(rw[hp];rfl))))) (Ai (CW.b rfl (fun h14=>?_) (fun h14=>?_))))))))))))
 ·replace h14:=dQ h14
  refine Ak (Ab (Al (Ap (Al ?_))))
  have hE:=hE0.up hS.Cj
  have hkl:k<xs.length∧k<30:=by simp at h14;omega
  refine Aa (Ac rfl (Ac rfl ?_))
  obtain⟨y,hy⟩:=Av (xs:=xs) (i:=k) oQ
  obtain⟨By,oy,ay,hcy⟩:=hE _ y hy
  refine I (.Ay underlying22 sizeOf63 (.t rfl) (.t rfl) oQ ay) (I (.lc rfl (hcy)) (Ao (.Bi zeroValue63) rfl ?_))
  rintro _ w2 ⟨B5,rfl,MB5⟩
  refine Bh (.A5 sizeOf63 rfl (.t rfl) (.t rfl) (I6.one _) MB5.blk rfl) ?_
  intro w3 LB5
  have NB5:=MB5.set LB5
  clear LB5 MB5
  replace hcy:=hcy.up NB5.up
  replace hS:=hS.Bn NB5
  refine Ar (Eo 18 [.eq (.pointer (some ⟨B5,0,none⟩)),.eq (vi (y.a)),.eq (vi (wI (y.a.tdiv 5))),.eq (vi (A6 (wI (y.a.tdiv 5)) 3)),.eq (vi (wI (1+A6 (wI (y.a.tdiv 5)) 3))),.eq (.pointer (some ⟨B5,1,none⟩)),.eq (vi (y.b)),.eq (vi (A6 y.b 10)),.eq (.pointer (some ⟨B5,1,none⟩)),.eq (vi (y.b)),.eq (vi (wI (y.b.tdiv 10))),.eq (vi (A6 (wI (y.b.tdiv 10)) 6)),.eq (.bool (decide (A6 (wI (y.b.tdiv 10)) 6=0))),.eq (.pointer (some ⟨B5,2,none⟩)),.eq (vi (y.c)),.eq (vi (A6 y.c 60)),.eq (.agg (I4 y).cells),.pred fun v W=>∃B,v=.pointer (some ⟨B,0,none⟩)∧w3.drew.heap.size≤B∧Blk W B Dc.cells 51] [6,37] kQ rfl kQ kQ kQ kQ kQ kQ kQ ⟨nm,nm,nm,nm,nm,nm,nm,nm,nm,nm,nm,nm,nm,nm,nm,nm,nm,PhU.pred fun _ _ _ h u=>let⟨B,e,hz,hb⟩:=h;⟨B,e,hz,hb.up u⟩,trivial⟩ ?_ ?_)
  ·intro W hU0
   have hU:=(Up.drew w3).trans hU0
   have zU0:=hU0.size
   refine aC ⟨rfl,TU.p (.Bu (j:=0) ll lf (.t rfl) (.const _) cQ) rfl⟩ (aC ⟨rfl,TU.p (.lb rfl ((hS.b1.up hU).An rfl)) rfl⟩ (aC ⟨rfl,TU.p (.quo (.t rfl) (.const _) cQ) rfl⟩ (aC ⟨rfl,TU.c (eC (.ct rfl (.cons (.const _) .nil)) (Gn)) (Ci _ _ _ cQ) sQ⟩ (aC ⟨rfl,TU.p (.Gk (.const _) (.t rfl)) rfl⟩ (aC ⟨rfl,TU.p (.Bu (j:=1) ll lf (.t rfl) (.const _) cQ) rfl⟩ (aC ⟨rfl,TU.p (.lb rfl ((hS.b1.up hU).An rfl)) rfl⟩ (aC ⟨rfl,TU.c (eC (.ct rfl (.cons (.const _) .nil)) (Gn)) (Ci _ _ _ cQ) sQ⟩ (aC ⟨rfl,TU.p (.Bu (j:=1) ll lf (.t rfl) (.const _) cQ) rfl⟩ (aC ⟨rfl,TU.p (.lb rfl ((hS.b1.up hU).An rfl)) rfl⟩ (aC ⟨rfl,TU.p (.quo (.t rfl) (.const _) cQ) rfl⟩ (aC ⟨rfl,TU.c (eC (.ct rfl (.cons (.const _) .nil)) (Gn)) (Ci _ _ _ cQ) sQ⟩ (aC ⟨rfl,TU.p (.eql (.t rfl) (.const _)) rfl⟩ (aC ⟨rfl,TU.p (.Bu (j:=2) ll lf (.t rfl) (.const _) cQ) rfl⟩ (aC ⟨rfl,TU.p (.lb rfl ((hS.b1.up hU).An rfl)) rfl⟩ (aC ⟨rfl,TU.c (eC (.ct rfl (.cons (.const _) .nil)) (Gn)) (Ci _ _ _ cQ) sQ⟩ (aC ⟨rfl,TU.p (.build (cs:=(I4 y).cells) me k_ Fg (.ct rfl (.ct rfl (.ct rfl (.cu rfl)))) rfl) rfl⟩ (aC ⟨rfl,TU.r (REv.Bi k_) (fun v W' h=>let⟨B,e,N⟩:=h;⟨N.up,B,e,by rw[N.at_];exact zU0,N.blk⟩)⟩ ?_)))))))))))))))))
   exact allL.nil
  intro w4 g hU0 hg
  have hU:=(Up.drew w3).trans hU0
  obtain⟨B6,e6,z6,hB6⟩:∃B,g 6=.pointer (some ⟨B,0,none⟩)∧w3.drew.heap.size≤B∧Blk w4 B Dc.cells 51:=hg 17 _ 6 cQ rfl rfl
  have e37:g 37=.agg (I4 y).cells:=hg 16 _ 37 cQ rfl rfl
  change LW _ _ _ _ _ _ _ _ ((6,.eq (g 6))::(37,.eq (g 37))::_) _
  rw[e6,e37]
  clear hg e6 e37
  replace hS:=(hS.up (Up.drew _)).add hU0 (A':=Ch B6 Dc.cells 51) hB6 (fun i(e:i=B6)=>by omega)
  refine Bh (.A5 k7 rfl (.t rfl) (.t rfl) (Fact.one _) hS.b2 rfl) ?_
  intro w5 Nw5
  replace hS:=hS.Co 2 rfl (show Set_ _ w5 _ ((I4 y).cells) _ from Nw5)
  refine Ar (Af (I (.Bu (j:=0) ll lf (.t rfl) (.const _) cQ) (I (.lb rfl (hS.b1.An rfl)) (A3 (eC (.ct rfl (.cons (.const _) .nil)) (Gn)) rfl (Ci _ _ _ cQ) ?_))))
  rintro _ w6 ⟨rfl,uw6⟩
  replace hS:=hS.up uw6
  refine Ai (Ap (Al (Af (I (.eql (.t rfl) (.const _)) (LW.A rfl (Ai (CW.b rfl (fun h62=>?_) (fun h62=>?_))))))))
  ·replace h62:=dQ h62
   refine Ak (Ab (CW.b rfl (fun h62=>?_) (fun h62=>?_)))
   ·replace h62:=dQ h62
    refine Af (I (.fB 0 rfl) (Bh (.store lf (.t rfl) (.const _) rfl hS.b2 bQ) ?_))
    intro w7 Nw7
    replace hS:=hS.Co 2 rfl (show Set_ _ w7 _ (({ I4 y with Kind:=1 }:Fact).cells) _ from Nw7)
    refine Ar (Aa (I (.Bu (j:=3) ll lf (.t rfl) (.const _) cQ) (I (.lb rfl (hS.b1.An rfl)) (A3 (eC (.ct rfl (.cons (.const _) .nil)) (Gn)) rfl (Ci _ _ _ cQ) ?_))))
    rintro _ w8 ⟨rfl,uw8⟩
    replace hS:=hS.up uw8
    refine I (.Gk (.const _) (.t rfl)) (I (.fB 1 rfl) (Bh (.store lf (.t rfl) (.t rfl) rfl hS.b2 bQ) ?_))
    intro w9 Nw9
    replace hS:=hS.Co 2 rfl (show Set_ _ w9 _ (({ I4 y with Kind:=1,ID:=wI (1+A6 y.d 9) }:Fact).cells) _ from Nw9)
    refine Ar (Aa (I (.Bu (j:=4) ll lf (.t rfl) (.const _) cQ) (I (.lb rfl (hS.b1.An rfl)) (A3 (eC (.ct rfl (.cons (.const _) .nil)) (Gn)) rfl (Ci _ _ _ cQ) ?_))))
    rintro _ w10 ⟨rfl,uw10⟩
    replace hS:=hS.up uw10
    refine I (.Gk (.const _) (.t rfl)) (I (.fB 7 rfl) (Bh (.store lf (.t rfl) (.t rfl) rfl hS.b2 bQ) ?_))
    intro w11 Nw11
    replace hS:=hS.Co 2 rfl (show Set_ _ w11 _ (({ I4 y with Kind:=1,ID:=wI (1+A6 y.d 9),Wafer:=wI (1+A6 y.e 4) }:Fact).cells) _ from Nw11)
    refine Ar (Aa (I (.Bu (j:=4) ll lf (.t rfl) (.const _) cQ) (I (.lb rfl (hS.b1.An rfl)) (I (.quo (.t rfl) (.const _) cQ) (A3 (eC (.ct rfl (.cons (.const _) .nil)) (Gn)) rfl (Ci _ _ _ cQ) ?_)))))
    rintro _ w12 ⟨rfl,uw12⟩
    replace hS:=hS.up uw12
    refine I (.quo (.t rfl) (.const _) cQ) (I (.fB 11 rfl) (Bh (.store lf (.t rfl) (.t rfl) rfl hS.b2 bQ) ?_))
    intro w13 Nw13
    replace hS:=hS.Co 2 rfl (show Set_ _ w13 _ (({ I4 y with Kind:=1,ID:=wI (1+A6 y.d 9),Wafer:=wI (1+A6 y.e 4),Tool:=wI ((A6 (wI (y.e.tdiv 4)) 8).tdiv 7) }:Fact).cells) _ from Nw13)
    refine Ar (Aa (I (.Bu (j:=4) ll lf (.t rfl) (.const _) cQ) (I (.lb rfl (hS.b1.An rfl)) (I (.quo (.t rfl) (.const _) cQ) (A3 (eC (.ct rfl (.cons (.const _) .nil)) (Gn)) rfl (Ci _ _ _ cQ) ?_)))))
    rintro _ w14 ⟨rfl,uw14⟩
    replace hS:=hS.up uw14
    refine I (.quo (.t rfl) (.const _) cQ) (I (.fB 12 rfl) (Bh (.store lf (.t rfl) (.t rfl) rfl hS.b2 bQ) ?_))
    intro w15 Nw15
    replace hS:=hS.Co 2 rfl (show Set_ _ w15 _ (({ I4 y with Kind:=1,ID:=wI (1+A6 y.d 9),Wafer:=wI (1+A6 y.e 4),Tool:=wI ((A6 (wI (y.e.tdiv 4)) 8).tdiv 7),Chamber:=wI ((A6 (wI (y.e.tdiv 32)) 6).tdiv 5) }:Fact).cells) _ from Nw15)
    refine Ar (Aa (I (.Bu (j:=5) ll lf (.t rfl) (.const _) cQ) (I (.lb rfl (hS.b1.An rfl)) (A3 (eC (.ct rfl (.cons (.const _) .nil)) (Gn)) rfl (Ci _ _ _ cQ) ?_))))
    rintro _ w16 ⟨rfl,uw16⟩
    replace hS:=hS.up uw16
    refine I (.quo (.t rfl) (.const _) cQ) (I (.Gk (.const _) (.t rfl)) (I (.fB 14 rfl) (Bh (.store lf (.t rfl) (.t rfl) rfl hS.b2 bQ) ?_)))
    intro w17 Nw17
    replace hS:=hS.Co 2 rfl (show Set_ _ w17 _ (({ I4 y with Kind:=1,ID:=wI (1+A6 y.d 9),Wafer:=wI (1+A6 y.e 4),Tool:=wI ((A6 (wI (y.e.tdiv 4)) 8).tdiv 7),Chamber:=wI ((A6 (wI (y.e.tdiv 32)) 6).tdiv 5),Recipe:=wI (1+wI ((A6 y.f 8).tdiv 7)) }:Fact).cells) _ from Nw17)
    refine Ar (Aa (I (.fB 15 rfl) (Bh (.store lf (.t rfl) (.const _) rfl hS.b2 bQ) ?_)))
    intro w18 Nw18
    replace hS:=hS.Co 2 rfl (show Set_ _ w18 _ (({ I4 y with Kind:=1,ID:=wI (1+A6 y.d 9),Wafer:=wI (1+A6 y.e 4),Tool:=wI ((A6 (wI (y.e.tdiv 4)) 8).tdiv 7),Chamber:=wI ((A6 (wI (y.e.tdiv 32)) 6).tdiv 5),Recipe:=wI (1+wI ((A6 y.f 8).tdiv 7)),Revision:=1 }:Fact).cells) _ from Nw18)
    refine Ar (Fy 8 kQ kQ kQ kQ kQ rfl rfl (Am (.fB 5 rfl) (Am (.lb rfl (hS.b2.An rfl)) (Am (.Bu (j:=5) ll lf (.t rfl) (.const _) cQ) (Am (.lb rfl (hS.b1.An rfl)) (Am (.quo (.t rfl) (.const _) cQ) (HW.c (fun a w _ ha=>Bq (.ct rfl (.cons (.const _) .nil)) (Gn) a ha) rfl rfl (fun w hu=>Ci _ _ w cQ) (Am (.Gk (.t rfl) (.t rfl)) (Am (.fB 6 rfl) (HW.nil ?_))))))))))
    intro w19 uw19
    replace hS:=hS.up uw19
    refine Bh (.store lf (.t rfl) (.t rfl) rfl hS.b2 bQ) ?_
    intro w20 Nw20
    replace hS:=hS.Co 2 rfl (show Set_ _ w20 _ (({ I4 y with Kind:=1,ID:=wI (1+A6 y.d 9),Wafer:=wI (1+A6 y.e 4),Tool:=wI ((A6 (wI (y.e.tdiv 4)) 8).tdiv 7),Chamber:=wI ((A6 (wI (y.e.tdiv 32)) 6).tdiv 5),Recipe:=wI (1+wI ((A6 y.f 8).tdiv 7)),Revision:=1,Until:=wI ((I4 y).Time+A6 (wI (y.f.tdiv 8)) 9) }:Fact).cells) _ from Nw20)
    refine Ai (Aa (I (.Bu (j:=5) ll lf (.t rfl) (.const _) cQ) (I (.lb rfl (hS.b1.An rfl)) (I (.quo (.t rfl) (.const _) cQ) (A3 (eC (.ct rfl (.cons (.const _) .nil)) (Gn)) rfl (Ci _ _ _ cQ) ?_)))))
    rintro _ w21 ⟨rfl,uw21⟩
    replace hS:=hS.up uw21
    refine I (.F4 (.const _) (.t rfl)) (I (.fB 16 rfl) (Bh (.store lf (.t rfl) (.t rfl) rfl hS.b2 bQ) ?_))
    intro w22 Nw22
    replace hS:=hS.Co 2 rfl (show Set_ _ w22 _ (({ I4 y with Kind:=1,ID:=wI (1+A6 y.d 9),Wafer:=wI (1+A6 y.e 4),Tool:=wI ((A6 (wI (y.e.tdiv 4)) 8).tdiv 7),Chamber:=wI ((A6 (wI (y.e.tdiv 32)) 6).tdiv 5),Recipe:=wI (1+wI ((A6 y.f 8).tdiv 7)),Revision:=1,Until:=wI ((I4 y).Time+A6 (wI (y.f.tdiv 8)) 9),Value:=wI (1000*A6 (wI (y.f.tdiv 72)) 40) }:Fact).cells) _ from Nw22)
    refine LW.nil (Ae (Ab ?_))
    (have hso:=BX (y:=y) (by omega);change Wx.Sep no w0 _ [_,_,Ch B6 (FJ y).cells _]at hS;generalize FJ y=ff at hS hso)
    have hsl:=Jn (xs.take k)
    refine Aa (Ac rfl (I (.lc rfl (hS.b2.agg)) (Ao (.buildSlice (xs:=[ff]) (enc:=Fact.cells) (mk:=fun f:Fact=>.agg f.cells) k6 k7 k_ rfl cQ (fun _=>rfl) (fun _=>rfl) (.cu rfl) rfl) rfl ?_)))
    rintro _ w23 ⟨B137,cB137,rfl,NB137,yB137,xB137⟩
    replace hS:=hS.up NB137.up
    have hE137:=xB137
    refine Ao (.Cu (enc:=Fact.cells) (bytes:=160) (i:=Tryz.t51) k6 kQ rfl rfl rfl rfl cQ (fun _=>rfl) Fact.one (.t rfl) (.t rfl) (hS.own 0 rfl) (Az hE137) (by have:=hsl;simp[maxLen];omega) (by have:=hsl;simp;omega)) rfl ?_
    intro v138 w24 Gw24
    replace hS:=hS.E5 0 rfl Gw24
    refine LW.A rfl (LW.nil (Ae (Ab (Aa (Ac rfl (I (.ic rfl oQ) (LW.A rfl (LW.nil (Aq ?_)))))))))
    exact⟨(k+1,v138),⟨⟨by show k+1≤_;omega,by show k+1≤_;omega⟩,by(rw[Kt hy hkl.2 hso];exact hS.take 1)⟩,tQ,by show xs.length-(k+1)<xs.length-k;omega⟩
   replace h62:=dQ h62
   refine Af (I (.eql (.t rfl) (.const _)) (LW.A rfl (Ai (CW.b rfl (fun h109=>?_) (fun h109=>?_)))))
   ·replace h109:=dQ h109
    refine Af (I (.fB 0 rfl) (Bh (.store lf (.t rfl) (.const _) rfl hS.b2 bQ) ?_))
    intro w25 Nw25
    replace hS:=hS.Co 2 rfl (show Set_ _ w25 _ (({ I4 y with Kind:=2 }:Fact).cells) _ from Nw25)
    refine Ar (Aa (I (.Bu (j:=3) ll lf (.t rfl) (.const _) cQ) (I (.lb rfl (hS.b1.An rfl)) (A3 (eC (.ct rfl (.cons (.const _) .nil)) (Gn)) rfl (Ci _ _ _ cQ) ?_))))
    rintro _ w26 ⟨rfl,uw26⟩
    replace hS:=hS.up uw26
    refine I (.Gk (.const _) (.t rfl)) (I (.fB 1 rfl) (Bh (.store lf (.t rfl) (.t rfl) rfl hS.b2 bQ) ?_))
    intro w27 Nw27
    replace hS:=hS.Co 2 rfl (show Set_ _ w27 _ (({ I4 y with Kind:=2,ID:=wI (1+A6 y.d 9) }:Fact).cells) _ from Nw27)
    refine Ai (Aa (I (.Bu (j:=5) ll lf (.t rfl) (.const _) cQ) (I (.lb rfl (hS.b1.An rfl)) (A3 (eC (.ct rfl (.cons (.const _) .nil)) (Gn)) rfl (Ci _ _ _ cQ) ?_))))
    rintro _ w28 ⟨rfl,uw28⟩
    replace hS:=hS.up uw28
    refine I (.Si (.t rfl) (.const _)) (I (.fB 16 rfl) (Bh (.store lf (.t rfl) (.t rfl) rfl hS.b2 bQ) ?_))
    intro w29 Nw29
    replace hS:=hS.Co 2 rfl (show Set_ _ w29 _ (({ I4 y with Kind:=2,ID:=wI (1+A6 y.d 9),Value:=wI (A6 y.f 60-10) }:Fact).cells) _ from Nw29)
    refine LW.nil (Ae (Ab ?_))
    (have hso:=BY (y:=y) (by omega);change Wx.Sep no w0 _ [_,_,Ch B6 (FK y).cells _]at hS;generalize FK y=ff at hS hso)
    have hsl:=Jn (xs.take k)
    refine Aa (Ac rfl (I (.lc rfl (hS.b2.agg)) (Ao (.buildSlice (xs:=[ff]) (enc:=Fact.cells) (mk:=fun f:Fact=>.agg f.cells) k6 k7 k_ rfl cQ (fun _=>rfl) (fun _=>rfl) (.cu rfl) rfl) rfl ?_)))
    rintro _ w30 ⟨B137,cB137,rfl,NB137,yB137,xB137⟩
    replace hS:=hS.up NB137.up
    have hE137:=xB137
    refine Ao (.Cu (enc:=Fact.cells) (bytes:=160) (i:=Tryz.t51) k6 kQ rfl rfl rfl rfl cQ (fun _=>rfl) Fact.one (.t rfl) (.t rfl) (hS.own 0 rfl) (Az hE137) (by have:=hsl;simp[maxLen];omega) (by have:=hsl;simp;omega)) rfl ?_
    intro v138 w31 Gw31
    replace hS:=hS.E5 0 rfl Gw31
    refine LW.A rfl (LW.nil (Ae (Ab (Aa (Ac rfl (I (.ic rfl oQ) (LW.A rfl (LW.nil (Aq ?_)))))))))
    exact⟨(k+1,v138),⟨⟨by show k+1≤_;omega,by show k+1≤_;omega⟩,by(rw[Kt hy hkl.2 hso];exact hS.take 1)⟩,tQ,by show xs.length-(k+1)<xs.length-k;omega⟩
   replace h109:=dQ h109
   refine Af (I (.eql (.t rfl) (.const _)) (LW.A rfl (Ai (CW.b rfl (fun h122=>?_) (fun h122=>?_)))))
   ·replace h122:=dQ h122
    refine Af (I (.fB 0 rfl) (Bh (.store lf (.t rfl) (.const _) rfl hS.b2 bQ) ?_))
    intro w32 Nw32
    replace hS:=hS.Co 2 rfl (show Set_ _ w32 _ (({ I4 y with Kind:=10 }:Fact).cells) _ from Nw32)
    refine Ar (Aa (I (.Bu (j:=3) ll lf (.t rfl) (.const _) cQ) (I (.lb rfl (hS.b1.An rfl)) (A3 (eC (.ct rfl (.cons (.const _) .nil)) (Gn)) rfl (Ci _ _ _ cQ) ?_))))
    rintro _ w33 ⟨rfl,uw33⟩
    replace hS:=hS.up uw33
    refine I (.quo (.t rfl) (.const _) cQ) (I (.Gk (.const _) (.t rfl)) (I (.fB 14 rfl) (Bh (.store lf (.t rfl) (.t rfl) rfl hS.b2 bQ) ?_)))
    intro w34 Nw34
    replace hS:=hS.Co 2 rfl (show Set_ _ w34 _ (({ I4 y with Kind:=10,Recipe:=wI (1+wI ((A6 y.d 8).tdiv 7)) }:Fact).cells) _ from Nw34)
    refine Ai (Aa (I (.Bu (j:=5) ll lf (.t rfl) (.const _) cQ) (I (.lb rfl (hS.b1.An rfl)) (A3 (eC (.ct rfl (.cons (.const _) .nil)) (Gn)) rfl (Ci _ _ _ cQ) ?_))))
    rintro _ w35 ⟨rfl,uw35⟩
    replace hS:=hS.up uw35
    refine I (.fB 16 rfl) (Bh (.store lf (.t rfl) (.t rfl) rfl hS.b2 bQ) ?_)
    intro w36 Nw36
    replace hS:=hS.Co 2 rfl (show Set_ _ w36 _ (({ I4 y with Kind:=10,Recipe:=wI (1+wI ((A6 y.d 8).tdiv 7)),Value:=A6 y.f 40 }:Fact).cells) _ from Nw36)
    refine LW.nil (Ae (Ab ?_))
    (have hso:=BZ (y:=y) (by omega);change Wx.Sep no w0 _ [_,_,Ch B6 (FL y).cells _]at hS;generalize FL y=ff at hS hso)
    have hsl:=Jn (xs.take k)
    refine Aa (Ac rfl (I (.lc rfl (hS.b2.agg)) (Ao (.buildSlice (xs:=[ff]) (enc:=Fact.cells) (mk:=fun f:Fact=>.agg f.cells) k6 k7 k_ rfl cQ (fun _=>rfl) (fun _=>rfl) (.cu rfl) rfl) rfl ?_)))
    rintro _ w37 ⟨B137,cB137,rfl,NB137,yB137,xB137⟩
    replace hS:=hS.up NB137.up
    have hE137:=xB137
    refine Ao (.Cu (enc:=Fact.cells) (bytes:=160) (i:=Tryz.t51) k6 kQ rfl rfl rfl rfl cQ (fun _=>rfl) Fact.one (.t rfl) (.t rfl) (hS.own 0 rfl) (Az hE137) (by have:=hsl;simp[maxLen];omega) (by have:=hsl;simp;omega)) rfl ?_
    intro v138 w38 Gw38
    replace hS:=hS.E5 0 rfl Gw38
    refine LW.A rfl (LW.nil (Ae (Ab (Aa (Ac rfl (I (.ic rfl oQ) (LW.A rfl (LW.nil (Aq ?_)))))))))
    exact⟨(k+1,v138),⟨⟨by show k+1≤_;omega,by show k+1≤_;omega⟩,by(rw[Kt hy hkl.2 hso];exact hS.take 1)⟩,tQ,by show xs.length-(k+1)<xs.length-k;omega⟩
   replace h122:=dQ h122
   refine Al (Af (I (.Bu (j:=5) ll lf (.t rfl) (.const _) cQ) (I (.lb rfl (hS.b1.An rfl)) (A3 (eC (.ct rfl (.cons (.const _) .nil)) (Gn)) rfl (Ci _ _ _ cQ) ?_))))
   rintro _ w39 ⟨rfl,uw39⟩
   replace hS:=hS.up uw39
   refine I (.gtr (.t rfl) (.const _)) (Ai (CW.b rfl (fun h44=>?_) (fun h44=>?_)))
   ·replace h44:=dQ h44
    have hso:=CA (y:=y) oQ oQ oQ oQ h44
    refine A7 (Ad (Ou cQ (Ad (Au (Ab (Aa (Ac rfl (I (.ic rfl oQ) (LW.A rfl (LW.nil (Aq ?_)))))))))))
    exact⟨(k+1,v),⟨⟨by show k+1≤_;omega,by show k+1≤_;omega⟩,by(rw[sO hy hkl.2 hso];exact hS.take 1)⟩,tQ,by show xs.length-(k+1)<xs.length-k;omega⟩
   replace h44:=dQ h44
   refine Ak (Ab (Af (I (.fB 0 rfl) (Bh (.store lf (.t rfl) (.const _) rfl hS.b2 bQ) ?_))))
   intro w40 Nw40
   replace hS:=hS.Co 2 rfl (show Set_ _ w40 _ (({ I4 y with Kind:=9 }:Fact).cells) _ from Nw40)
   refine Ar (Aa (I (.Bu (j:=3) ll lf (.t rfl) (.const _) cQ) (I (.lb rfl (hS.b1.An rfl)) (A3 (eC (.ct rfl (.cons (.const _) .nil)) (Gn)) rfl (Ci _ _ _ cQ) ?_))))
   rintro _ w41 ⟨rfl,uw41⟩
   replace hS:=hS.up uw41
   refine I (.Gk (.const _) (.t rfl)) (I (.fB 1 rfl) (Bh (.store lf (.t rfl) (.t rfl) rfl hS.b2 bQ) ?_))
   intro w42 Nw42
   replace hS:=hS.Co 2 rfl (show Set_ _ w42 _ (({ I4 y with Kind:=9,ID:=wI (1+A6 y.d 9) }:Fact).cells) _ from Nw42)
   refine Ar (Aa (I (.Bu (j:=4) ll lf (.t rfl) (.const _) cQ) (I (.lb rfl (hS.b1.An rfl)) (A3 (eC (.ct rfl (.cons (.const _) .nil)) (Gn)) rfl (Ci _ _ _ cQ) ?_))))
   rintro _ w43 ⟨rfl,uw43⟩
   replace hS:=hS.up uw43
   refine I (.quo (.t rfl) (.const _) cQ) (I (.fB 11 rfl) (Bh (.store lf (.t rfl) (.t rfl) rfl hS.b2 bQ) ?_))
   intro w44 Nw44
   replace hS:=hS.Co 2 rfl (show Set_ _ w44 _ (({ I4 y with Kind:=9,ID:=wI (1+A6 y.d 9),Tool:=wI ((A6 y.e 8).tdiv 7) }:Fact).cells) _ from Nw44)
   refine Ai (Aa (I (.Bu (j:=4) ll lf (.t rfl) (.const _) cQ) (I (.lb rfl (hS.b1.An rfl)) (I (.quo (.t rfl) (.const _) cQ) (A3 (eC (.ct rfl (.cons (.const _) .nil)) (Gn)) rfl (Ci _ _ _ cQ) ?_)))))
   rintro _ w45 ⟨rfl,uw45⟩
   replace hS:=hS.up uw45
   refine I (.quo (.t rfl) (.const _) cQ) (I (.fB 12 rfl) (Bh (.store lf (.t rfl) (.t rfl) rfl hS.b2 bQ) ?_))
   intro w46 Nw46
   replace hS:=hS.Co 2 rfl (show Set_ _ w46 _ (({ I4 y with Kind:=9,ID:=wI (1+A6 y.d 9),Tool:=wI ((A6 y.e 8).tdiv 7),Chamber:=wI ((A6 (wI (y.e.tdiv 8)) 6).tdiv 5) }:Fact).cells) _ from Nw46)
   refine LW.nil (Ae (Ab ?_))
   (have hso:=CB (y:=y) oQ oQ oQ oQ (by omega);change Wx.Sep no w0 _ [_,_,Ch B6 (FM y).cells _]at hS;generalize FM y=ff at hS hso)
   have hsl:=Jn (xs.take k)
   refine Aa (Ac rfl (I (.lc rfl (hS.b2.agg)) (Ao (.buildSlice (xs:=[ff]) (enc:=Fact.cells) (mk:=fun f:Fact=>.agg f.cells) k6 k7 k_ rfl cQ (fun _=>rfl) (fun _=>rfl) (.cu rfl) rfl) rfl ?_)))
   rintro _ w47 ⟨B137,cB137,rfl,NB137,yB137,xB137⟩
   replace hS:=hS.up NB137.up
   have hE137:=xB137
   refine Ao (.Cu (enc:=Fact.cells) (bytes:=160) (i:=Tryz.t51) k6 kQ rfl rfl rfl rfl cQ (fun _=>rfl) Fact.one (.t rfl) (.t rfl) (hS.own 0 rfl) (Az hE137) (by have:=hsl;simp[maxLen];omega) (by have:=hsl;simp;omega)) rfl ?_
   intro v138 w48 Gw48
   replace hS:=hS.E5 0 rfl Gw48
   refine LW.A rfl (LW.nil (Ae (Ab (Aa (Ac rfl (I (.ic rfl oQ) (LW.A rfl (LW.nil (Aq ?_)))))))))
   exact⟨(k+1,v138),⟨⟨by show k+1≤_;omega,by show k+1≤_;omega⟩,by(rw[Kt hy hkl.2 hso];exact hS.take 1)⟩,tQ,by show xs.length-(k+1)<xs.length-k;omega⟩
  replace h62:=dQ h62
  refine Aa (I (.eql (.t rfl) (.const _)) (LW.A rfl (Ai (CW.b rfl (fun h62=>?_) (fun h62=>?_)))))
  ·replace h62:=dQ h62
   refine Af (I (.fB 0 rfl) (Bh (.store lf (.t rfl) (.const _) rfl hS.b2 bQ) ?_))
   intro w49 Nw49
   replace hS:=hS.Co 2 rfl (show Set_ _ w49 _ (({ I4 y with Kind:=1 }:Fact).cells) _ from Nw49)
   refine Ar (Aa (I (.Bu (j:=3) ll lf (.t rfl) (.const _) cQ) (I (.lb rfl (hS.b1.An rfl)) (A3 (eC (.ct rfl (.cons (.const _) .nil)) (Gn)) rfl (Ci _ _ _ cQ) ?_))))
   rintro _ w50 ⟨rfl,uw50⟩
   replace hS:=hS.up uw50
   refine I (.Gk (.const _) (.t rfl)) (I (.fB 1 rfl) (Bh (.store lf (.t rfl) (.t rfl) rfl hS.b2 bQ) ?_))
   intro w51 Nw51
   replace hS:=hS.Co 2 rfl (show Set_ _ w51 _ (({ I4 y with Kind:=1,ID:=wI (1+A6 y.d 9) }:Fact).cells) _ from Nw51)
   refine Ar (Aa (I (.Bu (j:=4) ll lf (.t rfl) (.const _) cQ) (I (.lb rfl (hS.b1.An rfl)) (A3 (eC (.ct rfl (.cons (.const _) .nil)) (Gn)) rfl (Ci _ _ _ cQ) ?_))))
   rintro _ w52 ⟨rfl,uw52⟩
   replace hS:=hS.up uw52
   refine I (.Gk (.const _) (.t rfl)) (I (.fB 7 rfl) (Bh (.store lf (.t rfl) (.t rfl) rfl hS.b2 bQ) ?_))
   intro w53 Nw53
   replace hS:=hS.Co 2 rfl (show Set_ _ w53 _ (({ I4 y with Kind:=1,ID:=wI (1+A6 y.d 9),Wafer:=wI (1+A6 y.e 4) }:Fact).cells) _ from Nw53)
   refine Ar (Aa (I (.Bu (j:=4) ll lf (.t rfl) (.const _) cQ) (I (.lb rfl (hS.b1.An rfl)) (I (.quo (.t rfl) (.const _) cQ) (A3 (eC (.ct rfl (.cons (.const _) .nil)) (Gn)) rfl (Ci _ _ _ cQ) ?_)))))
   rintro _ w54 ⟨rfl,uw54⟩
   replace hS:=hS.up uw54
   refine I (.quo (.t rfl) (.const _) cQ) (I (.fB 11 rfl) (Bh (.store lf (.t rfl) (.t rfl) rfl hS.b2 bQ) ?_))
   intro w55 Nw55
   replace hS:=hS.Co 2 rfl (show Set_ _ w55 _ (({ I4 y with Kind:=1,ID:=wI (1+A6 y.d 9),Wafer:=wI (1+A6 y.e 4),Tool:=wI ((A6 (wI (y.e.tdiv 4)) 8).tdiv 7) }:Fact).cells) _ from Nw55)
   refine Ar (Aa (I (.Bu (j:=4) ll lf (.t rfl) (.const _) cQ) (I (.lb rfl (hS.b1.An rfl)) (I (.quo (.t rfl) (.const _) cQ) (A3 (eC (.ct rfl (.cons (.const _) .nil)) (Gn)) rfl (Ci _ _ _ cQ) ?_)))))
   rintro _ w56 ⟨rfl,uw56⟩
   replace hS:=hS.up uw56
   refine I (.quo (.t rfl) (.const _) cQ) (I (.fB 12 rfl) (Bh (.store lf (.t rfl) (.t rfl) rfl hS.b2 bQ) ?_))
   intro w57 Nw57
   replace hS:=hS.Co 2 rfl (show Set_ _ w57 _ (({ I4 y with Kind:=1,ID:=wI (1+A6 y.d 9),Wafer:=wI (1+A6 y.e 4),Tool:=wI ((A6 (wI (y.e.tdiv 4)) 8).tdiv 7),Chamber:=wI ((A6 (wI (y.e.tdiv 32)) 6).tdiv 5) }:Fact).cells) _ from Nw57)
   refine Ar (Aa (I (.Bu (j:=5) ll lf (.t rfl) (.const _) cQ) (I (.lb rfl (hS.b1.An rfl)) (A3 (eC (.ct rfl (.cons (.const _) .nil)) (Gn)) rfl (Ci _ _ _ cQ) ?_))))
   rintro _ w58 ⟨rfl,uw58⟩
   replace hS:=hS.up uw58
   refine I (.quo (.t rfl) (.const _) cQ) (I (.Gk (.const _) (.t rfl)) (I (.fB 14 rfl) (Bh (.store lf (.t rfl) (.t rfl) rfl hS.b2 bQ) ?_)))
   intro w59 Nw59
   replace hS:=hS.Co 2 rfl (show Set_ _ w59 _ (({ I4 y with Kind:=1,ID:=wI (1+A6 y.d 9),Wafer:=wI (1+A6 y.e 4),Tool:=wI ((A6 (wI (y.e.tdiv 4)) 8).tdiv 7),Chamber:=wI ((A6 (wI (y.e.tdiv 32)) 6).tdiv 5),Recipe:=wI (1+wI ((A6 y.f 8).tdiv 7)) }:Fact).cells) _ from Nw59)
   refine Ar (Aa (I (.fB 15 rfl) (Bh (.store lf (.t rfl) (.const _) rfl hS.b2 bQ) ?_)))
   intro w60 Nw60
   replace hS:=hS.Co 2 rfl (show Set_ _ w60 _ (({ I4 y with Kind:=1,ID:=wI (1+A6 y.d 9),Wafer:=wI (1+A6 y.e 4),Tool:=wI ((A6 (wI (y.e.tdiv 4)) 8).tdiv 7),Chamber:=wI ((A6 (wI (y.e.tdiv 32)) 6).tdiv 5),Recipe:=wI (1+wI ((A6 y.f 8).tdiv 7)),Revision:=1 }:Fact).cells) _ from Nw60)
   refine Ar (Fy 8 kQ kQ kQ kQ kQ rfl rfl (Am (.fB 5 rfl) (Am (.lb rfl (hS.b2.An rfl)) (Am (.Bu (j:=5) ll lf (.t rfl) (.const _) cQ) (Am (.lb rfl (hS.b1.An rfl)) (Am (.quo (.t rfl) (.const _) cQ) (HW.c (fun a w _ ha=>Bq (.ct rfl (.cons (.const _) .nil)) (Gn) a ha) rfl rfl (fun w hu=>Ci _ _ w cQ) (Am (.Gk (.t rfl) (.t rfl)) (Am (.fB 6 rfl) (HW.nil ?_))))))))))
   intro w61 uw61
   replace hS:=hS.up uw61
   refine Bh (.store lf (.t rfl) (.t rfl) rfl hS.b2 bQ) ?_
   intro w62 Nw62
   replace hS:=hS.Co 2 rfl (show Set_ _ w62 _ (({ I4 y with Kind:=1,ID:=wI (1+A6 y.d 9),Wafer:=wI (1+A6 y.e 4),Tool:=wI ((A6 (wI (y.e.tdiv 4)) 8).tdiv 7),Chamber:=wI ((A6 (wI (y.e.tdiv 32)) 6).tdiv 5),Recipe:=wI (1+wI ((A6 y.f 8).tdiv 7)),Revision:=1,Until:=wI ((I4 y).Time+A6 (wI (y.f.tdiv 8)) 9) }:Fact).cells) _ from Nw62)
   refine Ai (Aa (I (.Bu (j:=5) ll lf (.t rfl) (.const _) cQ) (I (.lb rfl (hS.b1.An rfl)) (I (.quo (.t rfl) (.const _) cQ) (A3 (eC (.ct rfl (.cons (.const _) .nil)) (Gn)) rfl (Ci _ _ _ cQ) ?_)))))
   rintro _ w63 ⟨rfl,uw63⟩
   replace hS:=hS.up uw63
   refine I (.F4 (.const _) (.t rfl)) (I (.fB 16 rfl) (Bh (.store lf (.t rfl) (.t rfl) rfl hS.b2 bQ) ?_))
   intro w64 Nw64
   replace hS:=hS.Co 2 rfl (show Set_ _ w64 _ (({ I4 y with Kind:=1,ID:=wI (1+A6 y.d 9),Wafer:=wI (1+A6 y.e 4),Tool:=wI ((A6 (wI (y.e.tdiv 4)) 8).tdiv 7),Chamber:=wI ((A6 (wI (y.e.tdiv 32)) 6).tdiv 5),Recipe:=wI (1+wI ((A6 y.f 8).tdiv 7)),Revision:=1,Until:=wI ((I4 y).Time+A6 (wI (y.f.tdiv 8)) 9),Value:=wI (1000*A6 (wI (y.f.tdiv 72)) 40) }:Fact).cells) _ from Nw64)
   refine LW.nil (Ae (Ab ?_))
   (have hso:=BX (y:=y) (by omega);change Wx.Sep no w0 _ [_,_,Ch B6 (FJ y).cells _]at hS;generalize FJ y=ff at hS hso)
   have hsl:=Jn (xs.take k)
   refine Aa (Ac rfl (I (.lc rfl (hS.b2.agg)) (Ao (.buildSlice (xs:=[ff]) (enc:=Fact.cells) (mk:=fun f:Fact=>.agg f.cells) k6 k7 k_ rfl cQ (fun _=>rfl) (fun _=>rfl) (.cu rfl) rfl) rfl ?_)))
   rintro _ w65 ⟨B137,cB137,rfl,NB137,yB137,xB137⟩
   replace hS:=hS.up NB137.up
   have hE137:=xB137
   refine Ao (.Cu (enc:=Fact.cells) (bytes:=160) (i:=Tryz.t51) k6 kQ rfl rfl rfl rfl cQ (fun _=>rfl) Fact.one (.t rfl) (.t rfl) (hS.own 0 rfl) (Az hE137) (by have:=hsl;simp[maxLen];omega) (by have:=hsl;simp;omega)) rfl ?_
   intro v138 w66 Gw66
   replace hS:=hS.E5 0 rfl Gw66
   refine LW.A rfl (LW.nil (Ae (Ab (Aa (Ac rfl (I (.ic rfl oQ) (LW.A rfl (LW.nil (Aq ?_)))))))))
   exact⟨(k+1,v138),⟨⟨by show k+1≤_;omega,by show k+1≤_;omega⟩,by(rw[Kt hy hkl.2 hso];exact hS.take 1)⟩,tQ,by show xs.length-(k+1)<xs.length-k;omega⟩
  replace h62:=dQ h62
  refine Af (I (.eql (.t rfl) (.const _)) (LW.A rfl (Ai (CW.b rfl (fun h109=>?_) (fun h109=>?_)))))
  ·replace h109:=dQ h109
   refine Af (I (.fB 0 rfl) (Bh (.store lf (.t rfl) (.const _) rfl hS.b2 bQ) ?_))
   intro w67 Nw67
   replace hS:=hS.Co 2 rfl (show Set_ _ w67 _ (({ I4 y with Kind:=2 }:Fact).cells) _ from Nw67)
   refine Ar (Aa (I (.Bu (j:=3) ll lf (.t rfl) (.const _) cQ) (I (.lb rfl (hS.b1.An rfl)) (A3 (eC (.ct rfl (.cons (.const _) .nil)) (Gn)) rfl (Ci _ _ _ cQ) ?_))))
   rintro _ w68 ⟨rfl,uw68⟩
   replace hS:=hS.up uw68
   refine I (.Gk (.const _) (.t rfl)) (I (.fB 1 rfl) (Bh (.store lf (.t rfl) (.t rfl) rfl hS.b2 bQ) ?_))
   intro w69 Nw69
   replace hS:=hS.Co 2 rfl (show Set_ _ w69 _ (({ I4 y with Kind:=2,ID:=wI (1+A6 y.d 9) }:Fact).cells) _ from Nw69)
   refine Ai (Aa (I (.Bu (j:=5) ll lf (.t rfl) (.const _) cQ) (I (.lb rfl (hS.b1.An rfl)) (A3 (eC (.ct rfl (.cons (.const _) .nil)) (Gn)) rfl (Ci _ _ _ cQ) ?_))))
   rintro _ w70 ⟨rfl,uw70⟩
   replace hS:=hS.up uw70
   refine I (.Si (.t rfl) (.const _)) (I (.fB 16 rfl) (Bh (.store lf (.t rfl) (.t rfl) rfl hS.b2 bQ) ?_))
   intro w71 Nw71
   replace hS:=hS.Co 2 rfl (show Set_ _ w71 _ (({ I4 y with Kind:=2,ID:=wI (1+A6 y.d 9),Value:=wI (A6 y.f 60-10) }:Fact).cells) _ from Nw71)
   refine LW.nil (Ae (Ab ?_))
   (have hso:=BY (y:=y) (by omega);change Wx.Sep no w0 _ [_,_,Ch B6 (FK y).cells _]at hS;generalize FK y=ff at hS hso)
   have hsl:=Jn (xs.take k)
   refine Aa (Ac rfl (I (.lc rfl (hS.b2.agg)) (Ao (.buildSlice (xs:=[ff]) (enc:=Fact.cells) (mk:=fun f:Fact=>.agg f.cells) k6 k7 k_ rfl cQ (fun _=>rfl) (fun _=>rfl) (.cu rfl) rfl) rfl ?_)))
   rintro _ w72 ⟨B137,cB137,rfl,NB137,yB137,xB137⟩
   replace hS:=hS.up NB137.up
   have hE137:=xB137
   refine Ao (.Cu (enc:=Fact.cells) (bytes:=160) (i:=Tryz.t51) k6 kQ rfl rfl rfl rfl cQ (fun _=>rfl) Fact.one (.t rfl) (.t rfl) (hS.own 0 rfl) (Az hE137) (by have:=hsl;simp[maxLen];omega) (by have:=hsl;simp;omega)) rfl ?_
   intro v138 w73 Gw73
   replace hS:=hS.E5 0 rfl Gw73
   refine LW.A rfl (LW.nil (Ae (Ab (Aa (Ac rfl (I (.ic rfl oQ) (LW.A rfl (LW.nil (Aq ?_)))))))))
   exact⟨(k+1,v138),⟨⟨by show k+1≤_;omega,by show k+1≤_;omega⟩,by(rw[Kt hy hkl.2 hso];exact hS.take 1)⟩,tQ,by show xs.length-(k+1)<xs.length-k;omega⟩
  replace h109:=dQ h109
  refine Af (I (.eql (.t rfl) (.const _)) (LW.A rfl (Ai (CW.b rfl (fun h122=>?_) (fun h122=>?_)))))
  ·replace h122:=dQ h122
   refine Af (I (.fB 0 rfl) (Bh (.store lf (.t rfl) (.const _) rfl hS.b2 bQ) ?_))
   intro w74 Nw74
   replace hS:=hS.Co 2 rfl (show Set_ _ w74 _ (({ I4 y with Kind:=10 }:Fact).cells) _ from Nw74)
   refine Ar (Aa (I (.Bu (j:=3) ll lf (.t rfl) (.const _) cQ) (I (.lb rfl (hS.b1.An rfl)) (A3 (eC (.ct rfl (.cons (.const _) .nil)) (Gn)) rfl (Ci _ _ _ cQ) ?_))))
   rintro _ w75 ⟨rfl,uw75⟩
   replace hS:=hS.up uw75
   refine I (.quo (.t rfl) (.const _) cQ) (I (.Gk (.const _) (.t rfl)) (I (.fB 14 rfl) (Bh (.store lf (.t rfl) (.t rfl) rfl hS.b2 bQ) ?_)))
   intro w76 Nw76
   replace hS:=hS.Co 2 rfl (show Set_ _ w76 _ (({ I4 y with Kind:=10,Recipe:=wI (1+wI ((A6 y.d 8).tdiv 7)) }:Fact).cells) _ from Nw76)
   refine Ai (Aa (I (.Bu (j:=5) ll lf (.t rfl) (.const _) cQ) (I (.lb rfl (hS.b1.An rfl)) (A3 (eC (.ct rfl (.cons (.const _) .nil)) (Gn)) rfl (Ci _ _ _ cQ) ?_))))
   rintro _ w77 ⟨rfl,uw77⟩
   replace hS:=hS.up uw77
   refine I (.fB 16 rfl) (Bh (.store lf (.t rfl) (.t rfl) rfl hS.b2 bQ) ?_)
   intro w78 Nw78
   replace hS:=hS.Co 2 rfl (show Set_ _ w78 _ (({ I4 y with Kind:=10,Recipe:=wI (1+wI ((A6 y.d 8).tdiv 7)),Value:=A6 y.f 40 }:Fact).cells) _ from Nw78)
   refine LW.nil (Ae (Ab ?_))
   (have hso:=BZ (y:=y) (by omega);change Wx.Sep no w0 _ [_,_,Ch B6 (FL y).cells _]at hS;generalize FL y=ff at hS hso)
   have hsl:=Jn (xs.take k)
   refine Aa (Ac rfl (I (.lc rfl (hS.b2.agg)) (Ao (.buildSlice (xs:=[ff]) (enc:=Fact.cells) (mk:=fun f:Fact=>.agg f.cells) k6 k7 k_ rfl cQ (fun _=>rfl) (fun _=>rfl) (.cu rfl) rfl) rfl ?_)))
   rintro _ w79 ⟨B137,cB137,rfl,NB137,yB137,xB137⟩
   replace hS:=hS.up NB137.up
   have hE137:=xB137
   refine Ao (.Cu (enc:=Fact.cells) (bytes:=160) (i:=Tryz.t51) k6 kQ rfl rfl rfl rfl cQ (fun _=>rfl) Fact.one (.t rfl) (.t rfl) (hS.own 0 rfl) (Az hE137) (by have:=hsl;simp[maxLen];omega) (by have:=hsl;simp;omega)) rfl ?_
   intro v138 w80 Gw80
   replace hS:=hS.E5 0 rfl Gw80
   refine LW.A rfl (LW.nil (Ae (Ab (Aa (Ac rfl (I (.ic rfl oQ) (LW.A rfl (LW.nil (Aq ?_)))))))))
   exact⟨(k+1,v138),⟨⟨by show k+1≤_;omega,by show k+1≤_;omega⟩,by(rw[Kt hy hkl.2 hso];exact hS.take 1)⟩,tQ,by show xs.length-(k+1)<xs.length-k;omega⟩
  replace h122:=dQ h122
  refine Al (Af (I (.Bu (j:=5) ll lf (.t rfl) (.const _) cQ) (I (.lb rfl (hS.b1.An rfl)) (A3 (eC (.ct rfl (.cons (.const _) .nil)) (Gn)) rfl (Ci _ _ _ cQ) ?_))))
  rintro _ w81 ⟨rfl,uw81⟩
  replace hS:=hS.up uw81
  refine I (.gtr (.t rfl) (.const _)) (Ai (CW.b rfl (fun h44=>?_) (fun h44=>?_)))
  ·replace h44:=dQ h44
   have hso:=CA (y:=y) oQ oQ oQ oQ h44
   refine A7 (Ad (Ou cQ (Ad (Au (Ab (Aa (Ac rfl (I (.ic rfl oQ) (LW.A rfl (LW.nil (Aq ?_)))))))))))
   exact⟨(k+1,v),⟨⟨by show k+1≤_;omega,by show k+1≤_;omega⟩,by(rw[sO hy hkl.2 hso];exact hS.take 1)⟩,tQ,by show xs.length-(k+1)<xs.length-k;omega⟩
  replace h44:=dQ h44
  refine Ak (Ab (Af (I (.fB 0 rfl) (Bh (.store lf (.t rfl) (.const _) rfl hS.b2 bQ) ?_))))
  intro w82 Nw82
  replace hS:=hS.Co 2 rfl (show Set_ _ w82 _ (({ I4 y with Kind:=9 }:Fact).cells) _ from Nw82)
  refine Ar (Aa (I (.Bu (j:=3) ll lf (.t rfl) (.const _) cQ) (I (.lb rfl (hS.b1.An rfl)) (A3 (eC (.ct rfl (.cons (.const _) .nil)) (Gn)) rfl (Ci _ _ _ cQ) ?_))))
  rintro _ w83 ⟨rfl,uw83⟩
  replace hS:=hS.up uw83
  refine I (.Gk (.const _) (.t rfl)) (I (.fB 1 rfl) (Bh (.store lf (.t rfl) (.t rfl) rfl hS.b2 bQ) ?_))
  intro w84 Nw84
  replace hS:=hS.Co 2 rfl (show Set_ _ w84 _ (({ I4 y with Kind:=9,ID:=wI (1+A6 y.d 9) }:Fact).cells) _ from Nw84)
  refine Ar (Aa (I (.Bu (j:=4) ll lf (.t rfl) (.const _) cQ) (I (.lb rfl (hS.b1.An rfl)) (A3 (eC (.ct rfl (.cons (.const _) .nil)) (Gn)) rfl (Ci _ _ _ cQ) ?_))))
  rintro _ w85 ⟨rfl,uw85⟩
  replace hS:=hS.up uw85
  refine I (.quo (.t rfl) (.const _) cQ) (I (.fB 11 rfl) (Bh (.store lf (.t rfl) (.t rfl) rfl hS.b2 bQ) ?_))
  intro w86 Nw86
  replace hS:=hS.Co 2 rfl (show Set_ _ w86 _ (({ I4 y with Kind:=9,ID:=wI (1+A6 y.d 9),Tool:=wI ((A6 y.e 8).tdiv 7) }:Fact).cells) _ from Nw86)
  refine Ai (Aa (I (.Bu (j:=4) ll lf (.t rfl) (.const _) cQ) (I (.lb rfl (hS.b1.An rfl)) (I (.quo (.t rfl) (.const _) cQ) (A3 (eC (.ct rfl (.cons (.const _) .nil)) (Gn)) rfl (Ci _ _ _ cQ) ?_)))))
  rintro _ w87 ⟨rfl,uw87⟩
  replace hS:=hS.up uw87
  refine I (.quo (.t rfl) (.const _) cQ) (I (.fB 12 rfl) (Bh (.store lf (.t rfl) (.t rfl) rfl hS.b2 bQ) ?_))
  intro w88 Nw88
  replace hS:=hS.Co 2 rfl (show Set_ _ w88 _ (({ I4 y with Kind:=9,ID:=wI (1+A6 y.d 9),Tool:=wI ((A6 y.e 8).tdiv 7),Chamber:=wI ((A6 (wI (y.e.tdiv 8)) 6).tdiv 5) }:Fact).cells) _ from Nw88)
  refine LW.nil (Ae (Ab ?_))
  (have hso:=CB (y:=y) oQ oQ oQ oQ (by omega);change Wx.Sep no w0 _ [_,_,Ch B6 (FM y).cells _]at hS;generalize FM y=ff at hS hso)
  have hsl:=Jn (xs.take k)
  refine Aa (Ac rfl (I (.lc rfl (hS.b2.agg)) (Ao (.buildSlice (xs:=[ff]) (enc:=Fact.cells) (mk:=fun f:Fact=>.agg f.cells) k6 k7 k_ rfl cQ (fun _=>rfl) (fun _=>rfl) (.cu rfl) rfl) rfl ?_)))
  rintro _ w89 ⟨B137,cB137,rfl,NB137,yB137,xB137⟩
  replace hS:=hS.up NB137.up
  have hE137:=xB137
  refine Ao (.Cu (enc:=Fact.cells) (bytes:=160) (i:=Tryz.t51) k6 kQ rfl rfl rfl rfl cQ (fun _=>rfl) Fact.one (.t rfl) (.t rfl) (hS.own 0 rfl) (Az hE137) (by have:=hsl;simp[maxLen];omega) (by have:=hsl;simp;omega)) rfl ?_
  intro v138 w90 Gw90
  replace hS:=hS.E5 0 rfl Gw90
  refine LW.A rfl (LW.nil (Ae (Ab (Aa (Ac rfl (I (.ic rfl oQ) (LW.A rfl (LW.nil (Aq ?_)))))))))
  exact⟨(k+1,v138),⟨⟨by show k+1≤_;omega,by show k+1≤_;omega⟩,by(rw[Kt hy hkl.2 hso];exact hS.take 1)⟩,tQ,by show xs.length-(k+1)<xs.length-k;omega⟩
 replace h14:=dQ h14
 refine A7 (Ad (Ad (Au (Ab (Af (Ac rfl (LW.A rfl (Ai (Aj (KW.q ?_))))))))))
 rw[yQ (by simp at h14;omega)]at hS
 exact⟨sN hS,hS.Cj⟩
theorem sZ(p q:DP)(w:World)(hp0:Sl w p.uv 1 Cm p.dec.uses)(hq0:Sl w q.uv 1 Cm q.dec.uses)(hl:p.dec.uses.length≤100000):Ret prog 43 #[.agg p.cells,.agg q.cells] w fun r w'=>r=.bool (Jb p.dec q.dec)∧Up w w':=by
 obtain⟨w0,rfl,hS⟩:=W0 w
 obtain⟨ad0,cp0,ev0,hE0⟩:=hp0
 obtain⟨ad1,cp1,ev1,hE1⟩:=hq0
 cases ev0
 cases ev1
 refine cT 52 func43 rfl (Af (Ao (.bA rfl) rfl ?_))
 rintro _ w1 ⟨B2,rfl,NB2⟩
 replace hS:=hS.Bn NB2
 refine Ao (.bA rfl) rfl ?_
 rintro _ w2 ⟨B3,rfl,NB3⟩
 replace hS:=hS.Bn NB3
 refine J (Ar (Af (I (.fB 0 rfl) (I (.lb rfl (hS.b0.An rfl)) (I (.fB 0 rfl) (I (.lb rfl (hS.b1.An rfl)) (I (.neq (.t rfl) (.t rfl)) (Ac rfl (LW.gr rfl (fun hc=>PEv.fB 1 rfl) (LW.gr rfl (fun hc=>PEv.Ef md lj rfl vQ (lA hS.b0)) (LW.gr rfl (fun hc=>PEv.fB 1 rfl) (LW.gr rfl (fun hc=>PEv.Ef md lj rfl vQ (lA hS.b1)) (LW.gr rfl (fun hc=>PEv.wJ ni (Ln _ _) vQ vQ) (I (.po rfl (fun hp=>(by exact .cond rfl (by(rw[hp];rfl))))) (Ac rfl (LW.gr rfl (fun hc=>PEv.fB 3 rfl) (LW.gr rfl (fun hc=>PEv.Ef md lj rfl vQ (lB hS.b0)) (LW.gr rfl (fun hc=>PEv.fB 3 rfl) (LW.gr rfl (fun hc=>PEv.Ef md lj rfl vQ (lB hS.b1)) (LW.gr rfl (fun hc=>PEv.wJ ni (Ln _ _) vQ vQ) (I (.po rfl (fun hp=>(by exact .cond rfl (by(rw[hp];rfl))))) (Ac rfl (LW.gr rfl (fun hc=>PEv.fB 5 rfl) (LW.gr rfl (fun hc=>PEv.load isAgg23 vQ (hS.b0.An rfl)) (LW.gr rfl (fun hc=>PEv.Df lg vQ) (LW.gr rfl (fun hc=>PEv.fB 5 rfl) (LW.gr rfl (fun hc=>PEv.load isAgg23 vQ (hS.b1.An rfl)) (LW.gr rfl (fun hc=>PEv.Df lg vQ) (LW.gr rfl (fun hc=>PEv.neq vQ vQ) (I (.po rfl (fun hp=>(by exact .cond rfl (by(rw[hp];rfl))))) (Ai (CW.b rfl (fun h33=>?_) (fun h33=>?_)))))))))))))))))))))))))))))))))
 ·replace h33:=dQ h33
  have hno:Jb p.dec q.dec=false:=yR h33
  refine Af (J (Ai (Aj (Ah (KW.q ?_)))))
  exact⟨by rw[hno],hS.Cj⟩
 replace h33:=dQ h33
 have hyes:(!decide (p.dec.run=q.dec.run)|| !Wk p.dec.par q.dec.par|| !Wk p.dec.est q.dec.est|| !decide ((p.dec.uses.length:Int)=(q.dec.uses.length:Int)))=false:=h33
 have hll:p.dec.uses.length=q.dec.uses.length:=by simp at hyes;omega
 refine Ak (Ab (Al (Af (J (Ai (Ap (A9 (σ:=Nat) (fun s w=>(s≤p.dec.uses.length)∧(p.dec.uses.take s=q.dec.uses.take s)∧(Wx.Sep no w0 w [Ch B2 p.cells 57,Ch B3 q.cells 57])) (fun s=>[(5,.eq (vi (s:Int)))]) ([(2,.eq _),(3,.eq _)]) (fun s=>p.dec.uses.length-s) 0 ?_ tQ ?_)))))))
 ·exact⟨ao _,rfl,hS⟩
 rintro k w3 ⟨hk,ht,hS⟩
 refine Al (Af (Ac rfl (I (.fB 5 rfl) (I (.lb rfl (hS.b0.An rfl)) (I (.Df lg (.t rfl)) (I (.l2 rfl rfl) (Ai (CW.b rfl (fun h38=>?_) (fun h38=>?_)))))))))
 ·replace h38:=dQ h38
  refine Ak (Ab (Al (Ap (Al ?_))))
  obtain⟨x,hx⟩:=Av (xs:=p.dec.uses) (i:=k) oQ
  obtain⟨y,hy⟩:=Av (xs:=q.dec.uses) (i:=k) oQ
  obtain⟨Bx,ox,ax,hcx⟩:=(Els.up hE0 hS.Cj) k x hx
  obtain⟨By,oy,ay,hcy⟩:=(Els.up hE1 hS.Cj) k y hy
  refine Cg kQ kQ rfl rfl (Am (.fB 5 rfl) (Am (.lb rfl (hS.b0.An rfl)) (Am (.mv rfl) (Am (.Ay lg lf (.t rfl) (.t rfl) oQ ax) (Am (.lb rfl (hcx.nth (j:=0) rfl)) (Am (.fB 5 rfl) (Am (.lb rfl (hS.b1.An rfl)) (Am (.mv rfl) (Am (.Ay lg lf (.t rfl) (.t rfl) oQ ay) (Am (.lb rfl (hcy.nth (j:=0) rfl)) (Am (.neq (.t rfl) (.t rfl)) (HW.nil ?_))))))))))))
  intro w4 uw4
  replace hS:=hS.up uw4
  refine Ab (CW.b rfl (fun h51=>?_) (fun h51=>?_))
  ·replace h51:=dQ h51
   have hno:Jb p.dec q.dec=false:=sP hx hy (by simpa using h51)
   refine Af (J (Ai (Aj (Aw (Ah (Ah (Aw (Ah (KW.q ?_)))))))))
   exact⟨by rw[hno],hS.Cj⟩
  replace h51:=dQ h51
  have hxy:x=y:=by simpa using h51
  refine Ak (Ae (Ab (Aa (Ac rfl (I (.ic rfl oQ) (LW.A rfl (LW.nil (Aq ?_))))))))
  exact⟨k+1,⟨by omega,nV hx hy ht hxy,hS.take 2⟩,tQ,by omega⟩
 replace h38:=dQ h38
 refine A7 (Ad (Ad (Au (Ab (Af (J (Ai (Aj (KW.q ?_)))))))))
 exact⟨by rw[sR hyes (by have hkl:k=p.dec.uses.length:=(by omega);rw[hkl,br,hll,br]at ht;exact ht)],hS.Cj⟩
theorem Zj(v1 v2:Go.Value)(l m:List Dec)(w:World)(h1:DecsE w v1 l)(h2:DecsE w v2 m)(hl:l.length≤100000)(hu0:∀D∈l,D.uses.length≤100000):Ret prog 19 #[v1,v2] w fun r w'=>r=.bool (J9 l m)∧Up w w':=by
 have hW:=Up.refl w
 obtain⟨w0,rfl,_⟩:=W0 w
 obtain⟨L,⟨ad1,cp1,rfl,hE1⟩,hL1,hm1⟩:=h1
 obtain⟨M,⟨ad2,cp2,rfl,hE2⟩,hL2,hm2⟩:=h2
 have hz1:L.length=l.length:=by rw[←hm1,cd]
 have hz2:M.length=m.length:=by rw[←hm2,cd]
 refine cT 27 func19 rfl (Af (J (Ar (Af (Ac rfl (I (.Df lq (.t rfl)) (Ac rfl (I (.Df lq (.t rfl)) (I (.neq (.t rfl) (.t rfl)) (Ai (CW.b rfl (fun h10=>?_) (fun h10=>?_))))))))))))
 ·replace h10:=dQ h10
  have hne:l.length≠m.length:=by simp at h10;omega
  refine Af (J (Ai (Aj (Ah (KW.q ?_)))))
  exact⟨by rw[Vd hne],hW⟩
 replace h10:=dQ h10
 have hlm:l.length=m.length:=by simp at h10;omega
 refine Ak (Ab (Al (Af (J (Ai (Ap (A9 (σ:=Nat) (fun s w=>(s≤L.length)∧(J9 l m=J9 (l.drop s) (m.drop s))∧(Up w0 w)) (fun s=>[(5,.eq (vi (s:Int)))]) ([(0,.eq _),(1,.eq _)]) (fun s=>L.length-s) 0 ?_ tQ ?_)))))))
 ·exact⟨ao _,rfl,hW⟩
 rintro k w1 ⟨hk,ht,hW⟩
 refine Al (Af (Ac rfl (Ac rfl (I (.Df lq (.t rfl)) (I (.l2 rfl rfl) (Ai (CW.b rfl (fun h14=>?_) (fun h14=>?_))))))))
 ·replace h14:=dQ h14
  refine Ak (Ab (Al (Ap (Al ?_))))
  obtain⟨x,hx⟩:=Av (xs:=L) (i:=k) oQ
  obtain⟨y,hy⟩:=Av (xs:=M) (i:=k) oQ
  obtain⟨Bx,ox,ax,hcx⟩:=(Els.up hE1 hW) k x hx
  obtain⟨By,oy,ay,hcy⟩:=(Els.up hE2 hW) k y hy
  have hdx:=CC hm1 hx
  have hdy:=CC hm2 hy
  refine Cg kQ kQ rfl rfl (Am (.mv rfl) (Am (.mv rfl) (Am (.Ay lq lr (.t rfl) (.t rfl) oQ ax) (Am (.lc rfl (hcx)) (Am (.mv rfl) (Am (.mv rfl) (Am (.Ay lq lr (.t rfl) (.t rfl) oQ ay) (Am (.lc rfl (hcy)) (HW.c (fun a w _ ha=>Bq (.ct rfl (.cu rfl)) (MI) a ha) rfl rfl (fun w hu=>sZ x y w ((hL1 x (am hx)).up (hW.trans hu)) ((hL2 y (am hy)).up (hW.trans hu)) (hu0 _ (am hdx))) (Am (.n1 rfl) (HW.nil ?_)))))))))))
  intro w2 uw2
  replace hW:=hW.up uw2
  refine Ab (CW.b rfl (fun h26=>?_) (fun h26=>?_))
  ·replace h26:=dQ h26
   have hno:Jb x.dec y.dec=false:=by simpa using h26
   refine Af (J (Ai (Aj (Aw (Ah (Ah (Aw (Ah (KW.q ?_)))))))))
   exact⟨by rw[ht,S4 hdx hdy,hno,kz],hW⟩
  replace h26:=dQ h26
  have hys:Jb x.dec y.dec=true:=by simpa using h26
  refine Ak (Ae (Ab (Aa (Ac rfl (I (.ic rfl oQ) (LW.A rfl (LW.nil (Aq ?_))))))))
  exact⟨k+1,⟨by omega,by rw[ht,S4 hdx hdy,hys,gp],hW⟩,tQ,by omega⟩
 replace h14:=dQ h14
 refine A7 (Ad (Ad (Au (Ab (Af (J (Ai (Aj (KW.q ?_)))))))))
 exact⟨by rw[ht,gV oQ (by omega)],hW⟩
theorem Q6(f:Fact)(j:Nat)(w:World)(hj:j<14):Ret prog 187 #[.agg f.cells,vi (j:Int)] w fun r w'=>r=vi (F6 f (j:Int))∧Up w w':=by
 have hW:=Up.refl w
 obtain⟨w0,rfl,_⟩:=W0 w
 have hgl:(cL f).length=14:=rfl
 refine cT 37 func187 rfl (Af (Ao (.bA rfl) rfl ?_))
 rintro _ w1 ⟨B2,rfl,NB2⟩
 replace hW:=hW.up NB2.up
 have hB2:=NB2.blk
 refine J (Ar (Aa (I (.fB 1 rfl) (I (.lb rfl (hB2.An rfl)) (I (.fB 7 rfl) (I (.lb rfl (hB2.An rfl)) (I (.fB 8 rfl) (I (.lb rfl (hB2.An rfl)) (I (.fB 9 rfl) (I (.lb rfl (hB2.An rfl)) (I (.fB 10 rfl) (I (.lb rfl (hB2.An rfl)) (I (.fB 11 rfl) (I (.lb rfl (hB2.An rfl)) (I (.fB 12 rfl) (I (.lb rfl (hB2.An rfl)) (I (.fB 13 rfl) (I (.lb rfl (hB2.An rfl)) (I (.fB 14 rfl) (I (.lb rfl (hB2.An rfl)) (I (.fB 15 rfl) (I (.lb rfl (hB2.An rfl)) (I (.fB 5 rfl) (I (.lb rfl (hB2.An rfl)) (I (.fB 6 rfl) (I (.lb rfl (hB2.An rfl)) (I (.fB 16 rfl) (I (.lb rfl (hB2.An rfl)) (I (.fB 17 rfl) (I (.lb rfl (hB2.An rfl)) (Ao (.buildSlice (xs:=cL f) (enc:=Cm) (mk:=vi) lg lf ls rfl cQ (fun _=>rfl) (fun _=>rfl) (.ct rfl (.ct rfl (.ct rfl (.ct rfl (.ct rfl (.ct rfl (.ct rfl (.ct rfl (.ct rfl (.ct rfl (.ct rfl (.ct rfl (.ct rfl (.cu rfl)))))))))))))) rfl) rfl ?_)))))))))))))))))))))))))))))))
 rintro _ w2 ⟨B33,cB33,rfl,NB33,yB33,xB33⟩
 replace hW:=hW.up NB33.up
 replace hB2:=hB2.up NB33.up
 have hB33:=NB33.blk
 have hE33:=xB33
 refine Ac rfl ?_
 obtain⟨y,hy⟩:=Av (xs:=cL f) (i:=j) oQ
 obtain⟨By,oy,ay,hcy⟩:=hE33 _ y hy
 refine I (.Ay lg lf (.t rfl) (.t rfl) oQ ay) (I (.lb rfl (hcy.nth (j:=0) rfl)) (LW.A rfl (Ai (Aj (KW.q ?_)))))
 exact⟨by rw[yT hy],hW⟩
theorem Xy(ad:Option Addr)(cp:Nat)(l:List Fact)(j:Nat)(n:Int)(w:World)(hE:Els w ad 19 Fact.cells l)(hj:j<14)(hl:l.length≤100000):Ret prog 132 #[.slice ad l.length cp,vi (j:Int),vi n] w fun r w'=>r=.tuple #[.agg ((l.find? (fun f=>decide (F6 f (j:Int)=n))).getD Dc).cells,.bool (l.find? (fun f=>decide (F6 f (j:Int)=n))).isSome]∧Up w w':=by
 have hW:=Up.refl w
 obtain⟨w0,rfl,_⟩:=W0 w
 refine cT 28 func132 rfl (Af (Ao (.Bi k_) rfl ?_))
 rintro _ w1 ⟨B6,rfl,NB6⟩
 have eB6:=NB6.at_
 replace hW:=hW.up NB6.up
 have hB6:=NB6.blk
 refine J (Ar (Af (J (Ai (Ap (A9 (σ:=Nat) (fun s w=>(s≤l.length)∧(∀y∈l.take s,(fun f=>decide (F6 f (j:Int)=n)) y=false)∧(Up w0 w)∧(Blk w B6 Dc.cells 51)) (fun s=>[(8,.eq (vi (s:Int)))]) ([(0,.eq _),(1,.eq _),(2,.eq _),(6,.eq _)]) (fun s=>l.length-s) 0 ?_ tQ ?_))))))
 ·exact⟨ao _,(fun y hy=>by rw[jc]at hy;cases hy),hW,hB6⟩
 rintro i w2 ⟨hi,hq,hW,hB6⟩
 refine Al (Af (Ac rfl (Ac rfl (I (.Df k6 (.t rfl)) (I (.l2 rfl rfl) (Ai (CW.b rfl (fun h12=>?_) (fun h12=>?_))))))))
 ·replace h12:=dQ h12
  refine Ak (Ab (Al (Ap (Al ?_))))
  obtain⟨x,hx⟩:=Av (xs:=l) (i:=i) oQ
  obtain⟨Bx,ox,ax,hcx⟩:=(Els.up hE hW) i x hx
  refine Aa (Ac rfl (Ac rfl (I (.Ay k6 k7 (.t rfl) (.t rfl) oQ ax) (I (.lc rfl (hcx)) (Ac rfl (A3 (eC (.u rfl rfl) (aH)) rfl (Q6 x j _ hj) ?_))))))
  rintro _ w3 ⟨rfl,uw3⟩
  replace hW:=hW.up uw3
  replace hB6:=hB6.up uw3
  refine Ac rfl (I (.eql (.t rfl) (.t rfl)) (Ai (CW.b rfl (fun h22=>?_) (fun h22=>?_))))
  ·replace h22:=dQ h22
   refine Al ?_
   obtain⟨Bx,ox,ax,hcx⟩:=(Els.up hE hW) i x hx
   refine Aa (Ac rfl (Ac rfl (I (.Ay k6 k7 (.t rfl) (.t rfl) oQ ax) (I (.lc rfl (hcx)) (Bh (.A5 k7 rfl (.t rfl) (.t rfl) eQ hB6 rfl) ?_)))))
   intro w4 Nw4
   replace hW:=hW.sto Nw4.sto oQ
   replace hB6:=Nw4.blk
   replace hB6:Blk w4 B6 x.cells _:=hB6
   refine J (Ai (Aj (Aw (Ah (Ah (Aw (Ah (Dx rfl rfl rfl m2 k7 rfl (hB6).agg ⟨_,rfl,?_⟩))))))))
   (rw[kL (p:=(fun f=>decide (F6 f (j:Int)=n))) hx hq (a8 h22)];exact⟨rfl,hW⟩)
  replace h22:=dQ h22
  refine Ak (Ae (Ab (Aa (Ac rfl (I (.ic rfl oQ) (LW.A rfl (LW.nil (Aq ?_))))))))
  exact⟨i+1,⟨by omega,sU hq hx (bg h22),hW,hB6⟩,tQ,by omega⟩
 replace h12:=dQ h12
 refine A7 (Ad (Ad (Au (Ab (Af (I (.build (cs:=Dc.cells) me k_ Fg .nil rfl) (Bh (.A5 k7 rfl (.t rfl) (.t rfl) eQ hB6 rfl) ?_)))))))
 intro w5 Nw5
 replace hW:=hW.sto Nw5.sto oQ
 replace hB6:=Nw5.blk
 replace hB6:Blk w5 B6 Dc.cells _:=hB6
 refine J (Ai (Aj (Dx rfl rfl rfl m2 k7 rfl (hB6).agg ⟨_,rfl,?_⟩)))
 (rw[kM (p:=(fun f=>decide (F6 f (j:Int)=n))) (yU hq oQ)];exact⟨rfl,hW⟩)
theorem Me(bc:Array Go.Value)(b:Base)(id:Int)(w:World)(hC:BaseC w bc b)(hl:b.Processes.length≤100000):Ret prog 66 #[.agg bc,vi id] w fun r w'=>r=.tuple #[.agg ((Ec b id).getD Dc).cells,.bool (Ec b id).isSome]∧Up w w':=by
 have hW:=Up.refl w
 obtain⟨w0,rfl,_⟩:=W0 w
 obtain⟨v0,h0,hr0⟩:=hC.CO
 obtain⟨ad,cp,rfl,hE0⟩:=hr0
 refine cT 12 func66 rfl (Af (Ao (.bA rfl) rfl ?_))
 rintro _ w1 ⟨B2,rfl,NB2⟩
 have eB2:=NB2.at_
 have zB2:=NB2.size
 replace hW:=hW.up NB2.up
 have hB2:=NB2.blk
 refine Ao (.Bi k_) rfl ?_
 rintro _ w2 ⟨B4,rfl,NB4⟩
 have eB4:=NB4.at_
 replace hW:=hW.up NB4.up
 replace hB2:=hB2.up NB4.up
 have hB4:=NB4.blk
 refine J (Ar (Aa (I (.fB 0 rfl) (I (.lb rfl (hB2.cell h0)) (Ac rfl (A3 (eC (.ct rfl (.cons (.const _) (.cu rfl))) (AZ)) rfl (Xy ad cp b.Processes 0 id _ (Els.up hE0 hW) cQ hl) ?_))))))
 rintro _ w3 ⟨rfl,uw3⟩
 replace hW:=hW.up uw3
 replace hB2:=hB2.up uw3
 replace hB4:=hB4.up uw3
 refine I (.xt rfl rfl) (I (.xt rfl rfl) (Bh (.A5 k7 rfl (.t rfl) (.t rfl) eQ hB4 rfl) ?_))
 intro w4 Nw4
 replace hW:=hW.sto Nw4.sto oQ
 replace hB2:=hB2.sto Nw4.sto oQ
 replace hB4:=Nw4.blk
 replace hB4:Blk w4 B4 ((Ec b id).getD Dc).cells _:=hB4
 refine LW.A rfl (Ai (Aj (Dx rfl rfl rfl m2 k7 rfl (hB4).agg ⟨_,rfl,?_⟩)))
 exact⟨rfl,hW⟩
theorem Zl(bc:Array Go.Value)(b:Base)(id:Int)(w:World)(hC:BaseC w bc b)(hl:b.Measures.length≤100000):Ret prog 199 #[.agg bc,vi id] w fun r w'=>r=.tuple #[.agg ((U2 b id).getD Dc).cells,.bool (U2 b id).isSome]∧Up w w':=by
 have hW:=Up.refl w
 obtain⟨w0,rfl,_⟩:=W0 w
 obtain⟨v1,h1,hr1⟩:=hC.LK
 obtain⟨ad,cp,rfl,hE0⟩:=hr1
 refine cT 12 func199 rfl (Af (Ao (.bA rfl) rfl ?_))
 rintro _ w1 ⟨B2,rfl,NB2⟩
 have eB2:=NB2.at_
 have zB2:=NB2.size
 replace hW:=hW.up NB2.up
 have hB2:=NB2.blk
 refine Ao (.Bi k_) rfl ?_
 rintro _ w2 ⟨B4,rfl,NB4⟩
 have eB4:=NB4.at_
 replace hW:=hW.up NB4.up
 replace hB2:=hB2.up NB4.up
 have hB4:=NB4.blk
 refine J (Ar (Aa (I (.fB 1 rfl) (I (.lb rfl (hB2.cell h1)) (Ac rfl (A3 (eC (.ct rfl (.cons (.const _) (.cu rfl))) (AZ)) rfl (Xy ad cp b.Measures 0 id _ (Els.up hE0 hW) cQ hl) ?_))))))
 rintro _ w3 ⟨rfl,uw3⟩
 replace hW:=hW.up uw3
 replace hB2:=hB2.up uw3
 replace hB4:=hB4.up uw3
 refine I (.xt rfl rfl) (I (.xt rfl rfl) (Bh (.A5 k7 rfl (.t rfl) (.t rfl) eQ hB4 rfl) ?_))
 intro w4 Nw4
 replace hW:=hW.sto Nw4.sto oQ
 replace hB2:=hB2.sto Nw4.sto oQ
 replace hB4:=Nw4.blk
 replace hB4:Blk w4 B4 ((U2 b id).getD Dc).cells _:=hB4
 refine LW.A rfl (Ai (Aj (Dx rfl rfl rfl m2 k7 rfl (hB4).agg ⟨_,rfl,?_⟩)))
 exact⟨rfl,hW⟩
set_option maxHeartbeats 2000000 in
theorem cM(bc:Array Go.Value)(b:Base)(r t:Int)(w:World)(hC:BaseC w bc b)(hl:b.Targets.length≤100000):Ret prog 202 #[.agg bc,vi r,vi t] w fun r0 w'=>r0=.tuple #[vi (Lc r t b.Targets).1.Value,.bool (Lc r t b.Targets).2]∧Up w w':=by
 have hW:=Up.refl w
 obtain⟨w0,rfl,_⟩:=W0 w
 obtain⟨v9,h9,hr9⟩:=hC.at9
 obtain⟨ad,cp,rfl,hE0⟩:=hr9
 refine cT 57 func202 rfl (Af (Ao (.bA rfl) rfl ?_))
 rintro _ w1 ⟨B3,rfl,NB3⟩
 replace hW:=hW.up NB3.up
 have hB3:=NB3.blk
 refine J (J (Ar (Aa (J (Ar (Af (J (LW.nil (Ab (Ap (A9 (σ:=Nat×Option Nat) (fun s w=>(s.1≤b.Targets.length)∧(TInv r t b.Targets s.1 s.2)∧(Up w0 w)∧(Blk w B3 bc 39)) (fun s=>[(9,.eq (vi (s.1:Int))),(8,.eq (vi (CD s.2)))]) ([(1,.eq _),(2,.eq _),(3,.eq _),(6,.eq _),(7,.eq _)]) (fun s=>b.Targets.length-s.1) (0,none) ?_ tQ ?_)))))))))))
 ·exact⟨ao _,rfl,hW,hB3⟩
 rintro⟨i,m⟩ w2 ⟨hi,hT,hW,hB3⟩
 change CW _ _ _ _ _ _ _ ([(9,.eq (vi (i:Int))),(8,.eq (vi (CD m)))]++_) _
 refine Al (Af (Ac rfl (I (.fB 9 rfl) (I (.lb rfl (hB3.cell h9)) (I (.Df k6 (.t rfl)) (I (.l2 rfl rfl) (Ai (CW.b rfl (fun h15=>?_) (fun h15=>?_)))))))))
 ·replace h15:=dQ h15
  refine Ak (Ab (Al (Ap (Al ?_))))
  obtain⟨x,hx⟩:=Av (xs:=b.Targets) (i:=i) oQ
  obtain⟨Bx,ox,ax,hcx⟩:=(Els.up hE0 hW) i x hx
  refine Aa (I (.fB 9 rfl) (I (.lb rfl (hB3.cell h9)) (Ac rfl (I (.Ay k6 k7 (.t rfl) (.t rfl) oQ ax) (I (.lc rfl (hcx)) (Ao (.Bi k_) rfl ?_))))))
  rintro _ w3 ⟨B10,rfl,MB10⟩
  refine Bh (.A5 k7 rfl (.t rfl) (.t rfl) eQ MB10.blk rfl) ?_
  intro w4 LB10
  have NB10:=MB10.set LB10
  replace hW:=hW.up NB10.up
  replace hB3:=hB3.up NB10.up
  have hB10:=NB10.blk
  refine Ar ?_
  cases hq6:decide (x.Recipe=r)with
  |false=>
   have hrc:=hq6
   have hno:∀s:Fact×Bool,s=Lc r t (b.Targets.take i)→(decide (x.Recipe=r)&&decide (x.Time≤t)&&(!s.2||decide (s.1.Time<x.Time)))=false:=fun s _=>by rw[hrc];rfl
   cases m with
   |none=>
    refine Cg kQ kQ rfl rfl (Am (.fB 14 rfl) (Am (.lb rfl (hB10.An rfl)) (Am (.mv rfl) (Am (.fa (PEv.eql (.t rfl) (.t rfl)) (hrc)) (Am (.mv rfl) (C0 (C0 (C0 (C0 (Am (.De (b:=false) (.t rfl) (fun hp=>absurd (show false=true from hp) cQ)) (Am (.mv rfl) (C0 (C0 (C0 (Cd rfl rfl rfl rfl rfl (Cd rfl rfl rfl rfl rfl (Cd rfl rfl rfl rfl rfl (Cd rfl rfl rfl rfl rfl (Cd rfl rfl rfl rfl rfl (Cd rfl rfl rfl rfl rfl (Cd rfl rfl rfl rfl rfl (Cd rfl rfl rfl rfl rfl (Cd rfl rfl rfl rfl rfl (C0 (Am (.De (b:=false) (.t rfl) (fun hp=>absurd (show false=true from hp) cQ)) (HW.nil ?_))))))))))))))))))))))))))
    intro w5 uw5
    replace hW:=hW.up uw5
    replace hB3:=hB3.up uw5
    replace hB10:=hB10.up uw5
    refine Ab (CW.f rfl (Ak (Ae (Ab (Aa (Ac rfl (I (.ic rfl oQ) (LW.A rfl (LW.nil (Aq ?_))))))))))
    exact⟨(i+1,none),⟨by show i+1≤_;omega,TInv.skip hT hx hno,hW,hB3⟩,tQ,by show b.Targets.length-(i+1)<b.Targets.length-i;omega⟩
   |some q=>
    obtain⟨y,hyq,hty⟩:=hT
    have hql:=(ai.1 hyq).1
    obtain⟨By,oy,ay,hcy⟩:=(Els.up hE0 hW) q y hyq
    refine Cg kQ kQ rfl rfl (Am (.fB 14 rfl) (Am (.lb rfl (hB10.An rfl)) (Am (.mv rfl) (Am (.fa (PEv.eql (.t rfl) (.t rfl)) (hrc)) (Am (.mv rfl) (C0 (C0 (C0 (C0 (Am (.De (b:=false) (.t rfl) (fun hp=>absurd (show false=true from hp) cQ)) (Am (.mv rfl) (C0 (C0 (C0 (Cd rfl rfl rfl rfl rfl (Cd rfl rfl rfl rfl rfl (Cd rfl rfl rfl rfl rfl (Cd rfl rfl rfl rfl rfl (Cd rfl rfl rfl rfl rfl (Cd rfl rfl rfl rfl rfl (Cd rfl rfl rfl rfl rfl (Cd rfl rfl rfl rfl rfl (Cd rfl rfl rfl rfl rfl (C0 (Am (.De (b:=false) (.t rfl) (fun hp=>absurd (show false=true from hp) cQ)) (HW.nil ?_))))))))))))))))))))))))))
    intro w6 uw6
    replace hW:=hW.up uw6
    replace hB3:=hB3.up uw6
    replace hB10:=hB10.up uw6
    refine Ab (CW.f rfl (Ak (Ae (Ab (Aa (Ac rfl (I (.ic rfl oQ) (LW.A rfl (LW.nil (Aq ?_))))))))))
    exact⟨(i+1,some q),⟨by show i+1≤_;omega,TInv.skip (m:=some q) ⟨y,hyq,hty⟩ hx hno,hW,hB3⟩,tQ,by show b.Targets.length-(i+1)<b.Targets.length-i;omega⟩
  |true=>
   have hrc:=hq6
   cases hq6:decide (x.Time≤t)with
   |false=>
    have htc:=hq6
    have hno:∀s:Fact×Bool,s=Lc r t (b.Targets.take i)→(decide (x.Recipe=r)&&decide (x.Time≤t)&&(!s.2||decide (s.1.Time<x.Time)))=false:=fun s _=>by rw[htc];simp
    cases m with
    |none=>
     refine Cg kQ kQ rfl rfl (Am (.fB 14 rfl) (Am (.lb rfl (hB10.An rfl)) (Am (.mv rfl) (Am (.tr (PEv.eql (.t rfl) (.t rfl)) (hrc)) (Am (.mv rfl) (A4 (.fB 5 rfl) (A4 (.lb rfl (hB10.An rfl)) (A4 (.mv rfl) (A4 (.fa (PEv.leq (.t rfl) (.t rfl)) (htc)) (Am (.pa rfl (fun hp=>(by exact .tmp rfl))) (Am (.mv rfl) (C0 (C0 (C0 (Cd rfl rfl rfl rfl rfl (Cd rfl rfl rfl rfl rfl (Cd rfl rfl rfl rfl rfl (Cd rfl rfl rfl rfl rfl (Cd rfl rfl rfl rfl rfl (Cd rfl rfl rfl rfl rfl (Cd rfl rfl rfl rfl rfl (Cd rfl rfl rfl rfl rfl (Cd rfl rfl rfl rfl rfl (C0 (Am (.De (b:=false) (.t rfl) (fun hp=>absurd (show false=true from hp) cQ)) (HW.nil ?_))))))))))))))))))))))))))
     intro w7 uw7
     replace hW:=hW.up uw7
     replace hB3:=hB3.up uw7
     replace hB10:=hB10.up uw7
     refine Ab (CW.f rfl (Ak (Ae (Ab (Aa (Ac rfl (I (.ic rfl oQ) (LW.A rfl (LW.nil (Aq ?_))))))))))
     exact⟨(i+1,none),⟨by show i+1≤_;omega,TInv.skip hT hx hno,hW,hB3⟩,tQ,by show b.Targets.length-(i+1)<b.Targets.length-i;omega⟩
    |some q=>
     obtain⟨y,hyq,hty⟩:=hT
     have hql:=(ai.1 hyq).1
     obtain⟨By,oy,ay,hcy⟩:=(Els.up hE0 hW) q y hyq
     refine Cg kQ kQ rfl rfl (Am (.fB 14 rfl) (Am (.lb rfl (hB10.An rfl)) (Am (.mv rfl) (Am (.tr (PEv.eql (.t rfl) (.t rfl)) (hrc)) (Am (.mv rfl) (A4 (.fB 5 rfl) (A4 (.lb rfl (hB10.An rfl)) (A4 (.mv rfl) (A4 (.fa (PEv.leq (.t rfl) (.t rfl)) (htc)) (Am (.pa rfl (fun hp=>(by exact .tmp rfl))) (Am (.mv rfl) (C0 (C0 (C0 (Cd rfl rfl rfl rfl rfl (Cd rfl rfl rfl rfl rfl (Cd rfl rfl rfl rfl rfl (Cd rfl rfl rfl rfl rfl (Cd rfl rfl rfl rfl rfl (Cd rfl rfl rfl rfl rfl (Cd rfl rfl rfl rfl rfl (Cd rfl rfl rfl rfl rfl (Cd rfl rfl rfl rfl rfl (C0 (Am (.De (b:=false) (.t rfl) (fun hp=>absurd (show false=true from hp) cQ)) (HW.nil ?_))))))))))))))))))))))))))
     intro w8 uw8
     replace hW:=hW.up uw8
     replace hB3:=hB3.up uw8
     replace hB10:=hB10.up uw8
     refine Ab (CW.f rfl (Ak (Ae (Ab (Aa (Ac rfl (I (.ic rfl oQ) (LW.A rfl (LW.nil (Aq ?_))))))))))
     exact⟨(i+1,some q),⟨by show i+1≤_;omega,TInv.skip (m:=some q) ⟨y,hyq,hty⟩ hx hno,hW,hB3⟩,tQ,by show b.Targets.length-(i+1)<b.Targets.length-i;omega⟩
   |true=>
    have htc:=hq6
    cases m with
    |none=>
     have hyes:∀s:Fact×Bool,s=Lc r t (b.Targets.take i)→(decide (x.Recipe=r)&&decide (x.Time≤t)&&(!s.2||decide (s.1.Time<x.Time)))=true:=fun s e=>by rw[e,show Lc r t (b.Targets.take i)=(Dc,false)from hT,hrc,htc];rfl
     refine Cg kQ kQ rfl rfl (Am (.fB 14 rfl) (Am (.lb rfl (hB10.An rfl)) (Am (.mv rfl) (Am (.tr (PEv.eql (.t rfl) (.t rfl)) (hrc)) (Am (.mv rfl) (A4 (.fB 5 rfl) (A4 (.lb rfl (hB10.An rfl)) (A4 (.mv rfl) (A4 (.tr (PEv.leq (.t rfl) (.t rfl)) (htc)) (Am (.pa rfl (fun hp=>(by exact .tmp rfl))) (Am (.mv rfl) (A4 (.mv rfl) (A4 (.tr (PEv.lss (.t rfl) (.const _)) (a8 cQ)) (A4 (.mv rfl) (C0 (C0 (C0 (C0 (C0 (C0 (C0 (C0 (C0 (A4 (.Ee (b:=false) (.t rfl) (fun hp=>absurd (show true=false from hp) cQ)) (Am (.pa rfl (fun hp=>(by exact .tmp rfl))) (HW.nil ?_))))))))))))))))))))))))))
     intro w9 uw9
     replace hW:=hW.up uw9
     replace hB3:=hB3.up uw9
     replace hB10:=hB10.up uw9
     refine Ab (CW.v rfl (Aa (Ac rfl (LW.A rfl (LW.nil (Ae (Ab (Aa (Ac rfl (I (.ic rfl oQ) (LW.A rfl (LW.nil (Aq ?_)))))))))))))
     exact⟨(i+1,some i),⟨by show i+1≤_;omega,TInv.put hx hyes,hW,hB3⟩,tQ,by show b.Targets.length-(i+1)<b.Targets.length-i;omega⟩
    |some q=>
     obtain⟨y,hyq,hty⟩:=hT
     have hql:=(ai.1 hyq).1
     obtain⟨By,oy,ay,hcy⟩:=(Els.up hE0 hW) q y hyq
     refine Cg kQ kQ rfl rfl (Am (.fB 14 rfl) (Am (.lb rfl (hB10.An rfl)) (Am (.mv rfl) (Am (.tr (PEv.eql (.t rfl) (.t rfl)) (hrc)) (Am (.mv rfl) (A4 (.fB 5 rfl) (A4 (.lb rfl (hB10.An rfl)) (A4 (.mv rfl) (A4 (.tr (PEv.leq (.t rfl) (.t rfl)) (htc)) (Am (.pa rfl (fun hp=>(by exact .tmp rfl))) (Am (.mv rfl) (A4 (.mv rfl) (A4 (.fa (PEv.lss (.t rfl) (.const _)) (bg (by show ¬((q:Int)<0);omega))) (A4 (.mv rfl) (A4 (.fB 5 rfl) (A4 (.lb rfl (hB10.An rfl)) (A4 (.fB 9 rfl) (A4 (.lb rfl (hB3.cell h9)) (A4 (.mv rfl) (A4 (.Ay k6 k7 (.t rfl) (.t rfl) oQ ay) (A4 (.fB 5 rfl) (A4 (.lb rfl (hcy.nth (j:=5) rfl)) (A4 (.gtr (.t rfl) (.t rfl)) (A4 (.po rfl (fun hp=>(by exact .tmp rfl))) (Am (.pa rfl (fun hp=>(by exact .tmp rfl))) (HW.nil ?_))))))))))))))))))))))))))
     intro w10 uw10
     replace hW:=hW.up uw10
     replace hB3:=hB3.up uw10
     replace hB10:=hB10.up uw10
     refine Ab (CW.b rfl (fun h47=>?_) (fun h47=>?_))
     ·replace h47:=dQ h47
      have hyes:∀s:Fact×Bool,s=Lc r t (b.Targets.take i)→(decide (x.Recipe=r)&&decide (x.Time≤t)&&(!s.2||decide (s.1.Time<x.Time)))=true:=fun s e=>by rw[e,hty,hrc,htc];simpa using h47
      refine Aa (Ac rfl (LW.A rfl (LW.nil (Ae (Ab (Aa (Ac rfl (I (.ic rfl oQ) (LW.A rfl (LW.nil (Aq ?_)))))))))))
      exact⟨(i+1,some i),⟨by show i+1≤_;omega,TInv.put hx hyes,hW,hB3⟩,tQ,by show b.Targets.length-(i+1)<b.Targets.length-i;omega⟩
     replace h47:=dQ h47
     have hno:∀s:Fact×Bool,s=Lc r t (b.Targets.take i)→(decide (x.Recipe=r)&&decide (x.Time≤t)&&(!s.2||decide (s.1.Time<x.Time)))=false:=fun s e=>by rw[e,hty,hrc,htc];simpa using h47
     refine Ak (Ae (Ab (Aa (Ac rfl (I (.ic rfl oQ) (LW.A rfl (LW.nil (Aq ?_))))))))
     exact⟨(i+1,some q),⟨by show i+1≤_;omega,TInv.skip (m:=some q) ⟨y,hyq,hty⟩ hx hno,hW,hB3⟩,tQ,by show b.Targets.length-(i+1)<b.Targets.length-i;omega⟩
 replace h15:=dQ h15
 have hie:i=b.Targets.length:=by omega
 rw[hie]at hT
 unfold TInv at hT
 rw[br]at hT
 refine A7 (Ad (Ad (Au (Ab (Al (Al ?_))))))
 cases m with
 |none=>
  refine Aa (Ac rfl (I (.tr (PEv.lss (.t rfl) (.const _)) (a8 cQ)) (Ai (CW.v rfl (Af (J (J (Ai (Aj (Ah (Br rfl rfl rfl ⟨_,rfl,?_⟩)))))))))))
  (rw[hT];exact⟨rfl,hW⟩)
 |some q=>
  obtain⟨y,hyq,hty⟩:=hT
  have hql:=(ai.1 hyq).1
  obtain⟨By,oy,ay,hcy⟩:=(Els.up hE0 hW) q y hyq
  refine Aa (Ac rfl (I (.fa (PEv.lss (.t rfl) (.const _)) (bg (by show ¬((q:Int)<0);omega))) (Ai (CW.f rfl (Ak (Ab (Af (I (.fB 9 rfl) (I (.lb rfl (hB3.cell h9)) (Ac rfl (I (.Ay k6 k7 (.t rfl) (.t rfl) oQ ay) (I (.fB 16 rfl) (I (.lb rfl (hcy.nth (j:=16) rfl)) (LW.A rfl (J (Ai (Aj (Br rfl rfl rfl ⟨_,rfl,?_⟩))))))))))))))))))
  (rw[hty];exact⟨rfl,hW⟩)
set_option maxHeartbeats 4000000 in
theorem nX(bc:Array Go.Value)(b:Base)(t c:Int)(w:World)(hC:BaseC w bc b)(hl:b.Processes.length≤100000):Ret prog 156 #[.agg bc,vi t,vi c] w fun r w'=>OwnS w' 0 51 19 Fact.cells r (G6 b t c)∧Up w w':=by
 have hW:=Up.refl w
 obtain⟨w0,rfl,_⟩:=W0 w
 obtain⟨v0,h0,hr0⟩:=hC.CO
 obtain⟨ad,cp,rfl,hE0⟩:=hr0
 refine cT 84 func156 rfl (Af (Ao (.bA rfl) rfl ?_))
 rintro _ w1 ⟨B3,rfl,NB3⟩
 replace hW:=hW.up NB3.up
 have hB3:=NB3.blk
 refine J (Ar (Aa (J (Ar (Af (J (Ai (Ap (A9 (σ:=Nat×Go.Value) (fun s w=>(s.1≤b.Processes.length)∧(Up w0 w)∧(Blk w B3 bc 39)∧(OwnS w 0 51 19 Fact.cells s.2 (D6 b.Processes t c s.1))) (fun s=>[(8,.eq (vi (s.1:Int))),(7,.eq (s.2))]) ([(1,.eq _),(2,.eq _),(3,.eq _),(6,.eq _)]) (fun s=>b.Processes.length-s.1) (0,.slice none 0 0) ?_ tQ ?_)))))))))
 ·exact⟨ao _,hW,hB3,OwnS.nil _ _ _ _ _⟩
 rintro⟨i,v⟩ w2 ⟨hi,hW,hB3,hO⟩
 dsimp only at hi hO
 change CW _ _ _ _ _ _ _ ([(8,.eq (vi (i:Int))),(7,.eq (v))]++_) _
 refine Al (Af (Ac rfl (I (.fB 0 rfl) (I (.lb rfl (hB3.cell h0)) (I (.Df k6 (.t rfl)) (I (.l2 rfl rfl) (Ai (CW.b rfl (fun h15=>?_) (fun h15=>?_)))))))))
 ·replace h15:=dQ h15
  refine Ak (Ab (Al (Ap (Al ?_))))
  obtain⟨f,hf⟩:=Av (xs:=b.Processes) (i:=i) oQ
  obtain⟨Bx,ox,ax,hcx⟩:=(Els.up hE0 hW) i f hf
  refine Aa (I (.fB 0 rfl) (I (.lb rfl (hB3.cell h0)) (Ac rfl (I (.Ay k6 k7 (.t rfl) (.t rfl) oQ ax) (I (.lc rfl (hcx)) (Ao (.Bi k_) rfl ?_))))))
  rintro _ w3 ⟨B9,rfl,MB9⟩
  refine Bh (.A5 k7 rfl (.t rfl) (.t rfl) eQ MB9.blk rfl) ?_
  intro w4 LB9
  have NB9:=MB9.set LB9
  replace hW:=hW.up NB9.up
  replace hB3:=hB3.up NB9.up
  replace hO:=hO.up NB9.up
  have hB9:=NB9.blk
  refine Ar (Af (I (.fB 11 rfl) (I (.lb rfl (hB9.An rfl)) (Ac rfl (I (.neq (.t rfl) (.t rfl)) (Ac rfl (LW.gr rfl (fun hc=>PEv.fB 12 rfl) (LW.gr rfl (fun hc=>PEv.load ly vQ (hB9.An rfl)) (Dk rfl rfl (LW.gr rfl (fun hc=>PEv.neq vQ vQ) (I (.po rfl (fun hp=>(by exact .cond rfl (by simp_all)))) (Ai (CW.b rfl (fun h32=>?_) (fun h32=>?_))))))))))))))
  ·replace h32:=dQ h32
   have hrn:I3 t c f=false:=by unfold I3;rw[←jo];simp at h32⊢;omega
   refine A7 (Ad (Au (Ab (Aa (Ac rfl (I (.ic rfl oQ) (LW.A rfl (LW.nil (Aq ?_)))))))))
   exact⟨(i+1,v),⟨by show i+1≤_;omega,hW,hB3,by show OwnS _ _ _ _ _ v _;rw[yV hf hrn];exact hO⟩,tQ,by show b.Processes.length-(i+1)<b.Processes.length-i;omega⟩
  replace h32:=dQ h32
  have hrp:I3 t c f=true:=by unfold I3;simp at h32⊢;omega
  refine Ak (Ab (Al ?_))
  obtain⟨adv,cpv,rfl,hEv⟩:=hO.sl (fun _=>rfl)
  have hrl:=sX b.Processes t c i
  have hcp:=Gi hO
  refine Aa (Ac rfl (I (.Df k6 (.t rfl)) (LW.A rfl (Ar (Ap (A9 (σ:=Nat) (fun s w=>(s≤(D6 b.Processes t c i).length)∧(∀y∈(D6 b.Processes t c i).drop s,Gh (runK f) (runK y)=true)∧(Up w0 w)∧(Blk w B3 bc 39)∧(Els w adv 19 Fact.cells (D6 b.Processes t c i))∧(Blk w B9 f.cells 51)) (fun s=>[(10,.eq (vi (s:Int)))]) ([(1,.eq _),(2,.eq _),(3,.eq _),(6,.eq _),(7,.eq _),(8,.eq _),(9,.eq _)]) (fun s=>s) (D6 b.Processes t c i).length ?_ tQ ?_))))))
  ·exact⟨av _,(fun y hy=>by rw[j_]at hy;cases hy),hW,hB3,hEv,hB9⟩
  rintro k w5 ⟨hk,hd,hW,hB3,hEv,hB9⟩
  refine Al (Al ?_)
  cases hq8:decide (0<k)with
  |false=>
   have hk0:=db hq8
   refine Cg kQ kQ rfl rfl (Am (.mv rfl) (Am (.fa (PEv.gtr (.t rfl) (.const _)) (bg oQ)) (Am (.mv rfl) (C0 (C0 (C0 (C0 (C0 (C0 (C0 (C0 (C0 (C0 (Cd rfl rfl rfl rfl rfl (Cd rfl rfl rfl rfl rfl (Cd rfl rfl rfl rfl rfl (Cd rfl rfl rfl rfl rfl (Cd rfl rfl rfl rfl rfl (Cd rfl rfl rfl rfl rfl (Cd rfl rfl rfl rfl rfl (Cd rfl rfl rfl rfl rfl (Cd rfl rfl rfl rfl rfl (Cd rfl rfl rfl rfl rfl (Cd rfl rfl rfl rfl rfl (Cd rfl rfl rfl rfl rfl (Cd rfl rfl rfl rfl rfl (Cd rfl rfl rfl rfl rfl (Cd rfl rfl rfl rfl rfl (Cd rfl rfl rfl rfl rfl (Cd rfl rfl rfl rfl rfl (Cd rfl rfl rfl rfl rfl (Cd rfl rfl rfl rfl rfl (Cd rfl rfl rfl rfl rfl (C0 (Am (.De (b:=false) (.t rfl) (fun hp=>absurd (show false=true from hp) cQ)) (HW.nil ?_))))))))))))))))))))))))))))))))))))
   intro w6 uw6
   replace hW:=hW.up uw6
   replace hB3:=hB3.up uw6
   replace hEv:=hEv.up uw6
   replace hB9:=hB9.up uw6
   refine Ab (CW.f rfl (A7 (Ad (Ad (Au (Ab ?_))))))
   have hput:Ve (D6 b.Processes t c i) f k:=⟨hk,hd,by exact .inl oQ⟩
   refine Eo 11 [.eq (.slice adv (D6 b.Processes t c i).length cpv),.eq (vi (k:Int)),.eq (vi (k:Int)),.eq (.slice adv ((D6 b.Processes t c i).take k).length ((D6 b.Processes t c i).take k).length),.eq (.agg f.cells),.pred fun v W=>∃B,v=.slice (some ⟨B,0,none⟩) [f].length [f].length∧Els W (some ⟨B,0,none⟩) 19 Fact.cells [f],.eq (.slice adv (D6 b.Processes t c i).length cpv),.eq (vi (k:Int)),.eq (.slice (if cpv=k then adv else adv.map (·.add (k*19))) ((D6 b.Processes t c i).length-k) (cpv-k)),.pred fun v W=>Sl W v 19 Fact.cells ([f]++((D6 b.Processes t c i).drop k)),.pred fun v W=>OwnS W 0 51 19 Fact.cells v (Cs (D6 b.Processes t c i) f k)] [82] kQ rfl kQ kQ kQ kQ kQ kQ kQ ⟨nm,nm,nm,nm,nm,PhU.pred fun _ _ _ h u=>let⟨B,e,hE⟩:=h;⟨B,e,hE.up u⟩,nm,nm,nm,PhU.pred fun _ _ _ h u=>Sl.up h u,PhU.pred fun _ _ _ h u=>OwnS.up h u,trivial⟩ ?_ ?_
   ·intro W hU0
    have hU:=(Up.drew w6).trans hU0
    have hEW:=hEv.up hU
    have hlk:((D6 b.Processes t c i).take k).length=k:=by rw[bu];omega
    refine aC ⟨rfl,TU.p (.mv rfl) rfl⟩ (aC ⟨rfl,TU.p (.mv rfl) rfl⟩ (aC ⟨rfl,TU.p (.mv rfl) rfl⟩ (aC ⟨rfl,TU.p (.val (v':=.slice adv ((D6 b.Processes t c i).take k).length ((D6 b.Processes t c i).take k).length) (J3 k6 k7 (.t rfl) (.t rfl) (.t rfl) oQ) (by rw[hlk])) rfl⟩ (aC ⟨rfl,TU.p (.lc rfl ((hB9.up hU).agg)) rfl⟩ (aC ⟨rfl,TU.r (REv.buildSlice (xs:=[f]) (enc:=Fact.cells) (mk:=fun f:Fact=>.agg f.cells) k6 k7 k_ rfl bQ (fun _=>rfl) (fun _=>rfl) (.cu rfl) rfl) (fun v W' h=>let⟨B,cs,e,N,_,hE1⟩:=h;⟨N.up,B,e,hE1⟩)⟩ (aC ⟨rfl,TU.p (.mv rfl) rfl⟩ (aC ⟨rfl,TU.p (.mv rfl) rfl⟩ (aC ⟨rfl,TU.p (.sliceFrom k6 k7 (.t rfl) (.t rfl) oQ) rfl⟩ (aC ⟨rfl,TU.open (d:=77) rfl fun v hv=>by obtain⟨B,rfl,hE5⟩:=hv;exact TU.r (Fh (enc:=Fact.cells) (k:=19) (bytes:=160) (i:=Tryz.t51) (xs:=[f]) (ys:=((D6 b.Processes t c i).drop k)) k6 kQ rfl rfl rfl rfl cQ (fun _=>rfl) (.t rfl) (.t rfl) hE5 (Els.drop hEW hcp) (by simp[maxLen];omega) (by simp;omega)) (fun _ _ h=>⟨h.1,h.2.1⟩)⟩ (aC ⟨rfl,TU.open (d:=81) rfl fun v hv=>TU.r (Fh (enc:=Fact.cells) (k:=19) (bytes:=160) (i:=Tryz.t51) (xs:=((D6 b.Processes t c i).take k)) (ys:=([f]++((D6 b.Processes t c i).drop k))) k6 kQ rfl rfl rfl rfl cQ (fun _=>rfl) (.t rfl) (.t rfl) (Els.take hEW) hv (by simp[maxLen];omega) (by simp;omega)) (fun _ _ h=>⟨h.1,(h.2.2 (by simp)).mono (ao _)⟩)⟩ ?_))))))))))
    exact allL.nil
   intro w7 g hU0 hg
   have hU:=(Up.drew w6).trans hU0
   replace hW:=hW.up hU
   replace hB3:=hB3.up hU
   replace hEv:=hEv.up hU
   replace hB9:=hB9.up hU
   have hO:OwnS w7 0 51 19 Fact.cells (g 82) (Cs (D6 b.Processes t c i) f k):=hg 10 _ 82 cQ rfl rfl
   refine LW.A rfl (LW.nil (Ae (Ab (Aa (Ac rfl (I (.ic rfl oQ) (LW.A rfl (LW.nil (Aq ?_)))))))))
   exact⟨(i+1,g 82),⟨by show i+1≤_;omega,hW,hB3,by show OwnS _ _ _ _ _ (g 82) _;rw[Vf hf hrp hput];exact hO⟩,tQ,by show b.Processes.length-(i+1)<b.Processes.length-i;omega⟩
  |true=>
   have hk0:=bj hq8
   obtain⟨y,hy⟩:=Av (xs:=(D6 b.Processes t c i)) (i:=k-1) oQ
   obtain⟨By,oy,ay,hcy⟩:=hEv (k-1) y hy
   cases hq8:decide (f.Time<y.Time)with
   |true=>
    have ht1:=hq8
    have hlt:Gh (runK f) (runK y)=true:=by rw[Tm,ht1];rfl
    refine Cg kQ kQ rfl rfl (Am (.mv rfl) (Am (.tr (PEv.gtr (.t rfl) (.const _)) (a8 oQ)) (Am (.mv rfl) (A4 (.fB 5 rfl) (A4 (.lb rfl (hB9.An rfl)) (A4 (.mv rfl) (A4 (.mv rfl) (A4 (.dec (.t rfl) oQ oQ) (A4 (.Ay k6 k7 (.t rfl) (.t rfl) oQ ay) (A4 (.fB 5 rfl) (A4 (.lb rfl (hcy.nth (j:=5) rfl)) (A4 (.tr (PEv.l2 rfl rfl) (ht1)) (A4 (.mv rfl) (C0 (C0 (C0 (C0 (C0 (C0 (C0 (C0 (C0 (C0 (Cd rfl rfl rfl rfl rfl (Cd rfl rfl rfl rfl rfl (Cd rfl rfl rfl rfl rfl (Cd rfl rfl rfl rfl rfl (Cd rfl rfl rfl rfl rfl (Cd rfl rfl rfl rfl rfl (Cd rfl rfl rfl rfl rfl (Cd rfl rfl rfl rfl rfl (Cd rfl rfl rfl rfl rfl (C0 (A4 (.Ee (b:=false) (.t rfl) (fun hp=>absurd (show true=false from hp) cQ)) (Am (.pa rfl (fun hp=>(by exact .tmp rfl))) (HW.nil ?_))))))))))))))))))))))))))))))))))))
    intro w8 uw8
    replace hW:=hW.up uw8
    replace hB3:=hB3.up uw8
    replace hEv:=hEv.up uw8
    replace hB9:=hB9.up uw8
    refine Ab (CW.v rfl (Ak (Ab (Ap (Aa (Ac rfl (I (.dec (.t rfl) oQ oQ) (LW.A rfl (LW.nil (Ae (Aq ?_)))))))))))
    exact⟨k-1,⟨by omega,(fun z hz=>by rw[ce oQ,show k-1+1=k by omega]at hz;exact(ap.1 hz).elim (fun h=>by rw[h,(ai.1 hy).2];exact hlt) (fun h=>hd z h)),hW,hB3,hEv,hB9⟩,tQ,by omega⟩
   |false=>
    have ht1:=hq8
    cases hq8:decide (f.Time=y.Time)with
    |false=>
     have ht2:=hq8
     have hnl:Gh (runK f) (runK y)=false:=by rw[Tm,ht1,ht2];rfl
     refine Cg kQ kQ rfl rfl (Am (.mv rfl) (Am (.tr (PEv.gtr (.t rfl) (.const _)) (a8 oQ)) (Am (.mv rfl) (A4 (.fB 5 rfl) (A4 (.lb rfl (hB9.An rfl)) (A4 (.mv rfl) (A4 (.mv rfl) (A4 (.dec (.t rfl) oQ oQ) (A4 (.Ay k6 k7 (.t rfl) (.t rfl) oQ ay) (A4 (.fB 5 rfl) (A4 (.lb rfl (hcy.nth (j:=5) rfl)) (A4 (.fa (PEv.l2 rfl rfl) (ht1)) (A4 (.mv rfl) (A4 (.fB 5 rfl) (A4 (.lb rfl (hB9.An rfl)) (A4 (.mv rfl) (A4 (.mv rfl) (A4 (.dec (.t rfl) oQ oQ) (A4 (.Ay k6 k7 (.t rfl) (.t rfl) oQ ay) (A4 (.fB 5 rfl) (A4 (.lb rfl (hcy.nth (j:=5) rfl)) (A4 (.fa (PEv.eql (.t rfl) (.t rfl)) (ht2)) (A4 (.mv rfl) (C0 (C0 (C0 (C0 (C0 (C0 (C0 (C0 (C0 (A4 (.De (b:=false) (.t rfl) (fun hp=>absurd (show false=true from hp) cQ)) (A4 (.po rfl (fun hp=>(by exact .tmp rfl))) (Am (.pa rfl (fun hp=>(by exact .tmp rfl))) (HW.nil ?_))))))))))))))))))))))))))))))))))))
     intro w9 uw9
     replace hW:=hW.up uw9
     replace hB3:=hB3.up uw9
     replace hEv:=hEv.up uw9
     replace hB9:=hB9.up uw9
     refine Ab (CW.f rfl (A7 (Ad (Ad (Au (Ab ?_))))))
     have hput:Ve (D6 b.Processes t c i) f k:=⟨hk,hd,by exact .inr ⟨y,hy,hnl⟩⟩
     refine Eo 11 [.eq (.slice adv (D6 b.Processes t c i).length cpv),.eq (vi (k:Int)),.eq (vi (k:Int)),.eq (.slice adv ((D6 b.Processes t c i).take k).length ((D6 b.Processes t c i).take k).length),.eq (.agg f.cells),.pred fun v W=>∃B,v=.slice (some ⟨B,0,none⟩) [f].length [f].length∧Els W (some ⟨B,0,none⟩) 19 Fact.cells [f],.eq (.slice adv (D6 b.Processes t c i).length cpv),.eq (vi (k:Int)),.eq (.slice (if cpv=k then adv else adv.map (·.add (k*19))) ((D6 b.Processes t c i).length-k) (cpv-k)),.pred fun v W=>Sl W v 19 Fact.cells ([f]++((D6 b.Processes t c i).drop k)),.pred fun v W=>OwnS W 0 51 19 Fact.cells v (Cs (D6 b.Processes t c i) f k)] [82] kQ rfl kQ kQ kQ kQ kQ kQ kQ ⟨nm,nm,nm,nm,nm,PhU.pred fun _ _ _ h u=>let⟨B,e,hE⟩:=h;⟨B,e,hE.up u⟩,nm,nm,nm,PhU.pred fun _ _ _ h u=>Sl.up h u,PhU.pred fun _ _ _ h u=>OwnS.up h u,trivial⟩ ?_ ?_
     ·intro W hU0
      have hU:=(Up.drew w9).trans hU0
      have hEW:=hEv.up hU
      have hlk:((D6 b.Processes t c i).take k).length=k:=by rw[bu];omega
      refine aC ⟨rfl,TU.p (.mv rfl) rfl⟩ (aC ⟨rfl,TU.p (.mv rfl) rfl⟩ (aC ⟨rfl,TU.p (.mv rfl) rfl⟩ (aC ⟨rfl,TU.p (.val (v':=.slice adv ((D6 b.Processes t c i).take k).length ((D6 b.Processes t c i).take k).length) (J3 k6 k7 (.t rfl) (.t rfl) (.t rfl) oQ) (by rw[hlk])) rfl⟩ (aC ⟨rfl,TU.p (.lc rfl ((hB9.up hU).agg)) rfl⟩ (aC ⟨rfl,TU.r (REv.buildSlice (xs:=[f]) (enc:=Fact.cells) (mk:=fun f:Fact=>.agg f.cells) k6 k7 k_ rfl bQ (fun _=>rfl) (fun _=>rfl) (.cu rfl) rfl) (fun v W' h=>let⟨B,cs,e,N,_,hE1⟩:=h;⟨N.up,B,e,hE1⟩)⟩ (aC ⟨rfl,TU.p (.mv rfl) rfl⟩ (aC ⟨rfl,TU.p (.mv rfl) rfl⟩ (aC ⟨rfl,TU.p (.sliceFrom k6 k7 (.t rfl) (.t rfl) oQ) rfl⟩ (aC ⟨rfl,TU.open (d:=77) rfl fun v hv=>by obtain⟨B,rfl,hE5⟩:=hv;exact TU.r (Fh (enc:=Fact.cells) (k:=19) (bytes:=160) (i:=Tryz.t51) (xs:=[f]) (ys:=((D6 b.Processes t c i).drop k)) k6 kQ rfl rfl rfl rfl cQ (fun _=>rfl) (.t rfl) (.t rfl) hE5 (Els.drop hEW hcp) (by simp[maxLen];omega) (by simp;omega)) (fun _ _ h=>⟨h.1,h.2.1⟩)⟩ (aC ⟨rfl,TU.open (d:=81) rfl fun v hv=>TU.r (Fh (enc:=Fact.cells) (k:=19) (bytes:=160) (i:=Tryz.t51) (xs:=((D6 b.Processes t c i).take k)) (ys:=([f]++((D6 b.Processes t c i).drop k))) k6 kQ rfl rfl rfl rfl cQ (fun _=>rfl) (.t rfl) (.t rfl) (Els.take hEW) hv (by simp[maxLen];omega) (by simp;omega)) (fun _ _ h=>⟨h.1,(h.2.2 (by simp)).mono (ao _)⟩)⟩ ?_))))))))))
      exact allL.nil
     intro w10 g hU0 hg
     have hU:=(Up.drew w9).trans hU0
     replace hW:=hW.up hU
     replace hB3:=hB3.up hU
     replace hEv:=hEv.up hU
     replace hB9:=hB9.up hU
     have hO:OwnS w10 0 51 19 Fact.cells (g 82) (Cs (D6 b.Processes t c i) f k):=hg 10 _ 82 cQ rfl rfl
     refine LW.A rfl (LW.nil (Ae (Ab (Aa (Ac rfl (I (.ic rfl oQ) (LW.A rfl (LW.nil (Aq ?_)))))))))
     exact⟨(i+1,g 82),⟨by show i+1≤_;omega,hW,hB3,by show OwnS _ _ _ _ _ (g 82) _;rw[Vf hf hrp hput];exact hO⟩,tQ,by show b.Processes.length-(i+1)<b.Processes.length-i;omega⟩
    |true=>
     have ht2:=hq8
     cases hq8:decide (f.ID<y.ID)with
     |true=>
      have ht3:=hq8
      have hlt:Gh (runK f) (runK y)=true:=by rw[Tm,ht1,ht2,ht3];rfl
      refine Cg kQ kQ rfl rfl (Am (.mv rfl) (Am (.tr (PEv.gtr (.t rfl) (.const _)) (a8 oQ)) (Am (.mv rfl) (A4 (.fB 5 rfl) (A4 (.lb rfl (hB9.An rfl)) (A4 (.mv rfl) (A4 (.mv rfl) (A4 (.dec (.t rfl) oQ oQ) (A4 (.Ay k6 k7 (.t rfl) (.t rfl) oQ ay) (A4 (.fB 5 rfl) (A4 (.lb rfl (hcy.nth (j:=5) rfl)) (A4 (.fa (PEv.l2 rfl rfl) (ht1)) (A4 (.mv rfl) (A4 (.fB 5 rfl) (A4 (.lb rfl (hB9.An rfl)) (A4 (.mv rfl) (A4 (.mv rfl) (A4 (.dec (.t rfl) oQ oQ) (A4 (.Ay k6 k7 (.t rfl) (.t rfl) oQ ay) (A4 (.fB 5 rfl) (A4 (.lb rfl (hcy.nth (j:=5) rfl)) (A4 (.tr (PEv.eql (.t rfl) (.t rfl)) (ht2)) (A4 (.mv rfl) (A4 (.fB 1 rfl) (A4 (.lb rfl (hB9.An rfl)) (A4 (.mv rfl) (A4 (.mv rfl) (A4 (.dec (.t rfl) oQ oQ) (A4 (.Ay k6 k7 (.t rfl) (.t rfl) oQ ay) (A4 (.fB 1 rfl) (A4 (.lb rfl (hcy.nth (j:=1) rfl)) (A4 (.tr (PEv.l2 rfl rfl) (ht3)) (A4 (.pa rfl (fun hp=>(by exact .tmp rfl))) (A4 (.po rfl (fun hp=>(by exact .tmp rfl))) (Am (.pa rfl (fun hp=>(by exact .tmp rfl))) (HW.nil ?_))))))))))))))))))))))))))))))))))))
      intro w11 uw11
      replace hW:=hW.up uw11
      replace hB3:=hB3.up uw11
      replace hEv:=hEv.up uw11
      replace hB9:=hB9.up uw11
      refine Ab (CW.v rfl (Ak (Ab (Ap (Aa (Ac rfl (I (.dec (.t rfl) oQ oQ) (LW.A rfl (LW.nil (Ae (Aq ?_)))))))))))
      exact⟨k-1,⟨by omega,(fun z hz=>by rw[ce oQ,show k-1+1=k by omega]at hz;exact(ap.1 hz).elim (fun h=>by rw[h,(ai.1 hy).2];exact hlt) (fun h=>hd z h)),hW,hB3,hEv,hB9⟩,tQ,by omega⟩
     |false=>
      have ht3:=hq8
      have hnl:Gh (runK f) (runK y)=false:=by rw[Tm,ht1,ht2,ht3];rfl
      refine Cg kQ kQ rfl rfl (Am (.mv rfl) (Am (.tr (PEv.gtr (.t rfl) (.const _)) (a8 oQ)) (Am (.mv rfl) (A4 (.fB 5 rfl) (A4 (.lb rfl (hB9.An rfl)) (A4 (.mv rfl) (A4 (.mv rfl) (A4 (.dec (.t rfl) oQ oQ) (A4 (.Ay k6 k7 (.t rfl) (.t rfl) oQ ay) (A4 (.fB 5 rfl) (A4 (.lb rfl (hcy.nth (j:=5) rfl)) (A4 (.fa (PEv.l2 rfl rfl) (ht1)) (A4 (.mv rfl) (A4 (.fB 5 rfl) (A4 (.lb rfl (hB9.An rfl)) (A4 (.mv rfl) (A4 (.mv rfl) (A4 (.dec (.t rfl) oQ oQ) (A4 (.Ay k6 k7 (.t rfl) (.t rfl) oQ ay) (A4 (.fB 5 rfl) (A4 (.lb rfl (hcy.nth (j:=5) rfl)) (A4 (.tr (PEv.eql (.t rfl) (.t rfl)) (ht2)) (A4 (.mv rfl) (A4 (.fB 1 rfl) (A4 (.lb rfl (hB9.An rfl)) (A4 (.mv rfl) (A4 (.mv rfl) (A4 (.dec (.t rfl) oQ oQ) (A4 (.Ay k6 k7 (.t rfl) (.t rfl) oQ ay) (A4 (.fB 1 rfl) (A4 (.lb rfl (hcy.nth (j:=1) rfl)) (A4 (.fa (PEv.l2 rfl rfl) (ht3)) (A4 (.pa rfl (fun hp=>(by exact .tmp rfl))) (A4 (.po rfl (fun hp=>(by exact .tmp rfl))) (Am (.pa rfl (fun hp=>(by exact .tmp rfl))) (HW.nil ?_))))))))))))))))))))))))))))))))))))
      intro w12 uw12
      replace hW:=hW.up uw12
      replace hB3:=hB3.up uw12
      replace hEv:=hEv.up uw12
      replace hB9:=hB9.up uw12
      refine Ab (CW.f rfl (A7 (Ad (Ad (Au (Ab ?_))))))
      have hput:Ve (D6 b.Processes t c i) f k:=⟨hk,hd,by exact .inr ⟨y,hy,hnl⟩⟩
      refine Eo 11 [.eq (.slice adv (D6 b.Processes t c i).length cpv),.eq (vi (k:Int)),.eq (vi (k:Int)),.eq (.slice adv ((D6 b.Processes t c i).take k).length ((D6 b.Processes t c i).take k).length),.eq (.agg f.cells),.pred fun v W=>∃B,v=.slice (some ⟨B,0,none⟩) [f].length [f].length∧Els W (some ⟨B,0,none⟩) 19 Fact.cells [f],.eq (.slice adv (D6 b.Processes t c i).length cpv),.eq (vi (k:Int)),.eq (.slice (if cpv=k then adv else adv.map (·.add (k*19))) ((D6 b.Processes t c i).length-k) (cpv-k)),.pred fun v W=>Sl W v 19 Fact.cells ([f]++((D6 b.Processes t c i).drop k)),.pred fun v W=>OwnS W 0 51 19 Fact.cells v (Cs (D6 b.Processes t c i) f k)] [82] kQ rfl kQ kQ kQ kQ kQ kQ kQ ⟨nm,nm,nm,nm,nm,PhU.pred fun _ _ _ h u=>let⟨B,e,hE⟩:=h;⟨B,e,hE.up u⟩,nm,nm,nm,PhU.pred fun _ _ _ h u=>Sl.up h u,PhU.pred fun _ _ _ h u=>OwnS.up h u,trivial⟩ ?_ ?_
      ·intro W hU0
       have hU:=(Up.drew w12).trans hU0
       have hEW:=hEv.up hU
       have hlk:((D6 b.Processes t c i).take k).length=k:=by rw[bu];omega
       refine aC ⟨rfl,TU.p (.mv rfl) rfl⟩ (aC ⟨rfl,TU.p (.mv rfl) rfl⟩ (aC ⟨rfl,TU.p (.mv rfl) rfl⟩ (aC ⟨rfl,TU.p (.val (v':=.slice adv ((D6 b.Processes t c i).take k).length ((D6 b.Processes t c i).take k).length) (J3 k6 k7 (.t rfl) (.t rfl) (.t rfl) oQ) (by rw[hlk])) rfl⟩ (aC ⟨rfl,TU.p (.lc rfl ((hB9.up hU).agg)) rfl⟩ (aC ⟨rfl,TU.r (REv.buildSlice (xs:=[f]) (enc:=Fact.cells) (mk:=fun f:Fact=>.agg f.cells) k6 k7 k_ rfl bQ (fun _=>rfl) (fun _=>rfl) (.cu rfl) rfl) (fun v W' h=>let⟨B,cs,e,N,_,hE1⟩:=h;⟨N.up,B,e,hE1⟩)⟩ (aC ⟨rfl,TU.p (.mv rfl) rfl⟩ (aC ⟨rfl,TU.p (.mv rfl) rfl⟩ (aC ⟨rfl,TU.p (.sliceFrom k6 k7 (.t rfl) (.t rfl) oQ) rfl⟩ (aC ⟨rfl,TU.open (d:=77) rfl fun v hv=>by obtain⟨B,rfl,hE5⟩:=hv;exact TU.r (Fh (enc:=Fact.cells) (k:=19) (bytes:=160) (i:=Tryz.t51) (xs:=[f]) (ys:=((D6 b.Processes t c i).drop k)) k6 kQ rfl rfl rfl rfl cQ (fun _=>rfl) (.t rfl) (.t rfl) hE5 (Els.drop hEW hcp) (by simp[maxLen];omega) (by simp;omega)) (fun _ _ h=>⟨h.1,h.2.1⟩)⟩ (aC ⟨rfl,TU.open (d:=81) rfl fun v hv=>TU.r (Fh (enc:=Fact.cells) (k:=19) (bytes:=160) (i:=Tryz.t51) (xs:=((D6 b.Processes t c i).take k)) (ys:=([f]++((D6 b.Processes t c i).drop k))) k6 kQ rfl rfl rfl rfl cQ (fun _=>rfl) (.t rfl) (.t rfl) (Els.take hEW) hv (by simp[maxLen];omega) (by simp;omega)) (fun _ _ h=>⟨h.1,(h.2.2 (by simp)).mono (ao _)⟩)⟩ ?_))))))))))
       exact allL.nil
      intro w13 g hU0 hg
      have hU:=(Up.drew w12).trans hU0
      replace hW:=hW.up hU
      replace hB3:=hB3.up hU
      replace hEv:=hEv.up hU
      replace hB9:=hB9.up hU
      have hO:OwnS w13 0 51 19 Fact.cells (g 82) (Cs (D6 b.Processes t c i) f k):=hg 10 _ 82 cQ rfl rfl
      refine LW.A rfl (LW.nil (Ae (Ab (Aa (Ac rfl (I (.ic rfl oQ) (LW.A rfl (LW.nil (Aq ?_)))))))))
      exact⟨(i+1,g 82),⟨by show i+1≤_;omega,hW,hB3,by show OwnS _ _ _ _ _ (g 82) _;rw[Vf hf hrp hput];exact hO⟩,tQ,by show b.Processes.length-(i+1)<b.Processes.length-i;omega⟩
 replace h15:=dQ h15
 refine A7 (Ad (Ad (Au (Ab (Af (Ac rfl (LW.A rfl (Ai (Aj (KW.q ?_))))))))))
 have hie:i=b.Processes.length:=by omega
 rw[show G6 b t c=D6 b.Processes t c i by unfold G6 D6;rw[hie,br]]
 exact⟨hO,hW⟩
end Go.Proofs.YtbcnnkfopoiifaaGreatDoor
