import Derived.Test.YtbcnnkfopoiifaaGreatDoorKR118
namespace Go.Wx
theorem iM{L:List Grp}(h:L.Nodup)(g:Grp):(Q7 L g).Nodup:=by
 unfold Q7
 split
 · exact h
 rename_i hg
 exact dl.2 ⟨h,by simp,fun a ha c hc=>by simp at hc;subst hc;exact fun e=>hg (e▸ha)⟩
theorem Ni(l:List Fact):(C6 l).Nodup:=by
 have key:∀(l:List Fact)(L:List Grp),L.Nodup→(l.foldl (fun L p=>Q7 L (H6 p)) L).Nodup:=by
   intro l
   induction l with
   |nil=>exact fun _ h=>h
   |cons x l ih=>exact fun L h=>ih _ (iM h _)
 exact key l [] dz
def Mi(all l:List Fact):Nat:=((C6 (Dj (all++l) 100000).Processes).filter fun g=>(I5 (Bj all 100000) l).2.any fun k=>V0 (Bj all 100000) (Bj (all++l) 100000) (Dj (all++l) 100000) k g).length
theorem dO{all l:List Fact}(h:(I5 (Bj all 100000) l).2=[]):Mi all l=0:=by
 unfold Mi
 rw[h]
 simp
theorem EZ{all l:List Fact}{D:List DE}{St:List Grp}(hn:St.Nodup)(h:∀g,g∈St↔g∈(Re D (Dj (all++l) 100000).Processes).map (·.g)∧∃k∈(I5 (Bj all 100000) l).2,V0 (Bj all 100000) (Bj (all++l) 100000) (Dj (all++l) 100000) k g=true):St.length=Mi all l:=by
 refine(Ir hn ((Ni _).sublist fh) fun g=>?_).length_eq
 rw[h g,bx,fm,Oj,←Lq]
structure Eng where
 E:Nat
 bf:Nat
 bd:Nat
 bc:Array Go.Value
 n:Int
 all:List Fact
 D:List DE
def Eng.kb(z:Eng):Base:=Dj z.all 100000
structure Eng.Ok(z:Eng)(c:Nat):Prop where
 hbc:z.bc.size=11
 len:z.all.length≤100
 wk:0≤z.n∧z.n≤100*c
 nd:(z.D.map (·.g)).Nodup
 keys:∀g,g∈z.D.map (·.g)↔∃p∈z.kb.Processes,H6 p=g
 dks:∀e∈z.D,dk z.kb e
theorem FA{all l:List Fact}(h:(all++l).length≤100):Mi all l≤100:=by
 unfold Mi
 refine bb (cm _ _) ?_
 have h1:=(Ni (Dj (all++l) 100000).Processes).length_le_of_subset (l₂:=(Dj (all++l) 100000).Processes.map H6) fun g hg=>by
   obtain⟨p,hp,e⟩:=(Lq _ g).1 hg
   exact aq.2 ⟨p,hp,e⟩
 rw[cd]at h1
 have h2:(Dj (all++l) 100000).Processes.length≤100:=Pr h 100000 0
 omega
theorem uO{l:List Fact}{D:List DE}{e:DE}(h:e∈Rc D l):e∈D∨(e=ER e.g∧e.g∉D.map (·.g)):=by
 have key:∀(l:List Fact)(D':List DE),(∀e∈D',e∈D∨(e=ER e.g∧e.g∉D.map (·.g)))→(∀g,g∈D.map (·.g)→g∈D'.map (·.g))→∀e∈Rc D' l,e∈D∨(e=ER e.g∧e.g∉D.map (·.g)):=by
   intro l
   induction l with
   |nil=>exact fun _ h _=>h
   |cons x l ih=>
     intro D' h1 h2
     refine ih (Pv D' (H6 x)) (fun e he=>?_) fun g hg=>(X7 D' (H6 x) g).2 (.inl (h2 g hg))
     unfold Pv at he
     split at he
     · exact h1 e he
     rename_i hx
     rcases be.1 he with he|he
     · exact h1 e he
     rw[aa]at he
     subst he
     exact .inr ⟨rfl,fun hg=>hx (h2 _ hg)⟩
 exact key l D (fun e he=>.inl he) (fun _ h=>h) e h
theorem AI{z:Eng}{c:Nat}(h:z.Ok c){l:List Fact}{St:List Grp}{D2:List DE}(hSt:∀g,g∈St↔g∈(Re z.D (Dj (z.all++l) 100000).Processes).map (·.g)∧∃k∈(I5 (Bj z.all 100000) l).2,V0 (Bj z.all 100000) (Bj (z.all++l) 100000) (Dj (z.all++l) 100000) k g=true)
   (hD:∀e∈D2,(e.g∈St→dk (Dj (z.all++l) 100000) e)∧(e.g∉St→e∈Re z.D (Dj (z.all++l) 100000).Processes)):∀e∈D2,dk (Dj (z.all++l) 100000) e:=fun e he=>by
 obtain⟨h1,h2⟩:=hD e he
 by_cases hs:e.g∈St
 · exact h1 hs
 have h3:=h2 hs
 have hq:¬∃k,V0 (Bj z.all 100000) (Bj (z.all++l) 100000) (Dj (z.all++l) 100000) k e.g=true:=fun hk=>hs ((hSt e.g).2 ⟨aq.2 ⟨e,h3,rfl⟩,KZ.2 hk⟩)
 rcases uO (bx.1 h3).1 with h4|⟨_,h5⟩
 · have:=h.dks e h4
   unfold dk at this⊢
   rw[this]
   exact oL hq
 exfalso
 obtain⟨p,hp,ep⟩:=(Oj _ z.D e.g).1 (aq.2 ⟨e,h3,rfl⟩)
 have:=iF (a:=z.all) hp fun q hq2 eq=>h5 ((h.keys e.g).2 ⟨q,hq2,eq.trans ep⟩)
 rw[ep]at this
 exact hq this
theorem Vp(d:Int):Dj [] d=⟨[],[],[],[],[],[],[],[],[],[],[]⟩:=by
 have k:∀j,j<11→C2 (Dj [] d) j=[]:=fun j hj=>gy.2 fun x hx=>by
   have:=((F3 hj).1 hx).1.1
   cases this
 have e:∀x:Base,(∀j,j<11→C2 x j=[])→x=⟨[],[],[],[],[],[],[],[],[],[],[]⟩:=fun x hx=>by
   obtain⟨x0,x1,x2,x3,x4,x5,x6,x7,x8,x9,x10⟩:=x
   have g0:x0=[]:=hx 0 cQ
   have g1:x1=[]:=hx 1 cQ
   have g2:x2=[]:=hx 2 cQ
   have g3:x3=[]:=hx 3 cQ
   have g4:x4=[]:=hx 4 cQ
   have g5:x5=[]:=hx 5 cQ
   have g6:x6=[]:=hx 6 cQ
   have g7:x7=[]:=hx 7 cQ
   have g8:x8=[]:=hx 8 cQ
   have g9:x9=[]:=hx 9 cQ
   have g10:x10=[]:=hx 10 cQ
   rw[g0,g1,g2,g3,g4,g5,g6,g7,g8,g9,g10]
 exact e _ k
def uP:Array Go.Value:=#[.slice none 0 0,.slice none 0 0,.slice none 0 0,.slice none 0 0,.slice none 0 0,.slice none 0 0,.slice none 0 0,.slice none 0 0,.slice none 0 0,.slice none 0 0,.slice none 0 0]
theorem AJ(w:World)(d:Int):BaseC w uP (Dj [] d):=by
 rw[Vp]
 exact⟨_,_,_,_,_,_,_,_,_,_,_,rfl,tG _,tG _,tG _,tG _,tG _,tG _,tG _,tG _,tG _,tG _,tG _⟩
theorem AK(d:Int):∀i,¬lJ uP (Dj [] d) i:=by
 rintro i ⟨j,v,_,_,h⟩
 rw[Vp]at h
 by_cases hj:j<11
 · rcases Ma hj with rfl|rfl|rfl|rfl|rfl|rfl|rfl|rfl|rfl|rfl|rfl<;>exact h rfl
 exact h (N8 _ hj)
end Go.Wx
namespace Go.Proofs.YtbcnnkfopoiifaaGreatDoor
open Go.Proofs.Tryz
open Go.Wx Go.RowKit
theorem FB{α:Type _}(E M B D F:α):[E,M,B,D,F].Perm [M,D,E,B,F]:=by
 refine((List.Perm.swap M E _).trans (List.Perm.cons M ?_))
 refine(((List.Perm.swap D B _).cons E).trans (List.Perm.swap D E _))
def _root_.Go.Wx.Eng.As(z:Eng):List Asr:=[Ch z.E (EC z.bf z.bc z.bd z.n) 62,Ms.Be z.bf (E9 (Bj z.all 100000)),Hc z.bc z.kb,Mk.Be Ca z.bd (z.D.map DE.kv),Mn z.D]
theorem Kb(z:Eng)(c:Nat)(ad:Option Addr)(cp:Nat)(l:List Fact)(w:World)(hz:z.Ok c)(hc:c≤900)(hl:(z.all++l).length≤100)(hEl:Els w ad 19 Fact.cells l)(hLb:l≠[]→∀B o,ad=some ⟨B,o,none⟩→¬Cl z.As B)(hS0:Wx.Sep (Cl z.As) w w z.As):Ret prog 9 #[.pointer (some ⟨z.E,0,none⟩),.slice ad l.length cp] w fun r w'=>∃z':Eng,r=vi ((Mi z.all l:Nat):Int)∧z'.E=z.E∧z'.all=z.all++l∧z'.n=z.n+((Mi z.all l:Nat):Int)∧z'.Ok (c+1)∧Wx.Sep (Cl z.As) w w' z'.As:=by
 obtain⟨E,bf,bd,bc,nw,all,D⟩:=z
 have hwk:=hz.wk
 have hcl:=FA hl
 refine(uN E bf bd bc nw all (Dj all 100000) D ad cp l w hz.hbc ⟨hwk.1,by have:=hwk.2;dsimp only at this;omega⟩ hl hz.nd hEl hLb hS0).mono fun r w' h=>?_
 dsimp only at hwk hcl hl⊢
 rcases h with⟨hT,rfl,hS⟩|⟨bc1,St,D2,hT,rfl,hn,hSt,hk,hD,hs,hS⟩
 · have e:=oK hT
   refine⟨⟨E,bf,bd,bc,nw,all++l,D⟩,by rw[dO hT];rfl,rfl,rfl,by rw[dO hT];simp,⟨hz.hbc,hl,⟨hwk.1,by dsimp only;omega⟩,hz.nd,fun g=>?_,fun e1 he=>?_⟩,?_⟩
   · have:=hz.keys g
     unfold Eng.kb at this⊢
     rw[←e];exact this
   · have:=hz.dks e1 he
     unfold Eng.kb at this⊢
     rw[←e];exact this
   unfold Eng.As Eng.kb
   rw[←e];exact hS
 have e:=EZ hn hSt
 refine⟨⟨E,bf,bd,bc1,nw+((St.length:Nat):Int),all++l,D2⟩,by rw[e],rfl,rfl,by rw[e],⟨hs,hl,⟨by dsimp only;omega,by dsimp only;omega⟩,?_,fun g=>?_,AI hz hSt hD⟩,hS⟩
 · show(D2.map (·.g)).Nodup
   rw[hk];exact Vl _ hz.nd
 show g∈D2.map (·.g)↔_
 rw[hk];exact Oj _ D g
theorem Gu{z:Eng}{c:Nat}(h:z.Ok c):z.kb.Processes.length≤100∧z.kb.Measures.length≤100∧z.kb.Resets.length≤100∧z.kb.Targets.length≤100:=by
 have:=Pr (l:=z.all) (n:=100) h.len 100000
 exact⟨this 0,this 1,this 8,this 9⟩
theorem dP(w:World):Ret prog 5 #[] w fun r w'=>∃z:Eng,r=.pointer (some ⟨z.E,0,none⟩)∧z.all=[]∧z.n=0∧z.Ok 0∧Wx.Sep no w w' z.As:=by
 obtain⟨w0,rfl,hS⟩:=W0 w
 refine cT 5 func5 rfl (Af (J (Ar (Aa (LW.r Ms.REv.makeMap rfl rfl rfl rfl ?_)))))
 rintro _ w1 ⟨M1,rfl,hMM1,uw1,eM1,zM1⟩
 replace hS:=hS.add uw1 (A':=Ms.Be M1 (E9 (Bj [] 100000))) hMM1 (fun i(e:i=M1)=>by omega)
 refine Ao (Mk.REv.makeMap (Q:=Ca)) rfl ?_
 rintro _ w2 ⟨M2,rfl,hMM2,uw2,eM2,zM2⟩
 replace hS:=hS.add uw2 (A':=Mk.Be Ca M2 (([]:List DE).map DE.kv)) hMM2 (fun i(e:i=M2)=>by omega)
 refine I (.build (cs:=(EC M1 uP M2 0)) underlying62 zeroValue62 V5 (.ct rfl (.cu rfl)) rfl) (Ao (.bA rfl) rfl ?_)
 rintro _ w3 ⟨B4,rfl,NB4⟩
 replace hS:=hS.Bn NB4
 refine LW.A rfl (Ai (Aj (KW.q ?_)))
 refine⟨⟨B4,M1,M2,uP,0,[],[]⟩,rfl,rfl,rfl,⟨rfl,ao _,⟨Int.le_refl _,by show(0:Int)≤100*((0:Nat):Int);omega⟩,dz,fun g=>⟨fun h=>(by cases h),fun⟨p,hp,_⟩=>?_⟩,fun _ h=>(by cases h)⟩,?_⟩
 ·unfold Eng.kb at hp;rw[Vp]at hp;cases hp
 replace hS:=hS.add (Up.refl _) (A':=Hc uP (Dj [] 100000)) (AJ _ _) (fun i h=>absurd h (AK _ i))
 replace hS:=hS.add (Up.refl _) (A':=Mn []) ⟨fun _ h=>(by cases h),List.Pairwise.nil⟩ (fun i h=>by obtain⟨A_,hA_,_⟩:=h;cases hA_)
 exact hS.perm (List.Perm.symm (FB _ _ _ _ _))
theorem Yc(E bf bd:Nat)(bc:Array Go.Value)(nw:Int)(w:World)(hbc:bc.size=11)(hE:Blk w E (EC bf bc bd nw) 62):Ret prog 11 #[.pointer (some ⟨E,0,none⟩)] w fun r w'=>r=vi nw∧Up w w':=by
 have hW:=Up.refl w
 refine cT 9 func11 rfl ?_
 refine Af (J (Ar (Af (Ac rfl ?_))))
 refine I (.fa (Gl m9 (.t rfl)) (rfl)) ?_
 refine Ai ?_
 refine CW.f rfl ?_
 refine Ak (Ab (Af (Ac rfl ?_)))
 refine I (.nc rfl) ?_
 refine I (.fB 13 rfl) ?_
 refine I (.lb rfl (hE.cell (lH hbc))) ?_
 refine LW.A rfl (Ai (Aj ?_))
 refine KW.q ?_
 exact⟨rfl,hW⟩
end Go.Proofs.YtbcnnkfopoiifaaGreatDoor
