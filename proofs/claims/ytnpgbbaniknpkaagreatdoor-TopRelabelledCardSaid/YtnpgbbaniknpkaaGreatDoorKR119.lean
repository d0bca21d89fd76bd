import Derived.Test.YtnpgbbaniknpkaaGreatDoorKR118
import Derived.Scope
namespace Go.Wx
section
variable {R:Option Nat}{m:Nat}{P:Program}{n:Nat}{ds:List Deferred}{Q:Exit→Go.Act→World→Prop}{l:Env}{w:World}
theorem CW.scope{c:Code}(h:CW R m P n ds c (Exit.noGoto Q) l w):CW R m P n ds (.scope c) Q l w:=fun a ha b k cs hro hb hr=>by
 have h0:(lone (b.atR a (.code (.scope c)::k)) cs w).fenced P (FR R):=fenced_calm hb hr rfl
 have s1:step P (lone (b.atR a (.code (.scope c)::k)) cs w)=.next (lone (b.atR a (.code c::.inScope c::k)) cs w):=step_lone_go (by simp[stepG,stepG.exec,Frame.atR])
 obtain⟨e,a₁,w₁,hq,harr⟩:=h a ha b (.inScope c::k) cs hro hb hr
 cases e with
 |normal=>exact⟨.normal,a₁,w₁,hq,.head h0 s1 (StepsIn.trans harr (.one (fenced_calm hb hr rfl) (step_lone_go (by simp[stepG,stepG.exec,Frame.atR]))))⟩
 |exit id=>exact⟨_,a₁,w₁,hq,fun k' hk=>.head h0 s1 (harr.1 k' (by simp[exitTo,hk])),fun hr' hk=>let⟨k₁,h1,h2⟩:=harr.2 hr' (by simp[exitTo,hk]);⟨k₁,h1,.head h0 s1 h2⟩⟩
 |goto l=>exact hq.elim
 |ret=>exact⟨_,a₁,w₁,hq,.of_steps (.one h0 s1) harr⟩
 |panic ch=>exact⟨_,a₁,w₁,hq,.of_steps (.one h0 s1) harr⟩
 |outgrown=>exact⟨_,a₁,w₁,hq,.of_steps (.one h0 s1) harr⟩
theorem fO(h:KW n ds (Q .ret) l w):KW n ds (Exit.noGoto Q .ret) l w:=h
end
theorem wG{L:List Sk}(m:Nat):∀k∈BV L m,k∈Zh L m:=fun k hk=>by
 unfold BV at hk
 unfold Zh
 split at hk<;>rename_i h
 · obtain⟨x,hx,rfl⟩:=bx.1 hk
   refine bx.2 ⟨x,?_,rfl⟩
   unfold L0
   split
   · exact b_ _ hx
   exact hx
 cases hk
theorem wH{L:List Sk}(hF:Fwd L)(m:Nat):∀k∈BV L m,m<k∧k<L.length:=fun k hk=>by
 unfold BV at hk
 split at hk<;>rename_i h
 · obtain⟨x,hx,rfl⟩:=bx.1 hk
   have:=hF.n m _ h x hx
   omega
 cases hk
theorem rQ{L:List Sk}(hF:Fwd L){E E' D:List Bool}{i:Nat}(hE:Vis (Zh L) (List.replicate L.length false) E 0)(hE':Vis (Zh L) (List.replicate L.length false) E' 0)(hD:Vis (Zh L) (List.replicate L.length false) D i)(hi:i<L.length)(hEi:It E i=true):∃y∈(Gk E' L.length).filter (Nb L),It D y.toNat=true:=by
 obtain⟨e,h1,h2,h3⟩:=iH (Zh L) (BV L) L.length wG (wH hF) L.length i hi oQ
 have h4:=hE.mn E' hE'.KH (fun m hm=>by rw[pO]at hm;cases hm) hE'.at_
 obtain⟨s,hs⟩:=Ae (xs:=L) (i:=e) h1
 refine⟨(e:Int),fe.2 ⟨L8.2 ⟨e,rfl,h1,h3 E' hE'.KH (h4 i hEi)⟩,?_⟩,h3 D hD.KH hD.at_⟩
 unfold BV at h2
 unfold Nb
 rw[hs]at h2
 rw[jj,hs]
 simpa using h2
end Go.Wx
namespace Go.Proofs.YtnpgbbaniknpkaaGreatDoor
open Go.Proofs.Tryz
open Go.Wx Go.RowKit
theorem fP(sa wa:Option Addr)(sc wc:Nat)(L:List Sk)(Ws:List Wn)(w:World)(hF:FlG w sa wa L Ws)(hFw:Fwd L):Ret prog 85 #[.agg (Cx sa L.length sc wa Ws.length wc)] w fun r w'=>r=.agg (J5 0 (.slice none 0 0))∧Up w w':=by
 obtain⟨w0,rfl,hS⟩:=W0 w
 have hlen:=hF.len
 refine cT 74 func85 rfl ?_
 refine Af ?_
 refine Ap (.bA rfl) rfl ?_
 rintro _ w1 ⟨B1,rfl,NB1⟩
 have eB1:=NB1.at_
 have zB1:=NB1.size
 replace hS:=hS.Cg NB1
 change Wx.Sep _ _ _ [_]at hS
 refine Ap (.Cb np) rfl ?_
 rintro _ w2 ⟨B2,rfl,NB2⟩
 have eB2:=NB2.at_
 have zB2:=NB2.size
 replace hS:=hS.Cg NB2
 change Wx.Sep _ _ _ [_,_]at hS
 refine Ah ?_
 refine CW.scope ?_
 refine Ai ?_
 refine C9 4 kQ kQ kQ kQ kQ rfl rfl ?_
 refine J (.lc rfl (hS.b0.agg)) ?_
 refine Sn (p:=fun v W=>∃E,Vis (Zh L) (List.replicate L.length false) E 0∧Sl W v 1 A3 (Gk E L.length)) (fun _ _ _⟨E,h1,h2⟩u=>⟨E,h1,h2.up u⟩) (fun a w _ ha=>Bi (.ct rfl (.cons (.const _) .nil)) (xO) a ha) rfl rfl (fun w hu=>(Vy sa wa sc wc L Ws w (hF.up (hS.Ch.trans hu)) hFw 0 oQ).mono fun _ _⟨E,h1,h2,h3⟩=>⟨h3,E,h1,h2.sl (fun _=>rfl)⟩) ?_
 refine J (.lc rfl (hS.b0.agg)) ?_
 refine Sn (p:=fun v W=>∃E,Vis (Zh L) (List.replicate L.length false) E 0∧Sl W v 1 A3 ((Gk E L.length).filter (Nb L))) (fun _ _ _⟨E,h1,h2⟩u=>⟨E,h1,h2.up u⟩) (fun a w _ ha=>Bi (.cu rfl) (EC) a ha) rfl rfl (fun w hu=>(rP sa wa sc wc L Ws w (hF.up (hS.Ch.trans hu)) hFw).mono fun _ _⟨E,h1,h2,h3⟩=>⟨h3,E,h1,h2.sl (fun _=>rfl)⟩) ?_
 refine HW.nil ?_
 intro w3 uw3
 have zw3:=uw3.size
 replace hS:=hS.up uw3
 refine Js (d:=17) rfl fun v17 hp17=>?_
 obtain⟨E',hV',ade,cpe,rfl,hEl⟩:=hp17
 refine Js (d:=15) rfl fun v15 hp15=>?_
 obtain⟨E,hV,adl,cpl,rfl,hLl⟩:=hp15
 have hil:=L7 E L.length
 have hel:((Gk E' L.length).filter (Nb L)).length≤40:=bu (ef _ _) (by have:=L7 E' L.length;omega)
 refine LW.A rfl (LW.A rfl (An (CW.label (Ac (Ai (Af (I rfl ?_)))))))
 refine U (.Ck k_ (.t rfl)) ?_
 refine U (.move (.const _)) ?_
 refine Ah (Ak ?_)
 refine A6 (σ:=Nat) (fun s w=>(s≤(Gk E L.length).length)∧(Els w adl 1 A3 (Gk E L.length))∧(Els w ade 1 A3 ((Gk E' L.length).filter (Nb L)))∧(Wx.Sep no w0 w [A5 B1 (Cx sa L.length sc wa Ws.length wc) 29,A5 B2 (J5 0 (.slice none 0 0)) 51])) (fun s=>[(20,.eq (vi (s:Int)))]) ([(1,.eq _),(2,.eq _),(3,.eq _),(4,.eq _),(18,.eq _),(19,.eq _)]) (fun s=>(Gk E L.length).length-s) 0 ?_ tQ ?_
 ·exact⟨a8 _,hLl,hEl,hS⟩
 rintro k w4 ⟨hk,hLl,hEl,hS⟩
 refine Af ?_
 refine U (.l2 rfl rfl) ?_
 refine An ?_
 refine CW.b rfl (fun h21=>?_) (fun h21=>?_)
 ·replace h21:=dQ h21
  refine Aj (Ac (Ai (Ak (Af ?_))))
  obtain⟨x,hx⟩:=Ae (xs:=(Gk E L.length)) (i:=k) oQ
  obtain⟨Bx,ox,ax,hcx⟩:=hLl _ x hx
  refine U (.Ao k_ lg (.t rfl) (.t rfl) oQ ax) ?_
  refine U (.lb rfl (hcx.nth (j:=0) rfl)) ?_
  refine LW.A rfl (An ?_)
  obtain⟨i,rfl,hi,hEi⟩:=L8.1 (ai hx)
  refine Aa ?_
  refine U (.lc rfl (hS.b0.agg)) ?_
  refine I rfl ?_
  refine A4 (eC (.u rfl rfl) (oN)) rfl (Ma sa wa sc wc L Ws _ (hF.up hS.Ch) hFw i oQ) ?_
  rintro _ w5 ⟨g,D,rfl,hV2,hOD,uw5⟩
  have zw5:=uw5.size
  replace hLl:=hLl.up uw5
  replace hEl:=hEl.up uw5
  replace hS:=hS.up uw5
  have hDl:=Cf hOD (fun _=>rfl)
  clear hOD
  have hDn:D.length=L.length:=hV2.len.trans gh
  refine LW.A rfl (An (Af (I rfl ?_)))
  refine U (.Ck k_ (.t rfl)) ?_
  refine U (.move (.const _)) ?_
  refine Ah (Ak ?_)
  refine A6 (σ:=Nat) (fun s w=>(s≤((Gk E' L.length).filter (Nb L)).length)∧(∀y∈((Gk E' L.length).filter (Nb L)).take s,It D y.toNat=false)∧(Els w adl 1 A3 (Gk E L.length))∧(Els w ade 1 A3 ((Gk E' L.length).filter (Nb L)))∧(Els w (some ⟨g,0,none⟩) 1 Ls D)∧(Wx.Sep no w0 w [A5 B1 (Cx sa L.length sc wa Ws.length wc) 29,A5 B2 (J5 0 (.slice none 0 0)) 51])) (fun s=>[(29,.eq (vi (s:Int)))]) ([(1,.eq _),(2,.eq _),(3,.eq _),(4,.eq _),(6,.eq _),(7,.eq _),(18,.eq _),(19,.eq _),(20,.eq _),(27,.eq _),(28,.eq _)]) (fun s=>((Gk E' L.length).filter (Nb L)).length-s) 0 ?_ tQ ?_
  ·exact⟨a8 _,by simp,hLl,hEl,hDl,hS⟩
  rintro j w6 ⟨hj,hno,hLl,hEl,hDl,hS⟩
  refine Af ?_
  refine U (.l2 rfl rfl) ?_
  refine An ?_
  refine CW.b rfl (fun h30=>?_) (fun h30=>?_)
  ·replace h30:=dQ h30
   refine Aj (Ac (Ai (Ak (Af ?_))))
   obtain⟨y,hy⟩:=Ae (xs:=((Gk E' L.length).filter (Nb L))) (i:=j) oQ
   obtain⟨By,oy,ay,hcy⟩:=hEl _ y hy
   refine U (.Ao k_ lg (.t rfl) (.t rfl) oQ ay) ?_
   refine U (.lb rfl (hcy.nth (j:=0) rfl)) ?_
   refine LW.A rfl (An ?_)
   obtain⟨i2,rfl,hi2,_⟩:=L8.1 (fe.1 (ai hy)).1
   obtain⟨Bz,oz,az,hcz⟩:=hDl i2 _ (Lc oQ)
   cases az
   refine Aa (I rfl (I rfl ?_))
   refine U (.Ao l8 mf (j:=i2) (.t rfl) (.t rfl) oQ rfl) ?_
   refine U (.lb rfl (hcz.nth (j:=0) rfl)) ?_
   refine Ah ?_
   refine CW.b rfl (fun h36=>?_) (fun h36=>?_)
   ·replace h36:=dQ h36
    refine A8 ?_
    refine J7 cQ ?_
    refine Ab (Ab ?_)
    refine J7 cQ ?_
    refine Ab (Aq (Ac (Aa ?_)))
    refine U (.ic rfl oQ) ?_
    refine I rfl (LW.nil (Av ?_))
    exact⟨k+1,⟨by omega,hLl,hEl,hS⟩,tQ,by first|omega|(dsimp only;omega)⟩
   replace h36:=dQ h36
   refine Aj (Al (Ac (Aa ?_)))
   refine U (.ic rfl oQ) ?_
   refine I rfl (LW.nil (Av ?_))
   exact⟨j+1,⟨by omega,fun y hm=>by rw[Df hy]at hm;rcases bt.1 hm with hm|hm;(exact hno y hm);(rw[bn.1 hm];exact h36),hLl,hEl,hDl,hS⟩,tQ,by first|omega|(dsimp only;omega)⟩
  replace h30:=dQ h30
  have hjl:j=((Gk E' L.length).filter (Nb L)).length:=by have:¬j<((Gk E' L.length).filter (Nb L)).length:=fun h=>h30 (cm.2 h);omega
  subst hjl
  obtain⟨y,hy1,hy2⟩:=rQ hFw hV hV' hV2 hi hEi
  rw[b8]at hno
  rw[hno y hy1]at hy2
  cases hy2
 replace h21:=dQ h21
 refine A8 (Ab (Ab (Aq (Ac (Af (Az (An (Af (I rfl ?_)))))))))
 refine U (.Ck k_ (.t rfl)) ?_
 refine U (.move (.const _)) ?_
 refine Ah (Ak ?_)
 refine A6 (σ:=Nat) (fun s w=>(s≤(Gk E L.length).length)∧(Els w adl 1 A3 (Gk E L.length))∧(Wx.Sep no w0 w [A5 B1 (Cx sa L.length sc wa Ws.length wc) 29,A5 B2 (J5 0 (.slice none 0 0)) 51])) (fun s=>[(44,.eq (vi (s:Int))),(10,.eq (.slice none 0 0))]) ([(1,.eq _),(2,.eq _),(42,.eq _),(43,.eq _)]) (fun s=>(Gk E L.length).length-s) 0 ?_ tQ ?_
 ·exact⟨a8 _,hLl,hS⟩
 rintro k w7 ⟨hk,hLl,hS⟩
 refine Af ?_
 refine U (.l2 rfl rfl) ?_
 refine An ?_
 refine CW.b rfl (fun h45=>?_) (fun h45=>?_)
 ·replace h45:=dQ h45
  refine Aj (Ac (Ai (Ak (Af ?_))))
  obtain⟨x,hx⟩:=Ae (xs:=(Gk E L.length)) (i:=k) oQ
  obtain⟨Bx,ox,ax,hcx⟩:=hLl _ x hx
  refine U (.Ao k_ lg (.t rfl) (.t rfl) oQ ax) ?_
  refine U (.lb rfl (hcx.nth (j:=0) rfl)) ?_
  refine LW.A rfl (An ?_)
  obtain⟨i,rfl,hi,hEi⟩:=L8.1 (ai hx)
  refine C9 4 kQ kQ kQ kQ kQ rfl rfl ?_
  refine J (.lc rfl (hS.b0.agg)) ?_
  refine J (.lc rfl (hS.b0.agg)) ?_
  refine Sn (p:=fun v W=>∃(g:Nat)(E:List Bool),v=.slice (some ⟨g,0,none⟩) L.length L.length∧E.length=L.length∧Els W (some ⟨g,0,none⟩) 1 Ls E) (fun _ _ _⟨g,E,h1,h2,h3⟩u=>⟨g,E,h1,h2,Els.up h3 u⟩) (fun a w _ ha=>Bi (.ct rfl (.cons (.const _) .nil)) (oN) a ha) rfl rfl (fun w hu=>(Ma sa wa sc wc L Ws w (hF.up (hS.Ch.trans hu)) hFw 0 oQ).mono fun _ _⟨g,E,h0,h1,h2,h3⟩=>⟨h3,g,E,h0,h1.len.trans gh,Cf h2 (fun _=>rfl)⟩) ?_
  refine J (.mv rfl) ?_
  refine HW.nil ?_
  intro w8 uw8
  have zw8:=uw8.size
  replace hLl:=hLl.up uw8
  replace hS:=hS.up uw8
  refine Js (d:=50) rfl fun v50 hp50=>?_
  obtain⟨g2,E2,rfl,hE2n,hE2l⟩:=hp50
  refine A4 (eC (.ct rfl (.ct rfl (.cu rfl))) (ED)) rfl (mI sa wa sc wc L Ws _ (hF.up hS.Ch) hFw g2 i E2 hE2n hE2l hi) ?_
  rintro _ w9 ⟨rfl,uw9⟩
  have zw9:=uw9.size
  replace hLl:=hLl.up uw9
  replace hS:=hS.up uw9
  refine LW.A rfl (An (Aa (I rfl ?_)))
  refine U (.Ck k_ (.t rfl)) ?_
  refine U (.fa (PEv.gtr (.t rfl) (.const _)) (rfl)) ?_
  refine I rfl ?_
  refine Bh ?_
  refine Bh ?_
  refine Bh ?_
  refine Jc rfl rfl rfl rfl rfl rfl ?_
  refine Jc rfl rfl rfl rfl rfl rfl ?_
  refine Jc rfl rfl rfl rfl rfl rfl ?_
  refine Jc rfl rfl rfl rfl rfl rfl ?_
  refine Jc rfl rfl rfl rfl rfl rfl ?_
  refine Bh ?_
  refine U (.Cv (b:=false) (.t rfl) (fun hp=>absurd (show false=true from hp) cQ)) ?_
  refine Ah ?_
  refine CW.f rfl ?_
  refine Aj (Al (Ac (Aa ?_)))
  refine U (.ic rfl oQ) ?_
  refine I rfl (LW.nil (Av ?_))
  exact⟨k+1,⟨by omega,hLl,hS⟩,tQ,by first|omega|(dsimp only;omega)⟩
 replace h45:=dQ h45
 refine A8 (Ab (Ab (Aq (Ac (Ai (Af (I rfl ?_)))))))
 refine U (.tr (PEv.Xg k_ (.t rfl)) (rfl)) ?_
 refine Ah ?_
 refine CW.v rfl ?_
 refine Af ?_
 refine U (.build (cs:=(J5 0 (.slice none 0 0))) underlying51 np Ng .nil rfl) ?_
 refine Cd (.Cc nr rfl (.t rfl) (.t rfl) (by simp[J5,Value.oneCell']) hS.b1 rfl) ?_
 intro w10 Nw10
 have zw10:=Nw10.size
 replace hS:=hS.Ek 1 rfl Nw10
 change Wx.Sep _ _ _ [_,_]at hS
 refine Ah (Am (Ar ?_))
 refine fO ?_
 refine F3 rfl rfl isAgg51 nr rfl (hS.b1.agg) ⟨_,rfl,?_⟩
 exact⟨rfl,hS.Ch⟩
end Go.Proofs.YtnpgbbaniknpkaaGreatDoor
