import Derived.Test.YtdilcdgjklimoaaGreatDoorKR119
import Derived.Shelf.SlSortCmp.Insertion
import Derived.Lib.Small
import Derived.Sort.Statements
namespace Go.Wx
def rU:List Int→Int
 |[]=>0
 |x::l=>if x=0 then rU l else x
theorem Zv{l:List Int}{k:Nat}(h:∀x∈l.take k,x=0):rU l=rU (l.drop k):=by
 induction l generalizing k with
 |nil=>simp
 |cons a l ih=>
   cases k with
   |zero=>rfl
   |succ k=>
     rw[List.take_succ_cons]at h
     have h0:=h a List.mem_cons_self
     rw[List.drop_succ_cons,←ih fun x hx=>h x (List.mem_cons_of_mem _ hx)]
     show(if a=0 then rU l else a)=_
     rw[if_pos h0]
theorem zX{l:List Int}{k:Nat}{x:Int}(h:∀y∈l.take k,y=0)(hx:l[k]?=some x)(hn:x≠0):rU l=x:=by
 obtain⟨hk,e⟩:=List.getElem?_eq_some_iff.1 hx
 rw[Zv h,List.drop_eq_getElem_cons hk,e]
 show(if x=0 then _ else x)=x
 rw[if_neg hn]
theorem qB{l:List Int}{k:Nat}(h:∀y∈l.take k,y=0)(hk:l.length≤k):rU l=0:=by
 rw[Zv h,List.drop_eq_nil_of_le hk]
 rfl
def Xd(a b:Ar2):Prop:=a.a<b.a∨(a.a=b.a∧a.b<b.b)
def Ng(a b:Ar2):Int:=if Lib.compareInt a.a b.a≠0 then Lib.compareInt a.a b.a else Lib.compareInt a.b b.b
theorem JO(x y:Ar2):rU [Lib.compareInt x.a y.a,Lib.compareInt x.b y.b]=Ng x y:=by
 unfold Ng
 generalize Lib.compareInt x.a y.a=a
 generalize Lib.compareInt x.b y.b=b
 show(if a=0 then(if b=0 then 0 else b)else a)=_
 by_cases h1:a=0
 · by_cases h2:b=0<;>simp[h1,h2]
 simp[h1]
theorem uO(a b:Ar2):Ng a b<0↔Xd a b:=by
 unfold Ng Xd Lib.compareInt
 by_cases h1:a.a<b.a
 · simp[h1]
 by_cases h2:b.a<a.a
 · simp[h1,h2];omega
 have e:a.a=b.a:=by omega
 by_cases h3:a.b<b.b
 · simp[e,h3]
 by_cases h4:b.b<a.b
 · simp[e,h3,h4]
 simp[e,h3,h4]
theorem Mn(a b:Ar2):Go.Proofs.ltOf Ng a b=true↔Xd a b:=by
 unfold Go.Proofs.ltOf
 rw[decide_eq_true_iff]
 exact uO a b
theorem uP(a:Ar2):¬Xd a a:=by unfold Xd;omega
theorem kV{a b c:Ar2}(h:Xd a b)(k:Xd b c):Xd a c:=by unfold Xd at*;omega
theorem gP{a b:Ar2}(h:¬Xd a b)(k:¬Xd b a):a=b:=by
 obtain⟨a1,a2⟩:=a
 obtain⟨b1,b2⟩:=b
 unfold Xd at*
 dsimp only at h k
 have e1:a1=b1:=by omega
 have e2:a2=b2:=by omega
 rw[e1,e2]
theorem gQ{a b c:Ar2}(h:¬Xd a b)(k:¬Xd b c):¬Xd a c:=by unfold Xd at*;omega
theorem IU:Sort.SWO (Go.Proofs.ltOf Ng) where
 irrefl x:=by
   cases h:Go.Proofs.ltOf Ng x x
   · rfl
   exact absurd ((Mn _ _).1 h) (uP x)
 trans x y z h k:=(Mn _ _).2 (kV ((Mn _ _).1 h) ((Mn _ _).1 k))
 ntrans x y z h k:=by
   cases e:Go.Proofs.ltOf Ng x z
   · rfl
   exact absurd ((Mn _ _).1 e) (gQ (fun e'=>by rw[(Mn _ _).2 e']at h;cases h) (fun e'=>by rw[(Mn _ _).2 e']at k;cases k))
theorem IV(x y:Ar2)(h:Go.Proofs.ltOf Ng x y=false)(k:Go.Proofs.ltOf Ng y x=false):x=y:=
 gP (fun e'=>by rw[(Mn _ _).2 e']at h;cases h) (fun e'=>by rw[(Mn _ _).2 e']at k;cases k)
instance:Inhabited Ar2:=⟨⟨0,0⟩⟩
structure BE(κ:Type) where
 g:κ
 v:Go.Value
 l:List Int
def BE.kv{κ:Type}(e:BE κ):κ×Go.Value:=(e.g,e.v)
def BE.own{κ:Type}(ti:TypeId)(e:BE κ):Asr:=J ti 1 A5 e.v e.l
def Ub{κ:Type}(ti:TypeId)(D:List (BE κ)):Asr:=D5 (D.map (BE.own ti))
structure BeInv{κ:Type}(D:List (BE κ))(F:κ→List Int):Prop where
 nd:(D.map (·.g)).Nodup
 key:∀g,g∈D.map (·.g)↔F g≠[]
 val:∀e∈D,e.l=F e.g
def Zw{κ:Type}[DecidableEq κ](F:κ→List Int)(g:κ)(w:Int):κ→List Int:=fun k=>if k=g then F k++[w]else F k
theorem Kj{κ:Type}(D:List (BE κ)):(D.map BE.kv).map (·.1)=D.map (·.g):=by rw[List.map_map];rfl
theorem BeInv.nil{κ:Type}{F:κ→List Int}(h:∀g,F g=[]):BeInv ([]:List (BE κ)) F:=⟨List.nodup_nil,fun g=>⟨fun e=>(by cases e),fun e=>absurd (h g) e⟩,fun _ e=>(by cases e)⟩
theorem dP{α β:Type}(f:α→β){l:List α}{j:Nat}{x:α}(h:l[j]?=some x)(y:α)(e:f y=f x):(l.set j y).map f=l.map f:=by
 rw[List.map_set,e]
 apply List.ext_getElem?
 intro i
 by_cases hij:j=i
 · subst hij
   have hl:=(List.getElem?_eq_some_iff.1 h).1
   rw[List.getElem?_set_self (by rw[List.length_map];exact hl),List.getElem?_map,h]
   rfl
 rw[List.getElem?_set_ne hij]
theorem zY{κ:Type}[DecidableEq κ]{D:List (BE κ)}(hn:(D.map (·.g)).Nodup){j:Nat}{e:BE κ}(hj:D[j]?=some e)(v:Go.Value)(l:List Int):Mk.D8 (D.map BE.kv) e.g v=(D.set j ⟨e.g,v,l⟩).map BE.kv:=by
 have hl:=(List.getElem?_eq_some_iff.1 hj).1
 have hm:e.g∈(D.map BE.kv).map (·.1):=by rw[Kj];exact List.mem_map.2 ⟨e,List.mem_of_getElem? hj,rfl⟩
 rw[Mk.D8,if_pos hm]
 apply List.ext_getElem?
 intro i
 simp only[List.getElem?_map]
 by_cases hij:j=i
 · subst hij
   rw[hj,List.getElem?_set_self hl]
   simp[BE.kv]
 rw[List.getElem?_set_ne hij]
 cases hq:D[i]? with
 |none=>rfl
 |some q=>
   have hne:¬(BE.kv q).1=e.g:=fun e'=>by
     have h1:(D.map (·.g))[i]?=some e.g:=by rw[List.getElem?_map,hq];exact congrArg some e'
     have h2:(D.map (·.g))[j]?=some e.g:=by rw[List.getElem?_map,hj];rfl
     obtain⟨hi,h3⟩:=List.getElem?_eq_some_iff.1 h1
     obtain⟨hj',h4⟩:=List.getElem?_eq_some_iff.1 h2
     exact hij ((List.getElem_inj hn).1 (h4.trans h3.symm))
   simp[hne]
theorem qC{κ:Type}[DecidableEq κ]{D:List (BE κ)}{F:κ→List Int}{g:κ}{w:Int}{v:Go.Value}{j:Nat}{e:BE κ}(hn:(D.map (·.g)).Nodup)(hk:∀k,k∈D.map (·.g)↔k=g∨F k≠[])(hv:∀q∈D,q.l=F q.g)(hj:D[j]?=some e)(hg:e.g=g):BeInv (D.set j ⟨g,v,F g++[w]⟩) (Zw F g w):=by
 have hs:(D.set j ⟨g,v,F g++[w]⟩).map (·.g)=D.map (·.g):=dP _ hj _ hg.symm
 refine⟨by rw[hs];exact hn,fun k=>?_,fun q hq=>?_⟩
 · rw[hs,hk]
   unfold Zw
   by_cases h:k=g<;>simp[h]
 obtain⟨i,hi⟩:=List.getElem?_of_mem hq
 have hl:=(List.getElem?_eq_some_iff.1 hj).1
 unfold Zw
 by_cases hij:j=i
 · subst hij
   rw[List.getElem?_set_self hl]at hi
   cases hi
   rw[if_pos rfl]
 rw[List.getElem?_set_ne hij]at hi
 have hne:¬q.g=g:=fun e'=>by
   have h1:(D.map (·.g))[i]?=some g:=by rw[List.getElem?_map,hi];exact congrArg some e'
   have h2:(D.map (·.g))[j]?=some g:=by rw[List.getElem?_map,hj];exact congrArg some hg
   obtain⟨hi',h3⟩:=List.getElem?_eq_some_iff.1 h1
   obtain⟨hj',h4⟩:=List.getElem?_eq_some_iff.1 h2
   exact hij ((List.getElem_inj hn).1 (h4.trans h3.symm))
 rw[if_neg hne]
 exact hv q (List.mem_of_getElem? hi)
theorem Zx{κ:Type}[DecidableEq κ]{D:List (BE κ)}{F:κ→List Int}(h:BeInv D F){g:κ}{v0:Go.Value}(w:Int)(h0:(g∉(D.map BE.kv).map (·.1)∧v0=.slice none 0 0)∨(g,v0)∈D.map BE.kv):
   ∃D1 j e1,(D1=D∨D1=D++[(⟨g,.slice none 0 0,[]⟩:BE κ)])∧D1[j]?=some e1∧e1.v=v0∧e1.l=F g∧∀v,Mk.D8 (D.map BE.kv) g v=(D1.set j ⟨g,v,F g++[w]⟩).map BE.kv∧BeInv (D1.set j ⟨g,v,F g++[w]⟩) (Zw F g w):=by
 rcases h0 with⟨h1,rfl⟩|h1
 · rw[Kj]at h1
   have hF:F g=[]:=by
     cases e:F g with
     |nil=>rfl
     |cons a b=>exact absurd ((h.key g).2 (by rw[e];simp)) h1
   refine⟨_,D.length,⟨g,.slice none 0 0,[]⟩,.inr rfl,by simp,rfl,hF.symm,fun v=>⟨?_,qC (e:=⟨g,.slice none 0 0,[]⟩) ?_ ?_ ?_ (by simp) rfl⟩⟩
   · have hs:(D++[(⟨g,.slice none 0 0,[]⟩:BE κ)]).set D.length ⟨g,v,F g++[w]⟩=D++[⟨g,v,F g++[w]⟩]:=by rw[List.set_append];simp
     rw[Mk.D8,if_neg (by rw[Kj];exact h1),hs,List.map_append]
     rfl
   · rw[List.map_append]
     exact List.nodup_append.2 ⟨h.nd,by simp,fun a ha c hc=>by simp at hc;subst hc;exact fun e=>h1 (e▸ha)⟩
   · intro k
     rw[List.map_append,List.mem_append,h.key]
     simp[or_comm]
   intro q hq
   rcases List.mem_append.1 hq with hq|hq
   · exact h.val q hq
   rw[List.mem_singleton.1 hq];exact hF.symm
 obtain⟨e,he,hek⟩:=List.mem_map.1 h1
 obtain⟨j,hj⟩:=List.getElem?_of_mem he
 have e1:e.g=g:=congrArg Prod.fst hek
 have e2:e.v=v0:=congrArg Prod.snd hek
 refine⟨D,j,e,.inl rfl,hj,e2,by rw[h.val e he,e1],fun v=>⟨by rw[←e1];exact zY h.nd hj v _,qC h.nd (fun k=>?_) h.val hj e1⟩⟩
 rw[h.key]
 refine⟨.inr,fun hk=>hk.elim (fun hk=>?_) id⟩
 rw[hk,←h.key,←e1]
 exact List.mem_map.2 ⟨e,he,rfl⟩
theorem dR{As:List Asr}{A:Asr}{w:World}(h:(D5 As).holds w)(hA:A.holds w)(hf:∀i,¬A.foot i):Stp (D5 As) (D5 (As++[A])) w w:=
 ⟨Fr.refl _ _,⟨fun B hB=>(List.mem_append.1 hB).elim (h.1 B) fun hB=>by rw[List.mem_singleton.1 hB];exact hA,List.pairwise_append.2 ⟨h.2,by simp,fun B _ C hC i _=>by rw[List.mem_singleton.1 hC];exact hf i⟩⟩,fun i⟨B,hB,hi⟩=>.inl ((List.mem_append.1 hB).elim (fun hB=>⟨B,hB,hi⟩) fun hB=>by rw[List.mem_singleton.1 hB]at hi;exact absurd hi (hf i))⟩
theorem qD{κ:Type}{ti:TypeId}{D D1:List (BE κ)}{g:κ}{w:World}(h:D1=D∨D1=D++[(⟨g,.slice none 0 0,[]⟩:BE κ)])(hh:(Ub ti D).holds w):Stp (Ub ti D) (Ub ti D1) w w:=by
 rcases h with rfl|rfl
 · exact Stp.refl hh
 unfold Ub at hh⊢
 rw[List.map_append]
 exact dR hh (OwnS.nil _ _ _ _ _) (fun i hi=>by cases hi)
theorem qE{κ:Type}{ti:TypeId}{D:List (BE κ)}{j:Nat}{e:BE κ}{g:κ}{v:Go.Value}{l:List Int}{w w':World}(h:(Ub ti D).holds w)(hj:D[j]?=some e)(s:Stp (J ti 1 A5 e.v e.l) (J ti 1 A5 v l) w w'):Stp (Ub ti D) (Ub ti (D.set j ⟨g,v,l⟩)) w w':=by
 have h2:=La (A':=J ti 1 A5 v l) h (by rw[List.getElem?_map,hj];rfl) s
 unfold Ub at h2⊢
 rw[List.map_set]
 exact h2
theorem Pd{κ:Type}{ti:TypeId}{D:List (BE κ)}{w:World}(h:(Ub ti D).holds w){e:BE κ}(he:e∈D):OwnS w 0 ti 1 A5 e.v e.l:=h.1 (BE.own ti e) (List.mem_map.2 ⟨e,he,rfl⟩)
theorem uS(kv:List (Int×Go.Value))(k:Int)(v:Go.Value):D8 kv k v=Mk.D8 kv k v:=rfl
theorem zZ{κ:Type}[DecidableEq κ](kv:List (κ×Go.Value))(k:κ):∃v0,(k∉kv.map (·.1)∧v0=.slice none 0 0)∨(k,v0)∈kv:=by
 by_cases h:k∈kv.map (·.1)
 · obtain⟨p,hp,rfl⟩:=List.mem_map.1 h
   exact⟨p.2,.inr hp⟩
 exact⟨_,.inl ⟨h,rfl⟩⟩
def gR(f:Fact):Ar2:=⟨f.Time,f.Until⟩
def Sv{α:Type}[DecidableEq α](K:List α)(g:α):List α:=if g∈K then K else K++[g]
theorem Zy{α:Type}[DecidableEq α]{K:List α}{g x:α}:x∈Sv K g↔x∈K∨x=g:=by
 unfold Sv
 split
 · rename_i h
   exact⟨.inl,fun e=>e.elim id fun e=>e▸h⟩
 simp
theorem dS{α:Type}[DecidableEq α]{K:List α}{g:α}(h:K.Nodup):(Sv K g).Nodup:=by
 unfold Sv
 split
 · exact h
 rename_i hn
 exact List.nodup_append.2 ⟨h,by simp,fun a ha c hc=>by simp at hc;subst hc;exact fun e=>hn (e▸ha)⟩
def Hm(P:List Fact)(why:List Int):List Ar2:=P.foldl (fun K f=>if f.ID∈why then Sv K (gR f)else K) []
theorem Pe(P:List Fact)(why:List Int)(f:Fact):Hm (P++[f]) why=if f.ID∈why then Sv (Hm P why) (gR f)else Hm P why:=by
 unfold Hm
 rw[List.foldl_append]
 rfl
theorem Zz{P:List Fact}{why:List Int}{j:Nat}{y:Fact}(hy:P[j]?=some y)(h:y.ID∈why):Hm (P.take (j+1)) why=Sv (Hm (P.take j) why) (gR y):=by
 rw[List.take_add_one,hy,Option.toList_some,Pe,if_pos h]
theorem gS{P:List Fact}{why:List Int}{j:Nat}{y:Fact}(hy:P[j]?=some y)(h:¬y.ID∈why):Hm (P.take (j+1)) why=Hm (P.take j) why:=by
 rw[List.take_add_one,hy,Option.toList_some,Pe,if_neg h]
theorem Kk{α:Type}{p:List α→Prop}(h0:p [])(h1:∀l x,p l→p (l++[x]))(l:List α):p l:=by
 have h:∀m:List α,p m.reverse:=fun m=>by
   induction m with
   |nil=>exact h0
   |cons x m ih=>rw[List.reverse_cons];exact h1 _ _ ih
 have:=h l.reverse
 rwa [List.reverse_reverse]at this
theorem Sw{P:List Fact}{why:List Int}{g:Ar2}:g∈Hm P why↔∃f∈P,f.ID∈why∧gR f=g:=by
 refine Kk (p:=fun P=>g∈Hm P why↔∃f∈P,f.ID∈why∧gR f=g) (by simp[Hm]) (fun l x h=>?_) P
 rw[Pe]
 have e:(∃f∈l++[x],f.ID∈why∧gR f=g)↔(∃f∈l,f.ID∈why∧gR f=g)∨(x.ID∈why∧gR x=g):=by
   simp only[List.mem_append,List.mem_singleton]
   constructor
   · rintro⟨f,hf|rfl,h2⟩
     · exact .inl ⟨f,hf,h2⟩
     exact .inr h2
   rintro(⟨f,hf,h2⟩|h2)
   · exact⟨f,.inl hf,h2⟩
   exact⟨x,.inr rfl,h2⟩
 rw[e]
 split
 · rename_i hx
   rw[Zy,h]
   simp[hx,eq_comm]
 rename_i hx
 rw[h]
 simp[hx]
def Sx(g:Ar2):Ar2×Go.Value:=(g,.bool true)
theorem Nh(K:List Ar2):(K.map Sx).map (·.1)=K:=by rw[List.map_map];exact List.map_id _
theorem dU(K:List Ar2)(g:Ar2):Mk.D8 (K.map Sx) g (.bool true)=(Sv K g).map Sx:=by
 unfold Mk.D8 Sv
 rw[Nh]
 split
 · rw[List.map_map]
   refine List.map_congr_left fun x _=>?_
   show(if x=g then(g,Go.Value.bool true)else Sx x)=Sx x
   by_cases hx:x=g
   · subst hx;rw[if_pos rfl];rfl
   rw[if_neg hx]
 rw[List.map_append];rfl
def Ji(P:List Fact)(O:List Vd)(g:Ar2):List Int:=(O.filter (fun p=>decide (g∈Hm P p.why))).map (·.w)
def Fk(b:Base)(O:List Vd)(n:Int):List Int:=(O.filter (fun p=>decide (Hf b p=n∧n≠0))).map (·.w)
def Pf(P:List Fact)(O:List Vd)(p:Vd)(V:List Ar2)(g:Ar2):List Int:=Ji P O g++if g∈V then[p.w]else[]
theorem qF(P:List Fact)(O:List Vd)(p:Vd):Pf P O p []=Ji P O:=funext fun g=>by simp[Pf]
theorem qG{P:List Fact}{O:List Vd}{p:Vd}{V:List Ar2}{g:Ar2}(h:g∉V):Pf P O p (V++[g])=Zw (Pf P O p V) g p.w:=funext fun k=>by
 unfold Pf Zw
 by_cases e:k=g
 · subst e;simp[h]
 simp[e]
theorem kW{P:List Fact}{O:List Vd}{p:Vd}{V:List Ar2}(h:V.Perm (Hm P p.why)):Pf P O p V=Ji P (O++[p]):=funext fun k=>by
 unfold Pf Ji
 rw[List.filter_append,List.map_append]
 congr 1
 by_cases e:k∈Hm P p.why
 · rw[if_pos (h.mem_iff.2 e)];simp[e]
 rw[if_neg (fun h'=>e (h.mem_iff.1 h'))];simp[e]
theorem Vl{b:Base}{O:List Vd}{p:Vd}(h:¬Hf b p=0):Fk b (O++[p])=Zw (Fk b O) (Hf b p) p.w:=funext fun k=>by
 unfold Fk Zw
 rw[List.filter_append,List.map_append]
 by_cases e:k=Hf b p
 · subst e;simp[h]
 have e2:¬Hf b p=k:=fun h=>e h.symm
 simp[e,e2]
theorem Z0{b:Base}{O:List Vd}{p:Vd}(h:Hf b p=0):Fk b (O++[p])=Fk b O:=funext fun k=>by
 unfold Fk
 have hd:decide (Hf b p=k∧k≠0)=false:=decide_eq_false fun⟨e1,e2⟩=>e2 (by rw[←e1,h])
 rw[List.filter_append,List.map_append,List.filter_cons,hd]
 simp
theorem qH(P:List Fact)(O:List Vd)(g:Ar2):(Ji P O g).length≤O.length:=by
 unfold Ji
 rw[List.length_map]
 exact List.length_filter_le _ _
theorem kX(b:Base)(O:List Vd)(n:Int):(Fk b O n).length≤O.length:=by
 unfold Fk
 rw[List.length_map]
 exact List.length_filter_le _ _
theorem qI(P:List Fact)(O:List Vd)(p:Vd)(V:List Ar2)(g:Ar2):(Pf P O p V g).length≤O.length+1:=by
 unfold Pf
 have:=qH P O g
 rw[List.length_append]
 split<;>simp<;>omega
theorem gT{P:List Fact}{why:List Int}(h:∀f∈P,Q4 f.Time∧Q4 f.Until):∀g∈Hm P why,g.ok:=fun g hg=>by
 obtain⟨f,hf,_,rfl⟩:=Sw.1 hg
 exact h f hf
theorem Ja{O:List VP}{i:Nat}{p:VP}(h:O[i]?=some p):(O.take (i+1)).map (·.vd)=(O.take i).map (·.vd)++[p.vd]:=by
 rw[List.take_add_one,h,List.map_append];rfl
end Go.Wx
namespace Go.Proofs.YtdilcdgjklimoaaGreatDoor
open Go.Proofs.Tryz
open Go.Wx Go.RowKit
theorem Z1(a:Int)(w:World):Ret prog 100 #[vi a] w fun r w'=>r=.bool false∧w'=w:=by
 refine cT 6 func100 rfl (Af (Az (Am (Aa (I rfl (I rfl (U (.neq (.t rfl) (.t rfl)) (LW.A rfl (Ai (Al (KW.q ?_)))))))))))
 exact⟨by simp,rfl⟩
theorem Z2(a b:Int)(w:World):Ret prog 36 #[vi a,vi b] w fun r w'=>r=vi (Lib.compareInt a b)∧w'=w:=by
 refine cT 20 func36 rfl (Af (Az (Am (Aa (I rfl (A6 (eC (.o rfl) (fF)) rfl (Z1 _ _) ?_))))))
 rintro _ w1 ⟨rfl,ew1⟩
 subst ew1
 refine LW.A rfl (Am (Aa (I rfl (A6 (eC (.o rfl) (fF)) rfl (Z1 _ _) ?_))))
 rintro _ w2 ⟨rfl,ew2⟩
 subst ew2
 refine LW.A rfl (Am (Af (I rfl (Ai (CW.b rfl (fun h11=>?_) (fun h11=>?_))))))
 ·refine Ah (Af (I rfl (Ai (CW.b rfl (fun h12=>?_) (fun h12=>?_)))))
  ·refine Af (Az (Ai (Al (Ap (Ap (KW.q ?_))))))
   exact⟨by unfold Lib.compareInt;(simp_all;done),rfl⟩
  refine Aj (Ac (Af (Az (Ai (Al (Ap (KW.q ?_)))))))
  exact⟨by unfold Lib.compareInt;(simp_all;done),rfl⟩
 refine Aj (Ac (Ah (Af (I rfl (Ai (CW.b rfl (fun h13=>?_) (fun h13=>?_)))))))
 ·refine Af (Az (Ai (Al (Ap (KW.q ?_)))))
  exact⟨by unfold Lib.compareInt;(simp_all;done),rfl⟩
 refine Aj (Ac (Ah (Af (I rfl (I rfl (U (.l2 rfl rfl) (Ai (CW.b rfl (fun h16=>?_) (fun h16=>?_)))))))))
 ·refine Af (Az (Ai (Al (Ap (KW.q ?_)))))
  exact⟨by unfold Lib.compareInt;(simp_all;done),rfl⟩
 replace h16:=dQ h16
 refine Aj (Ac (Ah (Af (I rfl (I rfl (U (.gtr (.t rfl) (.t rfl)) (Ai (CW.b rfl (fun h19=>?_) (fun h19=>?_)))))))))
 ·replace h19:=dQ h19
  refine Af (Az (Ai (Al (Ap (KW.q ?_)))))
  exact⟨by unfold Lib.compareInt;(simp_all;done),rfl⟩
 replace h19:=dQ h19
 refine Aj (Ac (Af (Az (Ai (Al (KW.q ?_))))))
 exact⟨by unfold Lib.compareInt;rw[if_neg oQ,if_neg (by omega)],rfl⟩
theorem uT(ad:Option Addr)(cp:Nat)(l:List Int)(w:World)(hE0:Els w ad 1 A5 l)(hl:l.length≤1000):Ret prog 35 #[.slice ad l.length cp] w fun r w'=>r=vi (rU l)∧w'=w:=by
 obtain⟨w0,rfl,_⟩:=W0 w
 refine cT 18 func35 rfl (Af (Az (Am (Aa (Az (Am (Af (I rfl (U (.Cw underlying37 (.t rfl)) (U (.move (.const _)) (Ai (Ae (A3 (σ:=Nat) (fun s w=>(s≤l.length)∧(∀y∈l.take s,y=0)∧(w=w0)) (fun s=>[(8,.eq (vi (s:Int)))]) ([(3,.eq _),(6,.eq _),(7,.eq _)]) (fun s=>l.length-s) 0 ?_ tQ ?_)))))))))))))
 ·exact⟨Nat.zero_le _,by simp,rfl⟩
 rintro k w1 ⟨hk,hn,hE⟩
 refine Af (U (.l2 rfl rfl) (Am (CW.b rfl (fun h9=>?_) (fun h9=>?_))))
 ·replace h9:=dQ h9
  refine Aj (Ac (Ah (Ae (Ah ?_))))
  subst hE
  obtain⟨y,hy⟩:∃y,l[k]?=some y:=⟨_,List.getElem?_eq_getElem (by simp at h9;omega)⟩
  obtain⟨Bx,ox,rfl,hcy⟩:=hE0 k y hy
  refine Aa (U (.Aw underlying37 sizeOf3 (j:=k) (.t rfl) (.t rfl) oQ rfl) (U (.lb rfl (hcy.nth (j:=0) rfl)) (LW.A rfl (Am (Aa (I rfl (I rfl (U (.neq (.t rfl) (.t rfl)) (Ai (CW.b rfl (fun h14=>?_) (fun h14=>?_)))))))))))
  ·replace h14:=dQ h14
   refine Af (I rfl (LW.A rfl (Ai (Al (Ay (Ap (Ap (Ay (Ap (KW.q ?_))))))))))
   exact⟨congrArg vi (zX hn hy (by simpa using h14)).symm,rfl⟩
  refine Aj (Ad (Ac (Aa (U (.ic rfl oQ) (I rfl (LW.nil (Ar ?_)))))))
  exact⟨k+1,⟨by simp at h9;omega,fun z hz=>by rw[List.take_add_one,hy]at hz;rcases List.mem_append.1 hz with h|h;exact hn z h;rw[List.mem_singleton.1 h];simpa using h14,rfl⟩,tQ,by simp at h9;omega⟩
 refine A4 (Ab (Ab (An (Ac (Af (I rfl (LW.A rfl (Ai (Al (KW.q ?_))))))))))
 exact⟨congrArg vi (qB hn (by simp at h9;omega)).symm,hE⟩
theorem Wt(x y:Ar2)(w:World):Ret prog 34 #[.agg x.cells,.agg y.cells] w fun r w'=>r=vi (Ng x y)∧Dr w w':=by
 have hD:=Dr.refl w
 refine cT 17 func34 rfl (Af (Ao (.FL (.t rfl)) rfl ?_))
 rintro _ w1 ⟨B2,rfl,NB2,dB2⟩
 replace hD:=hD.trans (Dr.same NB2.up dB2)
 have hB2:=NB2.blk
 refine Ao (.FL (.t rfl)) rfl ?_
 rintro _ w2 ⟨B3,rfl,NB3,dB3⟩
 replace hB2:=hB2.up NB3.up
 replace hD:=hD.trans (Dr.same NB3.up dB3)
 have hB3:=NB3.blk
 refine Az (Am ?_)
 have hDw:=hD
 refine qA 12 [.eq (.pointer (some ⟨B2,0,none⟩)),.eq (vi x.a),.eq (.pointer (some ⟨B3,0,none⟩)),.eq (vi y.a),.eq (vi (Lib.compareInt x.a y.a)),.eq (.pointer (some ⟨B2,1,none⟩)),.eq (vi x.b),.eq (.pointer (some ⟨B3,1,none⟩)),.eq (vi y.b),.eq (vi (Lib.compareInt x.b y.b)),.pred (fun v w=>Sl w v 1 A5 [Lib.compareInt x.a y.a,Lib.compareInt x.b y.b]),.eq (vi (rU [Lib.compareInt x.a y.a,Lib.compareInt x.b y.b]))] [16] kQ rfl kQ kQ kQ kQ kQ kQ kQ ⟨PhD.eq _,PhD.eq _,PhD.eq _,PhD.eq _,PhD.eq _,PhD.eq _,PhD.eq _,PhD.eq _,PhD.eq _,PhD.eq _,PhD.pred fun _ _ _ h u=>Sl.up h u,PhD.eq _,trivial⟩ ?_ ?_
 ·intro W hD0
  have hU:=((Dr.drew w2).trans hD0).up
  refine aC ⟨rfl,TD.p (PEv.Cn (j:=0) underlying108 sizeOf3 (.t rfl) (.const _) cQ) rfl⟩ (aC ⟨rfl,TD.p (PEv.lb rfl ((hB2.up hU).Ak rfl)) rfl⟩ (aC ⟨rfl,TD.p (PEv.Cn (j:=0) underlying108 sizeOf3 (.t rfl) (.const _) cQ) rfl⟩ (aC ⟨rfl,TD.p (PEv.lb rfl ((hB3.up hU).Ak rfl)) rfl⟩ (aC ⟨rfl,TD.c (eC (.u rfl rfl) (iL)) (Z2 x.a y.a _) (by rintro _ W1 ⟨rfl,rfl⟩;exact⟨Dr.refl _,rfl⟩)⟩ (aC ⟨rfl,TD.p (PEv.Cn (j:=1) underlying108 sizeOf3 (.t rfl) (.const _) cQ) rfl⟩ (aC ⟨rfl,TD.p (PEv.lb rfl ((hB2.up hU).Ak rfl)) rfl⟩ (aC ⟨rfl,TD.p (PEv.Cn (j:=1) underlying108 sizeOf3 (.t rfl) (.const _) cQ) rfl⟩ (aC ⟨rfl,TD.p (PEv.lb rfl ((hB3.up hU).Ak rfl)) rfl⟩ (aC ⟨rfl,TD.c (eC (.u rfl rfl) (iL)) (Z2 x.b y.b _) (by rintro _ W1 ⟨rfl,rfl⟩;exact⟨Dr.refl _,rfl⟩)⟩ (aC ⟨rfl,TD.r (Qf (xs:=[Lib.compareInt x.a y.a,Lib.compareInt x.b y.b]) (enc:=A5) (mk:=vi) underlying37 sizeOf3 zeroValue3 rfl cQ (fun _=>rfl) (fun _=>rfl) (.ct rfl (.cu rfl)) rfl) (by rintro _ W1 ⟨h,e⟩;exact⟨Dr.same h.q.1 e,h.q.2⟩)⟩ (aC ⟨rfl,TD.open (d:=15) rfl (by rintro _ ⟨ad,cp,rfl,hE⟩;exact TD.c (eC (.o rfl) (xU)) (uT ad cp [Lib.compareInt x.a y.a,Lib.compareInt x.b y.b] _ hE bQ) (by rintro _ W1 ⟨rfl,rfl⟩;exact⟨Dr.refl _,rfl⟩))⟩ ?_)))))))))))
  exact allL.nil
 intro w3 g hD0 hg
 have hD:=(Dr.drew w2).trans hD0
 have e4:g 16=vi (rU [Lib.compareInt x.a y.a,Lib.compareInt x.b y.b]):=hg 11 _ 16 cQ rfl rfl
 change LW _ _ _ _ _ _ _ _ ((16,.eq (g 16))::_) _
 rw[e4]
 replace hD:=hDw.trans hD
 refine LW.A rfl (Ai (Al (KW.q ?_)))
 exact⟨congrArg vi (JO x y),hD⟩
end Go.Proofs.YtdilcdgjklimoaaGreatDoor
