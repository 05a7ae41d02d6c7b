import Derived.Test.YtocogcgnahbpkaaGreatC2
namespace Go.Proofs.YtocogcgnahbpkaaGreat.Rf
def goesP:Nat→List Ent→Nat→Prop
 | _,[],_=>True
 | t,e :: es,T=>max t 1≤e.term∧e.term≤T∧goesP e.term es T
theorem goesP_of {g:Gh} (hT:∀ t k,tmL (g.llog t) k≤t) {L:List Ent} {T:Nat} (hA:Agree g L) (hLT:∀ k,tmL L k≤T) (es:List Ent):∀ j t,j+es.length≤L.length→es=(L.drop j).take es.length→t≤tmL L j∨t=0→goesP t es T:=by
 induction es with
 | nil=>intros;exact trivial
 | cons e es ih =>
  intro j t h1 h2 h3
  rw [List.length_cons] at h1
  have hj:j<L.length:=by omega
  have hd:L.drop j=L[j] :: L.drop (j+1):=(List.drop_eq_getElem_cons hj)
  have he:e=L[j]∧es=(L.drop (j+1)).take es.length:=by
   rw [hd,List.length_cons,List.take_succ_cons] at h2
   injection h2 with a b
   exact ⟨a,b⟩
  have hLt:tmL L (j+1)=e.term:=by
   unfold tmL
   rw [if_neg (by omega),show j+1-1=j from rfl,List.getElem?_eq_getElem hj,he.1];rfl
  have h4:tmL L j≤tmL L (j+1):=hA.mono hT (Nat.le_succ j) hj
  have h5:1≤tmL L (j+1):=hA.pos (Nat.succ_le_succ (Nat.zero_le _)) hj
  have h6:=hLT (j+1)
  rw [hLt] at h4 h5 h6
  exact ⟨by omega,h6,ih (j+1) e.term (by omega) he.2 (.inl (by rw [hLt];exact Nat.le_refl _))⟩
section
variable {n:Nat} {nd:Nat→Nd} {g g' g0:Gh} {net:List Msg} {i:Nat} {s s':Nd} {ms ms':List Msg} {c:Cfg} {draw:Int} {m:Msg}
theorem Inv.goes (h:Inv n nd net g) (hm:m∈net):goesP m.lt m.es m.term:=by
 have hM:=(h.msgs m hm).1
 by_cases hk:m.kind=5
 ·obtain ⟨_,b,d,f,_⟩:=hM.app hk
  exact goesP_of h.llT (h.llA m.term) (h.llT m.term) m.es m.idx m.lt b f (.inl (by rw [d];exact Nat.le_refl _))
 ·rw [hM.form.es hk];exact trivial
theorem Inv.commL (h:Inv n nd net g) (i:Nat) {T:Nat} (hT:(nd i).term≤T) (hl:g.lid T≠0):(nd i).commit≤(g.llog T).length∧(nd i).log.take (nd i).commit=(g.llog T).take (nd i).commit:=by
 have hcm:=h.comm i
 rcases hcm.2 with h0 | ⟨t0,c',x,y,z,w⟩
 ·rw [h0];exact ⟨Nat.zero_le _,by simp⟩
 ·rcases Nat.lt_or_ge t0 T with u | u
  ·have:=h.comp t0 T c' u hl z.1 z.2.1 z.choos
   exact ⟨by omega,by rw [w];exact (take_of_take this.2 y).symm⟩
  ·obtain rfl:t0=T:=by omega
   exact ⟨Nat.le_trans y (z.len h.ackL),w⟩
theorem Inv.right5 (h:Inv n nd net g) (hm:m∈net) (hk:m.kind=5):¬ (m.term=(nd m.dst).term∧(nd m.dst).role=4)∧((nd m.dst).term≤m.term→m.idx=(nd m.dst).commit→m.lt=(nd m.dst).tm (nd m.dst).commit):=by
 have hM:=(h.msgs m hm).1
 obtain ⟨a,b,d,f,_⟩:=hM.app hk
 refine ⟨fun ⟨x,y⟩=>?_,fun x y=>?_⟩
 ·have:=(h.lead m.dst y).1
  rw [←x,a] at this
  exact hM.form.ne this
 ·have:=h.commL m.dst x (by rw [a];have:=hM.rng.1.1;omega)
  show m.lt=tmL (nd m.dst).log (nd m.dst).commit
  rw [tmL_congr this.2 (Nat.le_refl _),d,y]
theorem Inv.right6 (h:Inv n nd net g) (hm:m∈net) (hk:m.kind=6) (ht:m.term=(nd m.dst).term) (hr:(nd m.dst).role=4) (hj:m.rej=false):m.idx≤(nd m.dst).fin:=by
 have hM:=(h.msgs m hm).1
 have a:=hM.took hk hj
 have b:=h.ackL m.term m.src
 have:=(h.lead m.dst hr).2.1
 rw [←ht] at this
 rw [this] at b
 exact Nat.le_trans a b
def KnownOK (n:Nat) (g:Gh) (j:Nat) (e:Ent) (u:Nat):Prop:=1≤j∧∃ t0 c',t0≤u∧j≤c'∧Comm n g t0 c'∧(g.llog t0)[j-1]?=some e
theorem KnownOK.ext {nd':Nat→Nd} (e:Ext nd nd' g g') (hL:∀ t q,g.ack t q≤(g.llog t).length) {j u u':Nat} {x:Ent} (h:KnownOK n g j x u) (hu:u≤u'):KnownOK n g' j x u':=by
 obtain ⟨h1,t0,c',a,b,d,f⟩:=h
 have hl:=d.len hL
 refine ⟨h1,t0,c',by omega,b,e.comm hL d,?_⟩
 have:=(e.llog t0 c' hl).2
 have k:∀ l:List Ent,l[j-1]?=(l.take c')[j-1]?:=fun l=>by rw [List.getElem?_take,if_pos (by omega)]
 rw [k,this,←k];exact f
theorem getElem?_of_take {l l':List Ent} {c j:Nat} (h:l.take c=l'.take c) (h1:1≤j) (hj:j≤c):l[j-1]?=l'[j-1]?:=by
 have k:∀ l:List Ent,l[j-1]?=(l.take c)[j-1]?:=fun l=>by rw [List.getElem?_take,if_pos (by omega)]
 rw [k l,k l',h]
theorem Inv.complete (h:Inv n nd net g) {j u:Nat} {x:Ent} (hk:KnownOK n g j x u) (hr:(nd i).role=4) (hu:u<(nd i).term):(nd i).log[j-1]?=some x:=by
 obtain ⟨h1,t0,c',a,b,d,f⟩:=hk
 have hl:=h.lead i hr
 have hi:=(h.rng i (by omega)).1
 have:=h.comp t0 (nd i).term c' (by omega) (by rw [hl.1];omega) d.1 d.2.1 d.choos
 rw [hl.2.1] at this
 rw [getElem?_of_take this.2 h1 b];exact f
theorem Inv.known (h:Inv n nd net g) {j u:Nat} {x:Ent} (hk:KnownOK n g j x u) (hj:j≤(nd i).commit):(nd i).log[j-1]?=some x:=by
 obtain ⟨h1,t0,c',a,b,d,f⟩:=hk
 rcases (h.comm i).2 with h0 | ⟨t1,c1,x1,y1,z1,w1⟩
 ·omega
 ·rw [getElem?_of_take w1 h1 hj]
  have lidne:∀ {t k},Comm n g t k→g.lid t≠0:=fun {t k} hh h0=>by
   have:=hh.len h.ackL
   rw [(h.llN t h0).1] at this
   have:=hh.1
   simp at *;omega
  rcases Nat.lt_trichotomy t0 t1 with u' | u' | u'
  ·have:=h.comp t0 t1 c' u' (lidne z1) d.1 d.2.1 d.choos
   rw [getElem?_of_take this.2 h1 b];exact f
  ·subst u';exact f
  ·have:=h.comp t1 t0 c1 u' (lidne d) z1.1 z1.2.1 z1.choos
   rw [←getElem?_of_take this.2 h1 (by omega)];exact f
theorem Inv.knows (h:Inv n nd net g) {j:Nat} {x:Ent} (h1:1≤j) (hj:j≤(nd i).commit) (hx:(nd i).log[j-1]?=some x):KnownOK n g j x (nd i).term:=by
 rcases (h.comm i).2 with h0 | ⟨t1,c1,x1,y1,z1,w1⟩
 ·omega
 ·exact ⟨h1,t1,c1,x1,by omega,z1,by rw [←getElem?_of_take w1 h1 hj];exact hx⟩
theorem Inv.matched (h:Inv n nd net g) (i j:Nat) {k:Nat} (h1:1≤k) (hi:k≤(nd i).log.length) (hj:k≤(nd j).log.length) (ht:tmL (nd i).log k=tmL (nd j).log k):(nd i).log.take k=(nd j).log.take k:=(h.logA i).same (h.logA j) h1 hi hj ht
theorem Inv.oneVote (h:Inv n nd net g) {nd':Nat→Nd} {net':List Msg} (h':Inv n nd' net' g') (e:Ext nd nd' g g') (ht:(nd' i).term=(nd i).term) (hv:(nd i).vote≠0):(nd' i).vote=(nd i).vote:=by
 rw [←h'.voteN i,ht,e.voted _ _ (by rw [h.voteN i];exact hv),h.voteN i]
theorem countFrom_ge (c:Cfg) (s:Nd) (k:Nat):s.commit≤countFrom c s k:=by
 rcases countFrom_cases c s k with h | ⟨j,h,_,_,_,h'⟩ <;> omega
theorem count_commit {k:Nat} (h:k≤s.commit):k≤(count c s).commit:=Nat.le_trans h (countFrom_ge c s _)
theorem lead_commit {k:Nat} (h:k≤s.commit):k≤(lead c s).1.commit:=by
 unfold lead
 simp only
 split <;> exact count_commit h
theorem stand_commit {k:Nat} (h:k≤s.commit):k≤(stand c draw s).1.commit:=by
 unfold stand
 simp only
 split
 ·exact lead_commit h
 ·exact h
theorem begin_commit {k:Nat} (h:k≤s.commit):k≤(begin_ c draw s).1.commit:=by
 unfold begin_
 simp only
 split
 ·exact h
 ·split
  ·exact stand_commit h
  ·exact h
theorem tick_commit:s.commit≤(tick c draw s).1.commit:=by
 unfold tick
 simp only
 split
 ·split
  ·exact begin_commit (Nat.le_refl _)
  ·exact Nat.le_refl _
 ·split
  ·exact Nat.le_refl _
  ·by_cases he:c.most≤s.elapsed+1
   ·simp only [if_pos he]
    split <;> exact Nat.le_refl _
   ·simp only [if_neg he]
    split <;> exact Nat.le_refl _
theorem propose_commit {l:List (List Int)}:s.commit≤(propose c l s).1.commit:=count_commit (Nat.le_refl _)
theorem kinds_commit:s.commit≤(kinds c draw m s).1.commit:=by
 unfold kinds
 split
 ·unfold preVote;split <;> exact Nat.le_refl _
 ·unfold preReply
  split
  ·exact Nat.le_refl _
  ·simp only
   split
   ·exact stand_commit (Nat.le_refl _)
   ·exact Nat.le_refl _
 ·unfold vote;split <;> exact Nat.le_refl _
 ·unfold voteReply
  split
  ·exact Nat.le_refl _
  ·split
   ·simp only
    split
    ·exact lead_commit (Nat.le_refl _)
    ·exact Nat.le_refl _
   ·simp only
    have:s.commit≤(if m.src∈s.gr then s else { s with rf:=put s.rf m.src }).commit:=by split <;> exact Nat.le_refl _
    generalize (if m.src∈s.gr then s else { s with rf:=put s.rf m.src })=s1 at this ⊢
    split <;> exact this
 ·unfold append
  simp only
  split
  ·exact Nat.le_refl _
  ·split
   ·exact Nat.le_refl _
   ·split
    ·exact Nat.le_refl _
    ·exact Nat.le_max_left ..
 ·unfold appendReply
  split
  ·exact Nat.le_refl _
  ·simp only
   split
   ·split <;> exact Nat.le_refl _
   ·split
    ·have:s.commit≤(count c { s with hd:=put s.hd m.src,mt:=upd s.mt m.src m.idx,nx:=upd s.nx m.src (m.idx+1) }).commit:=count_commit (Nat.le_refl _)
     split
     ·exact this
     ·split <;> exact this
    ·exact Nat.le_refl _
 ·exact Nat.le_refl _
theorem message_commit:s.commit≤(message c draw m s).1.commit:=by
 unfold message
 split
 ·exact Nat.le_refl _
 ·split
  ·exact Nat.le_trans (show s.commit≤(follow c draw m.term (if m.kind=5 then m.src else 0) s).commit from Nat.le_refl _) kinds_commit
  ·split
   ·exact Nat.le_refl _
   ·exact kinds_commit
end
def wt (g:Gh) (nd:Nat→Nd) (m:Msg):Nat :=
 if m.kind=5 then (if m.idx≤g.ack m.term m.dst∧((nd m.src).role=1∨((nd m.src).role=4∧(nd m.src).term=m.term)) then 2 else 4)
 else if m.kind=6 then (if m.rej=false∨(nd m.dst).role=1∨((nd m.dst).role=4∧(nd m.dst).term≠m.term) then 1 else 3)
 else if m.kind=1∨m.kind=3 then 2 else 1
def pay (s:Nd) (p:Nat):Nat:=2*(s.fin-s.mt p)+2*(s.nx p-1-s.mt p)
def bud (c:Cfg) (s:Nd):Nat :=
 if s.role=4 then ((others c s.id).map (pay s)).sum+4*((others c s.id).length*(s.fin-s.commit))
 else if s.role=3 then (others c s.id).length*(8*s.fin+10)
 else if s.role=2 then 2*(others c s.id).length+(others c s.id).length*(8*s.fin+10)
 else 0
def psi (c:Cfg) (g:Gh) (nd:Nat→Nd) (net:List Msg):Nat:=(net.map (wt g nd)).sum+((List.range' 1 c.n).map fun i=>bud c (nd i)).sum
theorem sum_le {α:Type} {l:List α} {f f':α→Nat} (h:∀ x∈l,f' x≤f x):(l.map f').sum≤(l.map f).sum:=by
 induction l with
 | nil=>exact Nat.le_refl _
 | cons a l ih =>
  simp only [List.map_cons,List.sum_cons]
  have:=h a (by simp)
  have:=ih fun x hx=>h x (by simp [hx])
  omega
theorem sum_const {α:Type} (l:List α) (k:Nat):(l.map fun _=>k).sum=l.length*k:=by
 induction l with
 | nil=>simp
 | cons a l ih=>simp only [List.map_cons,List.sum_cons,List.length_cons,ih,Nat.succ_mul];omega
theorem sum_le_const {α:Type} {l:List α} {f:α→Nat} {k:Nat} (h:∀ x∈l,f x≤k):(l.map f).sum≤l.length*k:=by
 rw [←sum_const];exact sum_le h
theorem sum_turn {l:List Nat} {f f':Nat→Nat} {i:Nat} (hn:l.Nodup) (hi:i∈l) (h:∀ x∈l,x≠i→f' x=f x):(l.map f').sum+f i=(l.map f).sum+f' i:=by
 induction l with
 | nil=>exact absurd hi (by simp)
 | cons a l ih =>
  obtain ⟨h1,h2⟩:=List.nodup_cons.1 hn
  simp only [List.map_cons,List.sum_cons]
  rcases List.mem_cons.1 hi with rfl | hm
  ·have:l.map f'=l.map f:=List.map_congr_left fun x hx=>h x (by simp [hx]) fun e=>h1 (by rw [←e];exact hx)
   rw [this];omega
  ·have:=ih h2 hm fun x hx=>h x (by simp [hx])
   have:=h a (by simp) fun e=>h1 (by rw [e];exact hm)
   omega
def Tr (s s':Nd):Prop:=s'.role=1∨(s.role≠1∧s.role≠4∧s'.role≠1)∨(s.role=4∧s'.role=4∧s'.term=s.term)
section
variable {n:Nat} {nd:Nat→Nd} {g g' g0:Gh} {net:List Msg} {i:Nat} {s s':Nd} {ms ms':List Msg} {c:Cfg} {draw:Int} {m:Msg}
theorem wt_mono (hE:∀ t q,g.ack t q≤g'.ack t q) (ht:Tr (nd i) s') (x:Msg):wt g' (setN nd i s') x≤wt g nd x:=by
 unfold wt
 split
 ·
  by_cases hc:x.idx≤g.ack x.term x.dst∧((nd x.src).role=1∨((nd x.src).role=4∧(nd x.src).term=x.term))
  ·rw [if_pos hc,if_pos]
   ·exact Nat.le_refl _
   ·refine ⟨Nat.le_trans hc.1 (hE _ _),?_⟩
    by_cases hs:x.src=i
    ·rw [hs,setN_at]
     rw [hs] at hc
     rcases ht with h | h | h
     ·exact .inl h
     ·rcases hc.2 with y | y <;> omega
     ·rcases hc.2 with y | y <;> omega
    ·rw [setN_ne _ _ hs];exact hc.2
  ·rw [if_neg hc]
   split <;> omega
 ·split
  ·by_cases hc:x.rej=false∨(nd x.dst).role=1∨((nd x.dst).role=4∧(nd x.dst).term≠x.term)
   ·rw [if_pos hc,if_pos]
    ·exact Nat.le_refl _
    ·by_cases hs:x.dst=i
     ·rw [hs,setN_at]
      rw [hs] at hc
      rcases hc with y | y | y
      ·exact .inl y
      ·rcases ht with h | h | h
       ·exact .inr (.inl h)
       ·omega
       ·omega
      ·rcases ht with h | h | h
       ·exact .inr (.inl h)
       ·omega
       ·refine .inr (.inr ⟨h.2.1,?_⟩)
        rw [h.2.2];exact y.2
     ·rw [setN_ne _ _ hs];exact hc
   ·rw [if_neg hc]
    split <;> omega
  ·exact Nat.le_refl _
theorem wt_pos (x:Msg):1≤wt g nd x:=by
 unfold wt
 split
 ·split <;> omega
 ·split
  ·split <;> omega
  ·split <;> omega
theorem wt_app (x:Msg):wt g nd x≤4:=by
 unfold wt
 split
 ·split <;> omega
 ·split
  ·split <;> omega
  ·split <;> omega
theorem bud1 (h:s.role=1):bud c s=0:=by unfold bud;rw [if_neg (by omega),if_neg (by omega),if_neg (by omega)]
theorem bud2 (h:s.role=2):bud c s=2*(others c s.id).length+(others c s.id).length*(8*s.fin+10):=by unfold bud;rw [if_neg (by omega),if_neg (by omega),if_pos h]
theorem bud3 (h:s.role=3):bud c s=(others c s.id).length*(8*s.fin+10):=by unfold bud;rw [if_neg (by omega),if_pos h]
theorem bud4 (h:s.role=4):bud c s=((others c s.id).map (pay s)).sum+4*((others c s.id).length*(s.fin-s.commit)):=by unfold bud;rw [if_pos h]
theorem bud_same (h1:s'.id=s.id) (h2:s'.role=s.role) (h3:s'.log=s.log) (h4:s'.commit=s.commit) (h5:s'.mt=s.mt) (h6:s'.nx=s.nx):bud c s'=bud c s:=by
 unfold bud pay Nd.fin
 rw [h1,h2,h3,h4,h5,h6]
theorem apps_len (c:Cfg) (s:Nd):(apps c s).length=(others c s.id).length:=by unfold apps;rw [List.length_map]
theorem bud_lead (c:Cfg) (s:Nd):bud c (lead c s).1+4*(lead c s).2.length≤(others c s.id).length*(8*s.fin+10):=by
 have key:∀ L:List Ent,L.length≤s.log.length+1→∀ s1:Nd,s1.id=s.id→s1.log=L→s1.role=4→(∀ p,s1.mt p=0)→(∀ p,s1.nx p=s.log.length+1)→bud c (count c s1)+4*(apps c (count c s1)).length≤(others c s.id).length*(8*s.fin+10):=by
  intro L hL s1 hid hlog hr hmt hnx
  rw [apps_len,bud4 (s:=count c s1) hr]
  show ((others c s1.id).map (pay (count c s1))).sum+4*((others c s1.id).length*((count c s1).fin-(count c s1).commit))+4*(others c s1.id).length≤_
  rw [hid]
  have h1:((others c s.id).map (pay (count c s1))).sum≤(others c s.id).length*(4*s.log.length+2):=sum_le_const fun p _=>by
   show 2*(s1.log.length-s1.mt p)+2*(s1.nx p-1-s1.mt p)≤_
   rw [hmt,hnx,hlog];omega
  have h2:(count c s1).fin-(count c s1).commit≤s.log.length+1:=by
   show s1.log.length-_≤_
   rw [hlog];omega
  have h3:=Nat.mul_le_mul_left (others c s.id).length h2
  have h4:s.fin=s.log.length:=rfl
  rw [h4]
  generalize (others c s.id).length=d at *
  generalize s.log.length=f at *
  have e1:d*(4*f+2)=4*(d*f)+2*d:=by rw [Nat.mul_add,Nat.mul_left_comm,Nat.mul_comm d 2]
  have e2:d*(f+1)=d*f+d:=by rw [Nat.mul_add,Nat.mul_one]
  have e3:d*(8*f+10)=8*(d*f)+10*d:=by rw [Nat.mul_add,Nat.mul_left_comm,Nat.mul_comm d 10]
  omega
 unfold lead
 simp only
 split
 ·exact key _ (by rw [List.length_append];exact Nat.le_refl _) _ rfl rfl rfl (fun _=>rfl) (fun _=>rfl)
 ·exact key _ (Nat.le_succ _) _ rfl rfl rfl (fun _=>rfl) (fun _=>rfl)
theorem wt_small (x:Msg) (h5:x.kind≠5) (h6:x.kind=6→x.rej=false) (h1:x.kind≠1∧x.kind≠3):wt g nd x=1:=by
 unfold wt
 rw [if_neg h5]
 split
 ·rename_i hk;rw [if_pos (.inl (h6 hk))]
 ·rw [if_neg (by omega)]
theorem wt_ask (x:Msg) (h1:x.kind=1∨x.kind=3):wt g nd x=2:=by
 unfold wt
 rw [if_neg (by omega),if_neg (by omega),if_pos h1]
theorem sum_one (f:Msg→Nat) (x:Msg):([x].map f).sum=f x:=by simp
theorem apps_wt (c:Cfg) (s:Nd):((apps c s).map (wt g nd)).sum≤4*(apps c s).length:=by
 rw [Nat.mul_comm];exact sum_le_const fun x _=>wt_app x
theorem lead_apps (c:Cfg) (s:Nd):∃ s1,(lead c s).2=apps c s1:=⟨_,rfl⟩
theorem lead_pays (c:Cfg) (s:Nd) (nd':Nat→Nd):bud c (lead c s).1+((lead c s).2.map (wt g' nd')).sum≤(others c s.id).length*(8*s.fin+10):=by
 have h1:=bud_lead c s
 obtain ⟨s1,h2⟩:=lead_apps c s
 have h3:=apps_wt (g:=g') (nd:=nd') c s1
 rw [←h2] at h3
 omega
theorem lead_role:(lead c s).1.role=4:=by
 unfold lead
 simp only
 split <;> rfl
theorem stand_role:(stand c draw s).1.role≠1:=by
 unfold stand
 simp only
 split
 ·rw [lead_role];omega
 ·show ¬ ((3:Nat)=1);omega
theorem stand_pays (nd':Nat→Nd):bud c (stand c draw s).1+((stand c draw s).2.map (wt g' nd')).sum≤2*(others c s.id).length+(others c s.id).length*(8*s.fin+10):=by
 unfold stand
 simp only
 split
 ·exact Nat.le_trans (lead_pays c _ nd') (Nat.le_add_left ..)
 ·rw [bud3 (by rfl)]
  have:∀ l:List Nat,((l.map fun p=>({ kind:=3,src:=s.id,dst:=p,term:=s.term+1,idx:=s.fin,lt:=s.tm s.fin }:Msg)).map (wt g' nd')).sum=2*l.length:=fun l=>by
   rw [List.map_map]
   have:(wt g' nd'∘fun p=>({ kind:=3,src:=s.id,dst:=p,term:=s.term+1,idx:=s.fin,lt:=s.tm s.fin }:Msg))=fun _=>2:=funext fun p=>wt_ask _ (.inr rfl)
   rw [this,sum_const,Nat.mul_comm]
  have:=this (others c s.id)
  rw [Nat.add_comm]
  exact Nat.add_le_add_right (Nat.le_of_eq this) _
def Pays (c:Cfg) (g g':Gh) (nd nd':Nat→Nd) (m:Msg) (s:Nd) (r:Nd×List Msg):Prop:=bud c r.1+(r.2.map (wt g' nd')).sum+1≤bud c s+wt g nd m
theorem pays_nil {nd':Nat→Nd} (h:bud c s'≤bud c s):Pays c g g' nd nd' m s (s',[]):=by
 have:=wt_pos (g:=g) (nd:=nd) m
 show bud c s'+0+1≤_
 omega
theorem pays_preVote (nd':Nat→Nd) (hk:m.kind=1):Pays c g g' nd nd' m s (preVote m s):=by
 unfold preVote Pays
 rw [wt_ask m (.inl hk)]
 split
 ·rw [sum_one,wt_small _ (by show ¬ ((2:Nat)=5);omega) (fun h=>absurd h (by show ¬ ((2:Nat)=6);omega)) (by show ¬ ((2:Nat)=1)∧¬ ((2:Nat)=3);omega)]
  exact Nat.le_refl _
 ·rw [sum_one,wt_small _ (by show ¬ ((2:Nat)=5);omega) (fun h=>absurd h (by show ¬ ((2:Nat)=6);omega)) (by show ¬ ((2:Nat)=1)∧¬ ((2:Nat)=3);omega)]
  exact Nat.le_refl _
theorem pays_preReply (nd':Nat→Nd):Pays c g g' nd nd' m s (preReply c draw m s):=by
 unfold preReply
 split
 ·exact pays_nil (Nat.le_refl _)
 ·rename_i hne
  have h2:s.role=2:=Classical.byContradiction fun h=>hne (.inl h)
  simp only
  split
  ·have h1:=wt_pos (g:=g) (nd:=nd) m
   have h3:=stand_pays (c:=c) (draw:=draw) (s:={ s with gr:=put s.gr m.src }) (g':=g') nd'
   unfold Pays
   rw [bud2 h2]
   exact Nat.add_le_add h3 h1
  ·exact pays_nil (Nat.le_of_eq (bud_same rfl rfl rfl rfl rfl rfl))
theorem pays_vote (nd':Nat→Nd) (hk:m.kind=3):Pays c g g' nd nd' m s (vote c draw m s):=by
 unfold vote Pays
 rw [wt_ask m (.inr hk)]
 split
 ·simp only
  rw [sum_one,wt_small _ (by show ¬ ((4:Nat)=5);omega) (fun h=>absurd h (by show ¬ ((4:Nat)=6);omega)) (by show ¬ ((4:Nat)=1)∧¬ ((4:Nat)=3);omega)]
  rw [bud_same (s:=s) (s':=rest c draw { s with vote:=m.src }) rfl rfl rfl rfl rfl rfl]
  exact Nat.le_refl _
 ·rw [sum_one,wt_small _ (by show ¬ ((4:Nat)=5);omega) (fun h=>absurd h (by show ¬ ((4:Nat)=6);omega)) (by show ¬ ((4:Nat)=1)∧¬ ((4:Nat)=3);omega)]
  exact Nat.le_refl _
theorem pays_voteReply (nd':Nat→Nd):Pays c g g' nd nd' m s (voteReply c draw m s):=by
 unfold voteReply
 split
 ·exact pays_nil (Nat.le_refl _)
 ·rename_i hne
  have h3:s.role=3:=Classical.byContradiction hne
  split
  ·simp only
   split
   ·have h1:=wt_pos (g:=g) (nd:=nd) m
    have h4:=lead_pays c { s with rf:=s.rf.filter (·≠m.src),gr:=put s.gr m.src } nd' (g':=g')
    unfold Pays
    rw [bud3 h3]
    exact Nat.add_le_add h4 h1
   ·exact pays_nil (Nat.le_of_eq (bud_same rfl rfl rfl rfl rfl rfl))
  ·simp only
   have:bud c (if m.src∈s.gr then s else { s with rf:=put s.rf m.src })=bud c s:=by
    split
    ·rfl
    ·exact bud_same rfl rfl rfl rfl rfl rfl
   generalize (if m.src∈s.gr then s else { s with rf:=put s.rf m.src })=s1 at this ⊢
   split
   ·exact pays_nil (by rw [bud1 (by rfl)];exact Nat.zero_le _)
   ·exact pays_nil (Nat.le_of_eq this)
theorem append_reply (c:Cfg) (draw:Int) (m:Msg) (s:Nd):(append c draw m s).1.role=1∧∃ x,(append c draw m s).2=[x]∧x.kind=6∧x.dst=m.src∧x.term=max s.term m.term∧(x.rej=true→s.fin<m.idx∨s.tm m.idx≠m.lt):=by
 unfold append
 simp only
 split
 ·exact ⟨rfl,_,rfl,rfl,rfl,rfl,fun h=>by simp [re] at h⟩
 ·split
  ·rename_i h;exact ⟨rfl,_,rfl,rfl,rfl,rfl,fun _=>.inl h⟩
  ·split
   ·rename_i h;exact ⟨rfl,_,rfl,rfl,rfl,rfl,fun _=>.inr h⟩
   ·exact ⟨rfl,_,rfl,rfl,rfl,rfl,fun h=>by simp [re] at h⟩
theorem Inv.accepts (h:Inv n nd net g) (hm:m∈net) (hk:m.kind=5) (ht:(nd m.dst).term≤m.term) (ha:m.idx≤g.ack m.term m.dst):¬ ((nd m.dst).fin<m.idx)∧(nd m.dst).tm m.idx=m.lt:=by
 have hM:=(h.msgs m hm).1
 rcases Nat.lt_or_ge (nd m.dst).term m.term with u | u
 ·rw [(h.voteF m.dst m.term u).2] at ha
  have h0:m.idx=0:=by omega
  rw [h0,(hM.form.zero (by omega)).2 h0]
  exact ⟨by omega,rfl⟩
 ·have he:m.term=(nd m.dst).term:=by omega
  have:=h.ackN m.dst
  rw [←he] at this
  refine ⟨by show ¬ ((nd m.dst).log.length<m.idx);omega,?_⟩
  show tmL (nd m.dst).log m.idx=m.lt
  rw [tmL_congr this.2 ha,(hM.app hk).2.2.1]
theorem wt_reply_le (x:Msg) (hk:x.kind=6):wt g nd x≤3:=by
 unfold wt
 rw [if_neg (by omega),if_pos hk]
 split <;> omega
theorem pays_append (hI:Inv n nd net g) (hm:m∈net) (hk:m.kind=5) (hlog:s.log=(nd m.dst).log) (hle:(nd m.dst).term≤m.term) (nd':Nat→Nd):Pays c g g' nd nd' m s (append c draw m s):=by
 obtain ⟨h1,x,h2,h3,_,_,h4⟩:=append_reply c draw m s
 unfold Pays
 rw [bud1 h1,h2,sum_one]
 by_cases hw:m.idx≤g.ack m.term m.dst
 ·have ha:=hI.accepts hm hk hle hw
  have hr:x.rej=false:=by
   cases hb:x.rej with
   | false=>rfl
   | true =>
    rcases h4 hb with y | y
    ·exact absurd (by show (nd m.dst).log.length<m.idx;rw [←hlog];exact y) ha.1
    ·exact absurd (by show tmL s.log m.idx=m.lt;rw [hlog];exact ha.2) y
  rw [wt_small x (by omega) (fun _=>hr) (by omega)]
  have:2≤wt g nd m:=by unfold wt;rw [if_pos hk];split <;> omega
  omega
 ·have h5:=wt_reply_le (g:=g') (nd:=nd') x h3
  have:wt g nd m=4:=by unfold wt;rw [if_pos hk,if_neg (fun h=>hw h.1)]
  omega
theorem pays_old (hs:m.src≠i) (ht:m.term<s.term) (nd':Nat→Nd) (hd:∀ x,x≠i→nd' x=nd x):Pays c g g' nd nd' m s (s,old m s):=by
 unfold Pays old
 split
 ·rename_i hk
  rw [sum_one]
  have h3:=wt_reply_le (g:=g') (nd:=nd') (re s m 6 s.term m.idx true 0) rfl
  by_cases hc:m.idx≤g.ack m.term m.dst∧((nd m.src).role=1∨((nd m.src).role=4∧(nd m.src).term=m.term))
  ·have h1:wt g' nd' (re s m 6 s.term m.idx true 0)=1:=by
    unfold wt
    rw [if_neg (by show ¬ ((6:Nat)=5);omega),if_pos (by rfl),if_pos]
    right
    show (nd' m.src).role=1∨((nd' m.src).role=4∧(nd' m.src).term≠s.term)
    rw [hd _ hs]
    rcases hc.2 with y | y
    ·exact .inl y
    ·exact .inr ⟨y.1,by omega⟩
   have h2:wt g nd m=2:=by unfold wt;rw [if_pos hk,if_pos hc]
   show bud c s+_+1≤_
   omega
  ·have h2:wt g nd m=4:=by unfold wt;rw [if_pos hk,if_neg hc]
   show bud c s+_+1≤_
   omega
 ·split
  ·rename_i hk
   rw [sum_one,wt_small _ (by show ¬ ((2:Nat)=5);omega) (fun h=>absurd h (by show ¬ ((2:Nat)=6);omega)) (by show ¬ ((2:Nat)=1)∧¬ ((2:Nat)=3);omega),wt_ask m (.inl hk)]
   exact Nat.le_refl _
  ·split
   ·rename_i hk
    rw [sum_one,wt_small _ (by show ¬ ((4:Nat)=5);omega) (fun h=>absurd h (by show ¬ ((4:Nat)=6);omega)) (by show ¬ ((4:Nat)=1)∧¬ ((4:Nat)=3);omega),wt_ask m (.inr hk)]
    exact Nat.le_refl _
   ·exact pays_nil (Nat.le_refl _)
end
section
variable {n:Nat} {nd:Nat→Nd} {g g' g0:Gh} {net net':List Msg} {i:Nat} {s s':Nd} {ms ms':List Msg} {c:Cfg} {draw:Int} {m:Msg}
theorem pays_appendReply (hI:Inv n nd net g) (hm:m∈net) (hk:m.kind=6) (hd:m.dst=i) (hn:c.n=n) (ht:(nd i).role=4→m.term=(nd i).term)
  (hI':Inv n (setN nd i (appendReply c m (nd i)).1) net' g'):Pays c g g' nd (setN nd i (appendReply c m (nd i)).1) m (nd i) (appendReply c m (nd i)):=by
 by_cases h4:(nd i).role≠4
 ·have:appendReply c m (nd i)=(nd i,[]):=by unfold appendReply;rw [if_pos h4]
  rw [this];exact pays_nil (Nat.le_refl _)
 ·have h4:(nd i).role=4:=by omega
  have hM:=(hI.msgs m hm).1
  have hsrc:m.src≠i:=by rw [←hd];exact hM.form.ne
  have hid:=hI.ids i
  have hpo:m.src∈others c (nd i).id:=mem_others.2 ⟨by rw [hn];exact hM.rng.1,by rw [hid];exact hsrc⟩
  have hnx:=hI.nxt i h4 m.src hsrc
  have hfin:(nd i).fin=(nd i).log.length:=rfl
  have turn:∀ s2:Nd,s2.id=(nd i).id→s2.log=(nd i).log→(∀ q,q≠m.src→s2.mt q=(nd i).mt q∧s2.nx q=(nd i).nx q)→((others c s2.id).map (pay s2)).sum+pay (nd i) m.src=((others c (nd i).id).map (pay (nd i))).sum+pay s2 m.src:=fun s2 e1 e2 e3=>by
   rw [e1]
   refine sum_turn (nodup_others c _) hpo fun q _ hq=>?_
   unfold pay Nd.fin
   rw [e2,(e3 q hq).1,(e3 q hq).2]
  have hwa:∀ s2:Nd,s2.id=(nd i).id→s2.role=4→s2.term=(nd i).term→setN nd i s2=setN nd i (appendReply c m (nd i)).1→(s2.nx m.src-1=s2.mt m.src)→wt g' (setN nd i s2) (app c s2 m.src)=2:=fun s2 e1 e2 e3 e4 e5=>by
   have hl:=(hI'.lead i (by rw [←e4,setN_at];exact e2)).2.2.2 m.src hsrc
   rw [←e4,setN_at] at hl
   unfold wt
   rw [if_pos (by rfl),if_pos]
   refine ⟨by show s2.nx m.src-1≤g'.ack s2.term m.src;rw [e5];exact hl,.inr ?_⟩
   show (setN nd i s2 s2.id).role=4∧(setN nd i s2 s2.id).term=s2.term
   rw [e1,hid,setN_at]
   exact ⟨e2,rfl⟩
  have hunf:appendReply c m (nd i)=(if m.rej=true then
    (if m.idx+1=(nd i).nx m.src then ({ (nd i) with hd:=put (nd i).hd m.src,nx:=upd (nd i).nx m.src (min (max ((nd i).mt m.src) m.hint+1) ((nd i).fin+1)) },[app c { (nd i) with hd:=put (nd i).hd m.src,nx:=upd (nd i).nx m.src (min (max ((nd i).mt m.src) m.hint+1) ((nd i).fin+1)) } m.src]) else ({ (nd i) with hd:=put (nd i).hd m.src },[]))
    else if (nd i).mt m.src<m.idx then
     (if (nd i).commit<(count c { (nd i) with hd:=put (nd i).hd m.src,mt:=upd (nd i).mt m.src m.idx,nx:=upd (nd i).nx m.src (m.idx+1) }).commit then (count c { (nd i) with hd:=put (nd i).hd m.src,mt:=upd (nd i).mt m.src m.idx,nx:=upd (nd i).nx m.src (m.idx+1) },apps c (count c { (nd i) with hd:=put (nd i).hd m.src,mt:=upd (nd i).mt m.src m.idx,nx:=upd (nd i).nx m.src (m.idx+1) }))
      else if (count c { (nd i) with hd:=put (nd i).hd m.src,mt:=upd (nd i).mt m.src m.idx,nx:=upd (nd i).nx m.src (m.idx+1) }).nx m.src≤(count c { (nd i) with hd:=put (nd i).hd m.src,mt:=upd (nd i).mt m.src m.idx,nx:=upd (nd i).nx m.src (m.idx+1) }).fin then (count c { (nd i) with hd:=put (nd i).hd m.src,mt:=upd (nd i).mt m.src m.idx,nx:=upd (nd i).nx m.src (m.idx+1) },[app c (count c { (nd i) with hd:=put (nd i).hd m.src,mt:=upd (nd i).mt m.src m.idx,nx:=upd (nd i).nx m.src (m.idx+1) }) m.src])
      else (count c { (nd i) with hd:=put (nd i).hd m.src,mt:=upd (nd i).mt m.src m.idx,nx:=upd (nd i).nx m.src (m.idx+1) },[]))
    else ({ (nd i) with hd:=put (nd i).hd m.src },[])):=by
   unfold appendReply
   rw [if_neg (by omega)]
   rfl
  generalize hres:appendReply c m (nd i)=res at hunf hI' hwa ⊢
  have hsame:bud c { (nd i) with hd:=put (nd i).hd m.src }=bud c (nd i):=bud_same rfl rfl rfl rfl rfl rfl
  split at hunf
  ·rename_i hr
   have hw3:wt g nd m=3:=by
    unfold wt
    rw [if_neg (by omega),if_pos hk,if_neg]
    rw [hd,hr,h4,ht h4]
    simp
   split at hunf
   ·rename_i hx
    generalize hs2:({ (nd i) with hd:=put (nd i).hd m.src,nx:=upd (nd i).nx m.src (min (max ((nd i).mt m.src) m.hint+1) ((nd i).fin+1)) }:Nd)=s2 at hunf
    have e1:s2.id=(nd i).id:=by rw [←hs2]
    have e2:s2.log=(nd i).log:=by rw [←hs2]
    have e3:∀ q,q≠m.src→s2.mt q=(nd i).mt q∧s2.nx q=(nd i).nx q:=fun q hq=>by rw [←hs2];exact ⟨rfl,by show upd _ _ _ q=_;unfold upd;rw [if_neg hq]⟩
    have e4:s2.role=4:=by rw [←hs2];exact h4
    have e5:s2.commit=(nd i).commit:=by rw [←hs2]
    have e6:s2.mt m.src=(nd i).mt m.src:=by rw [←hs2]
    have e7:s2.nx m.src=min (max ((nd i).mt m.src) m.hint+1) ((nd i).fin+1):=by rw [←hs2];show upd _ _ _ m.src=_;unfold upd;rw [if_pos rfl]
    have e8:s2.term=(nd i).term:=by rw [←hs2]
    have e9:s2.fin=(nd i).fin:=by unfold Nd.fin;rw [e2]
    have ht2:=turn s2 e1 e2 e3
    have hh:=hM.form.hint hk hr
    subst hunf
    unfold Pays
    rw [sum_one,hw3,bud4 (s:=s2) e4,bud4 h4]
    simp only
    rw [e5,e9]
    have hp1:pay (nd i) m.src=2*((nd i).fin-(nd i).mt m.src)+2*((nd i).nx m.src-1-(nd i).mt m.src):=rfl
    have hp2:pay s2 m.src=2*((nd i).fin-(nd i).mt m.src)+2*(s2.nx m.src-1-(nd i).mt m.src):=by unfold pay;rw [e6,e9]
    rw [e1]
    rw [e1] at ht2
    by_cases hq:(nd i).mt m.src=m.idx
    ·have hv:s2.nx m.src-1=s2.mt m.src:=by rw [e6,e7];omega
     have hw:=hwa s2 e1 e4 e8 rfl hv
     rw [hw]
     rw [hv,e6] at hp2
     omega
    ·have hw:=wt_app (g:=g') (nd:=setN nd i s2) (app c s2 m.src)
     rw [e7] at hp2
     omega
   ·subst hunf
    exact pays_nil (Nat.le_of_eq hsame)
  ·rename_i hr
   split at hunf
   ·rename_i hx
    have hle:=hI.right6 hm hk (by rw [hd];exact ht h4) (by rw [hd];exact h4) (by simpa using hr)
    rw [hd] at hle
    generalize hs2:({ (nd i) with hd:=put (nd i).hd m.src,mt:=upd (nd i).mt m.src m.idx,nx:=upd (nd i).nx m.src (m.idx+1) }:Nd)=s0 at hunf
    generalize hs3:count c s0=s2 at hunf
    have e1:s2.id=(nd i).id:=by rw [←hs3,←hs2];rfl
    have e2:s2.log=(nd i).log:=by rw [←hs3,←hs2];rfl
    have e3:∀ q,q≠m.src→s2.mt q=(nd i).mt q∧s2.nx q=(nd i).nx q:=fun q hq=>by
     rw [←hs3,←hs2]
     constructor
     ·show upd _ _ _ q=_;unfold upd;rw [if_neg hq]
     ·show upd _ _ _ q=_;unfold upd;rw [if_neg hq]
    have e4:s2.role=4:=by rw [←hs3,←hs2];exact h4
    have e6:s2.mt m.src=m.idx:=by rw [←hs3,←hs2];show upd _ _ _ m.src=_;unfold upd;rw [if_pos rfl]
    have e7:s2.nx m.src=m.idx+1:=by rw [←hs3,←hs2];show upd _ _ _ m.src=_;unfold upd;rw [if_pos rfl]
    have e8:s2.term=(nd i).term:=by rw [←hs3,←hs2];rfl
    have e9:s2.fin=(nd i).fin:=by unfold Nd.fin;rw [e2]
    have hC:(nd i).commit≤s2.commit:=by rw [←hs3,←hs2];exact count_commit (Nat.le_refl _)
    have hC2:s2.commit≤(nd i).fin∨s2.commit=(nd i).commit:=by
     rw [←hs3]
     rcases countFrom_cases c s0 s0.fin with h | ⟨j,_,h,_,_,h'⟩
     ·right;show countFrom c s0 s0.fin=_;rw [h,←hs2]
     ·left;show countFrom c s0 s0.fin≤_;rw [h']
      have:s0.fin=(nd i).fin:=by rw [←hs2];rfl
      omega
    have ht2:=turn s2 e1 e2 e3
    have hp1:pay (nd i) m.src=2*((nd i).fin-(nd i).mt m.src)+2*((nd i).nx m.src-1-(nd i).mt m.src):=rfl
    have hp2:pay s2 m.src=2*((nd i).fin-m.idx):=by unfold pay;rw [e6,e7,e9];omega
    have h1:=wt_pos (g:=g) (nd:=nd) m
    have hbs:bud c s2=((others c (nd i).id).map (pay s2)).sum+4*((others c (nd i).id).length*((nd i).fin-s2.commit)):=by rw [bud4 (s:=s2) e4,e9,e1]
    have hbi:=bud4 (c:=c) h4
    rw [e1] at ht2
    have hmul:(others c (nd i).id).length*((nd i).fin-s2.commit)≤(others c (nd i).id).length*((nd i).fin-(nd i).commit):=Nat.mul_le_mul_left _ (by omega)
    split at hunf
    ·rename_i hcm
     subst hunf
     have hap:=apps_wt (g:=g') (nd:=setN nd i s2) c s2
     rw [apps_len,e1] at hap
     have hmul2:(others c (nd i).id).length*((nd i).fin-s2.commit)+(others c (nd i).id).length≤(others c (nd i).id).length*((nd i).fin-(nd i).commit):=by
      rw [←Nat.mul_succ]
      exact Nat.mul_le_mul_left _ (by omega)
     unfold Pays
     simp only
     rw [hbs,hbi]
     omega
    ·split at hunf
     ·subst hunf
      have hw:=hwa s2 e1 e4 e8 rfl (by rw [e6,e7];omega)
      unfold Pays
      rw [sum_one]
      simp only
      rw [hbs,hbi,hw]
      omega
     ·subst hunf
      refine pays_nil ?_
      rw [hbs,hbi]
      omega
   ·subst hunf
    exact pays_nil (Nat.le_of_eq hsame)
theorem Tr.rfl' (h:1≤s.role∧s.role≤4):Tr s s:=by
 unfold Tr;omega
theorem kinds_tr (h:1≤s.role∧s.role≤4):Tr s (kinds c draw m s).1:=by
 have hs:=Tr.rfl' h
 unfold kinds
 split
 ·unfold preVote;split <;> exact hs
 ·unfold preReply
  split
  ·exact hs
  ·rename_i hne
   simp only
   split
   ·exact .inr (.inl ⟨by omega,by omega,stand_role⟩)
   ·exact hs
 ·unfold vote
  split <;> exact hs
 ·unfold voteReply
  split
  ·exact hs
  ·split
   ·simp only
    split
    ·exact .inr (.inl ⟨by omega,by omega,by rw [lead_role];omega⟩)
    ·exact hs
   ·simp only
    have:Tr s (if m.src∈s.gr then s else { s with rf:=put s.rf m.src }):=by split <;> exact hs
    generalize (if m.src∈s.gr then s else { s with rf:=put s.rf m.src })=s1 at this ⊢
    split
    ·exact .inl rfl
    ·exact this
 ·exact .inl (append_reply c draw m s).1
 ·unfold appendReply
  split
  ·exact hs
  ·rename_i h4
   simp only
   split
   ·split <;> exact hs
   ·split
    ·split
     ·exact hs
     ·split <;> exact hs
    ·exact hs
 ·exact hs
theorem kinds_role (h:1≤s.role∧s.role≤4):1≤(kinds c draw m s).1.role∧(kinds c draw m s).1.role≤4:=by
 unfold kinds
 split
 ·unfold preVote;split <;> exact h
 ·unfold preReply
  split
  ·exact h
  ·simp only
   split
   ·unfold stand
    simp only
    split
    ·rw [lead_role];omega
    ·show 1≤3∧3≤4;omega
   ·exact h
 ·unfold vote
  split <;> exact h
 ·unfold voteReply
  split
  ·exact h
  ·split
   ·simp only
    split
    ·rw [lead_role];omega
    ·exact h
   ·simp only
    have:1≤(if m.src∈s.gr then s else { s with rf:=put s.rf m.src }).role∧(if m.src∈s.gr then s else { s with rf:=put s.rf m.src }).role≤4:=by split <;> exact h
    generalize (if m.src∈s.gr then s else { s with rf:=put s.rf m.src })=s1 at this ⊢
    split
    ·show 1≤1∧1≤4;omega
    ·exact this
 ·rw [(append_reply c draw m s).1];omega
 ·unfold appendReply
  split
  ·exact h
  ·simp only
   split
   ·split <;> exact h
   ·split
    ·split
     ·exact h
     ·split <;> exact h
    ·exact h
 ·exact h
theorem message_tr (h:1≤s.role∧s.role≤4):Tr s (message c draw m s).1:=by
 unfold message
 split
 ·exact Tr.rfl' h
 ·split
  ·have:=kinds_tr (c:=c) (draw:=draw) (m:=m) (s:=follow c draw m.term (if m.kind=5 then m.src else 0) s) (by show 1≤1∧1≤4;omega)
   rcases this with x | x | x
   ·exact .inl x
   ·exact absurd (by rfl) x.1
   ·exact absurd (show (1:Nat)=4 from x.1) (by omega)
  ·split
   ·exact Tr.rfl' h
   ·exact kinds_tr h
end
end Go.Proofs.YtocogcgnahbpkaaGreat.Rf
