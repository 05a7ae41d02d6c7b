import Derived.Test.YtocogcgnahbpkaaGreatC9
namespace Go.Proofs.YtocogcgnahbpkaaGreat.Rf
section
variable {n:Nat} {nd nd0:Nat→Nd} {g g' g0:Gh} {net net' r o:List Msg} {L T:Nat} {s s':Nd} {ms ms':List Msg} {c:Cfg} {draw:Int} {d:Nat→Int} {m x:Msg} {K:Nat} {w w':Wd} {lg:List Ent}
structure Steady (c:Cfg) (L T:Nat) (lg:List Ent) (nd:Nat→Nd):Prop where
 Lr:(nd L).role=4∧(nd L).term=T∧(nd L).log=lg
 pr:∀ p,1≤p→p≤c.n→p≠L→(nd p).role=1∧(nd p).term=T∧(nd p).leader=L
 mt:∀ p,1≤p→p≤c.n→p≠L→(nd L).mt p=lg.length
 cm:(nd L).commit=lg.length
 el:∀ p,1≤p→p≤c.n→p≠L→(nd p).elapsed≤(nd L).beat
 hd:(∀ p,1≤p→p≤c.n→p≠L→p∈(nd L).hd)∨(nd L).elapsed≤(nd L).beat
theorem others_big {l:List Nat} (h:∀ p,1≤p→p≤c.n→p≠L→p∈l):c.n≤1+l.length:=by
 have:=all_le (c:=c) (l:=L :: l) fun q h1 h2=>by
  by_cases hq:q=L
  ·rw [hq];simp
  ·exact List.mem_cons_of_mem _ (h q h1 h2 hq)
 rw [List.length_cons] at this
 omega
theorem Rep.done {bt et:Nat} (h:Rep c L T lg bt et nd []) (hI:Inv c.n nd [] g) (hs:Soft c (nd L)):Steady c L T lg nd∧(nd L).beat=bt∧∀ p,1≤p→p≤c.n→p≠L→p∈(nd L).hd:=by
 obtain ⟨hL1,hL2,hL3,hL4,hL5⟩:=h.Lr
 have no:∀ {P:Msg→Prop},¬ ∃ m∈([]:List Msg),P m:=fun ⟨_,h,_⟩=>absurd h (by simp)
 have hmt:∀ p,1≤p→p≤c.n→p≠L→(nd L).mt p=lg.length:=fun p h1 h2 h3=>by
  rcases h.act p h1 h2 h3 with y | y | y
  ·exact y
  ·exact absurd y no
  ·exact absurd y no
 have hhd:∀ p,1≤p→p≤c.n→p≠L→p∈(nd L).hd:=fun p h1 h2 h3=>by
  rcases h.hd p h1 h2 h3 with y | y | y
  ·exact y
  ·exact absurd y no
  ·exact absurd y no
 refine ⟨⟨⟨hL1,hL2,hL3⟩,h.pr,hmt,?_,fun p h1 h2 h3=>?_,.inl hhd⟩,hL4,hhd⟩
 ·have hcl:=(hI.comm L).1
  rw [hL3] at hcl
  refine Classical.byContradiction fun hne=>?_
  have hlt:(nd L).commit<lg.length:=by omega
  have hcnt:=h.cnt
  obtain ⟨k,hk⟩:∃ k,lg.length=k+1:=⟨lg.length-1,by omega⟩
  rw [hk] at hcnt
  unfold countFrom at hcnt
  rw [if_neg (by omega)] at hcnt
  have htm:(nd L).tm (k+1)=(nd L).term:=by
   have:=hs.last hL1
   unfold Nd.fin at this
   rw [hL3,hk] at this
   exact this
  rw [if_pos htm] at hcnt
  have hmaj:maj c (have_ c (nd L) (k+1))=true:=by
   unfold have_ maj
   have:=others_big (c:=c) (L:=L) (l:=(others c (nd L).id).filter fun p=>decide (k+1≤(nd L).mt p)) fun p h1 h2 h3=>List.mem_filter.2 ⟨mem_others.2 ⟨⟨h1,h2⟩,by rw [hI.ids];exact h3⟩,decide_eq_true (by rw [hmt p h1 h2 h3];omega)⟩
   exact decide_eq_true (by omega)
  rw [if_pos hmaj] at hcnt
  omega
 ·rcases h.el p h1 h2 h3 with y | y
  ·rw [y];exact Nat.zero_le _
  ·exact absurd y no
theorem Ok.proposes (h:Ok c K w g) (hc:CfgOK c) (hL:1≤L∧L≤c.n) (hl:(w.nd L).role=4) {l:List (List Int)} (hne:l≠[]) (hK:K+l.length<65536):∃ g',Ok c (K+l.length) ⟨setN w.nd L (Rf.propose c l (w.nd L)).1,w.net++(Rf.propose c l (w.nd L)).2⟩ g'∧Ext w.nd (setN w.nd L (Rf.propose c l (w.nd L)).1) g g':=by
 have hlog:(Rf.propose c l (w.nd L)).1.log=(w.nd L).log++l.map fun b=>⟨(w.nd L).term,b⟩:=rfl
 have hfin:(Rf.propose c l (w.nd L)).1.fin=(w.nd L).fin+l.length:=by unfold Nd.fin;rw [hlog,List.length_append,List.length_map]
 have hr:(Rf.propose c l (w.nd L)).1.role=4:=hl
 have hlw:lw (Rf.propose c l (w.nd L)).1=lw (w.nd L):=by unfold lw;rw [hr,hl]
 have hpw:pw (Rf.propose c l (w.nd L)).1=pw (w.nd L):=by unfold pw;rw [hr,hl]
 have ht:(Rf.propose c l (w.nd L)).1.term=(w.nd L).term:=rfl
 have hf:=h.bnd.fin L
 exact h.own hL (fun g0 ms hg=>hg.propose hc.batch.2 rfl hl l) (soft_propose (h.soft L) hne (by omega)) hK (by omega) (by omega) (by omega) (by omega) fun x hx hk=>by
  obtain ⟨_,p,hp,e⟩:=mem_apps (show x∈apps c (Rf.propose c l (w.nd L)).1 from hx)
  exact ⟨hr,p,hp,e⟩
theorem Rep.proposed (hc:CfgOK c) (h:Led c L T w.nd) (h0:w.net=[]) {l:List (List Int)} (hI:Inv c.n (setN w.nd L (propose c l (w.nd L)).1) (w.net++(propose c l (w.nd L)).2) g) :
  Rep c L T ((w.nd L).log++l.map fun b=>⟨T,b⟩) (w.nd L).beat (w.nd L).elapsed (setN w.nd L (propose c l (w.nd L)).1) (w.net++(propose c l (w.nd L)).2):=by
 obtain ⟨⟨hr,ht⟩,hp⟩:=h
 have hlog:(propose c l (w.nd L)).1.log=(w.nd L).log++l.map fun b=>⟨T,b⟩:=by rw [←ht];rfl
 have hid:(propose c l (w.nd L)).1.id=L:=by have:=hI.ids L;rw [setN_at] at this;exact this
 have hnx:=hI.nxt L (by rw [setN_at];exact hr)
 rw [setN_at,hlog] at hnx
 rw [h0,List.nil_append] at hI ⊢
 have hmem:∀ p,1≤p→p≤c.n→p≠L→app c (propose c l (w.nd L)).1 p∈(propose c l (w.nd L)).2:=fun p h1 h2 h3=>List.mem_map.2 ⟨p,mem_others.2 ⟨⟨h1,h2⟩,fun e=>h3 (e.trans hid)⟩,rfl⟩
 refine ⟨by rw [setN_at];exact ⟨hr,ht,hlog,rfl,rfl⟩,fun p h1 h2 h3=>?_,fun x hx=>?_,fun p h1 h2 h3=>?_,?_,fun p h1 h2 h3=>.inr ⟨_,hmem p h1 h2 h3,rfl,rfl⟩,fun p h1 h2 h3=>.inr (.inl ⟨_,hmem p h1 h2 h3,rfl,rfl⟩)⟩
 ·rw [setN_ne _ _ h3]
  have:=hp p h1 h2 h3
  exact ⟨this.2.1,this.1,this.2.2⟩
 ·obtain ⟨_,p,hp',rfl⟩:=mem_apps (show x∈apps c (propose c l (w.nd L)).1 from hx)
  have:=app_rep (p:=p) hc hlog ht hid (hnx p (by have:=(mem_others.1 hp').2;rw [hid] at this;exact this)).2
  exact ⟨this.1,.inl this.2⟩
 ·rw [setN_at]
  refine .inr (.inl ⟨_,hmem p h1 h2 h3,rfl,rfl,?_⟩)
  show (propose c l (w.nd L)).1.nx p-1+1=_
  have:=hnx p h3
  omega
 ·rw [setN_at]
  have hc':(propose c l (w.nd L)).1.fin=((w.nd L).log++l.map fun b=>(⟨T,b⟩:Ent)).length:=by unfold Nd.fin;rw [hlog]
  rw [←hc']
  exact countFrom_idem c { (w.nd L) with log:=(w.nd L).log++l.map fun b=>(⟨(w.nd L).term,b⟩:Ent) } _ _ rfl
theorem tick_lead2 (h4:s.role=4) (hq:c.most≤s.elapsed+1→maj c (1+s.hd.length)=true):∃ e' h' b' out,tick c draw s=({ s with elapsed:=e',hd:=h',beat:=b' },out)∧((e'=s.elapsed+1∧h'=s.hd)∨(e'=0∧h'=[]))∧((b'=0∧out=apps c { s with elapsed:=e',hd:=h',beat:=b' })∨(b'=s.beat+1∧s.beat+1<c.beat∧out=[])):=by
 unfold tick
 simp only
 rw [if_neg (by omega),if_neg (fun h=>h.2 (hq h.1))]
 by_cases he:c.most≤s.elapsed+1
 ·simp only [if_pos he]
  by_cases hb:c.beat≤s.beat+1
  ·rw [if_pos hb]
   exact ⟨0,[],0,_,rfl,.inr ⟨rfl,rfl⟩,.inl ⟨rfl,rfl⟩⟩
  ·rw [if_neg hb]
   exact ⟨0,[],s.beat+1,[],rfl,.inr ⟨rfl,rfl⟩,.inr ⟨rfl,by omega,rfl⟩⟩
 ·simp only [if_neg he]
  by_cases hb:c.beat≤s.beat+1
  ·rw [if_pos hb]
   exact ⟨s.elapsed+1,s.hd,0,_,rfl,.inl ⟨rfl,rfl⟩,.inl ⟨rfl,rfl⟩⟩
  ·rw [if_neg hb]
   exact ⟨s.elapsed+1,s.hd,s.beat+1,[],rfl,.inl ⟨rfl,rfl⟩,.inr ⟨rfl,by omega,rfl⟩⟩
theorem append_commits (hI:Inv c.n nd net g) (hm:m∈net) (hk:m.kind=5) (ht:(nd m.dst).term=m.term) (ha:m.idx≤g.ack m.term m.dst) (hcap:m.idx+m.es.length≤65536):min m.commit m.idx≤(message c draw m (nd m.dst)).1.commit:=by
 have hacc:=hI.accepts hm hk (by omega) ha
 have hkp:message c draw m (nd m.dst)=append c draw m (nd m.dst):=by
  unfold message
  rw [if_neg (by omega),if_neg (by omega),if_neg (by omega)]
  unfold kinds
  simp only [hk]
 rw [hkp]
 unfold append
 simp only
 split
 ·rename_i h
  show _≤(nd m.dst).commit
  have:m.idx<(nd m.dst).commit:=h
  omega
 ·split
  ·rename_i h;exact absurd h hacc.1
  ·split
   ·rename_i h;exact absurd hacc.2 h
   ·rename_i h1 h2 h3
    have hi:=merge_idx m.es (follow c draw m.term m.src (nd m.dst)).log m.idx (Nat.le_of_not_lt h2) hcap
    show _≤max (nd m.dst).commit (min m.commit (merge (follow c draw m.term m.src (nd m.dst)).log m.idx m.es).2)
    rw [hi]
    omega
def Tell (c:Cfg) (L:Nat) (lg:List Ent) (nd:Nat→Nd) (net:List Msg):Prop:=∀ p,1≤p→p≤c.n→p≠L→(nd L).mt p=lg.length∧(lg.length≤(nd p).commit∨∃ m∈net,m.kind=5∧m.dst=p∧m.idx=lg.length∧m.commit=lg.length)
theorem Tell.step {bt et:Nat} (hT:Tell c L lg nd (m :: r)) (h:Rep c L T lg bt et nd (m :: r)) (hI:Inv c.n nd (m :: r) g) (hlg:lg.length<65536):Tell c L lg (setN nd m.dst (message c (d m.dst) m (nd m.dst)).1) (r++(message c (d m.dst) m (nd m.dst)).2):=by
 have hM:=(hI.msgs m (by simp)).1
 obtain ⟨hL1,hL2,hL3,hL4,hL5⟩:=h.Lr
 obtain ⟨hmT,hmk⟩:=h.msg m (by simp)
 intro p h1 h2 h3
 obtain ⟨a,b⟩:=hT p h1 h2 h3
 constructor
 ·by_cases hd:L=m.dst
  ·rw [←hd,setN_at]
   rcases hmk with ⟨_,k2,_⟩ | ⟨k1,k2⟩
   ·exact absurd (k2.trans hd) hM.form.ne
   ·have hrc:=reply_cases (c:=c) (draw:=d L) (s:=nd L) k1 hL1 (by rw [hL2,hmT])
    rw [hrc]
    by_cases hj:m.rej=true
    ·rw [if_pos hj];split <;> exact a
    ·rw [if_neg hj]
     have hidx:=hI.right6 (m:=m) (by simp) k1 (by rw [k2,hL2,hmT]) (by rw [k2];exact hL1) (by simpa using hj)
     rw [k2] at hidx
     have hidx:m.idx≤(nd L).log.length:=hidx
     rw [hL3] at hidx
     have hsrc:=hT m.src hM.rng.1.1 hM.rng.1.2 (by rw [←k2];exact hM.form.ne)
     rw [if_neg (by omega)]
     exact a
  ·rw [setN_ne _ _ hd];exact a
 ·by_cases hp:p=m.dst
  ·subst hp
   rw [setN_at]
   rcases b with b | ⟨y,hy,y1,y2,y3,y4⟩
   ·exact .inl (Nat.le_trans b message_commit)
   ·rcases List.mem_cons.1 hy with rfl | hy
    ·left
     have hack:=(hI.lead L hL1).2.2.2 y.dst h3
     rw [hL2,a] at hack
     have hpt:=(h.pr y.dst h1 h2 h3).2.1
     have hnet:y.idx+y.es.length≤65536:=by
      rcases hmk with ⟨_,_,k,_⟩ | ⟨k,_⟩ <;> omega
     have:=append_commits (c:=c) (draw:=d y.dst) hI (m:=y) (by simp) y1 (by rw [hpt,hmT]) (by rw [hmT,y3];exact hack) hnet
     rw [y3,y4,Nat.min_self] at this
     exact this
    ·exact .inr ⟨y,List.mem_append_left _ hy,y1,y2,y3,y4⟩
  ·rw [setN_ne _ _ hp]
   rcases b with b | ⟨y,hy,y1,y2,y3⟩
   ·exact .inl b
   ·rcases List.mem_cons.1 hy with rfl | hy
    ·exact absurd y2.symm hp
    ·exact .inr ⟨y,List.mem_append_left _ hy,y1,y2,y3⟩
theorem Rep.run {bt et:Nat} (hc:CfgOK c) (h:Rep c L T lg bt et w.nd w.net) (hO:Ok c K w g) (hlg:lg.length<65536):∃ j g',(w.run c d j).net=[]∧Ok c K (w.run c d j) g'∧Ext w.nd (w.run c d j).nd g g'∧Steady c L T lg (w.run c d j).nd∧((w.run c d j).nd L).beat=bt∧(Tell c L lg w.nd w.net→∀ p,1≤p→p≤c.n→p≠L→lg.length≤((w.run c d j).nd p).commit):=by
 obtain ⟨j,g',_,n5,_,O5,⟨V5,D5⟩,E5⟩:=Ok.ends (K:=K) hc d (fun y w'=>Rep c L T lg bt et w'.nd w'.net∧(Tell c L lg w.nd w.net→Tell c L lg w'.nd w'.net))
  (fun w' g g' hO hp hne hO' hE=>by
   obtain ⟨nd,net⟩:=w'
   match net,hne with
   | m :: r,_=>exact ⟨hp.1.step hc hO.inv hlg,fun ht=>(hp.2 ht).step hp.1 hO.inv hlg⟩)
  _ w g hO ⟨h,fun h=>h⟩ (Nat.le_refl _)
 have hI:=O5.inv
 rw [n5] at V5 D5 hI
 obtain ⟨a,b,_⟩:=V5.done hI (O5.soft L)
 exact ⟨j,g',n5,O5,E5,a,b,fun ht p h1 h2 h3=>((D5 ht) p h1 h2 h3).2.elim id fun ⟨y,hy,_⟩=>absurd hy (by simp)⟩
theorem Steady.ticks (hc:CfgOK c) (hL:1≤L∧L≤c.n) (h:Steady c L T lg w.nd) (h0:w.net=[]) (hO:Ok c K w g) (hK:K+c.n<65536) (hT:Tick c d w w'):∃ g',Ok c (K+c.n) w' g'∧Ext w.nd w'.nd g g'∧Steady c L T lg w'.nd∧(((w'.nd L).beat=(w.nd L).beat+1∧∀ p,(w.nd p).commit≤(w'.nd p).commit)∨∀ p,1≤p→p≤c.n→lg.length≤(w'.nd p).commit):=by
 have hLr:=h.Lr
 have hid:=hO.inv.ids L
 have hbt:=(hO.soft L).el4 hLr.1
 have hcm:=hc.most
 have hcb:=hc.beat
 have hcl:=hc.least
 have hlg:lg.length<65536:=by have:=(hO.soft L).len;unfold Nd.fin at this;rw [hLr.2.2] at this;exact this
 obtain ⟨e',h',b',out,ht,heh,hbo⟩:=tick_lead2 (c:=c) (draw:=d L) hLr.1 fun hm=>by
  rcases h.hd with y | y
  ·unfold maj
   have:=others_big (c:=c) (L:=L) y
   exact decide_eq_true (by omega)
  ·omega
 have hwait:∀ p,1≤p→p≤c.n→p≠L→tick c (d p) (w.nd p)=({ (w.nd p) with elapsed:=(w.nd p).elapsed+1 },[]):=fun p h1 h2 h3=>by
  have:=h.el p h1 h2 h3
  have h4:=(h.pr p h1 h2 h3).1
  have h5:=(hO.soft p).time
  exact tick_wait (by omega) (by omega)
 have hndL:(tick1 c d w).nd L={ (w.nd L) with elapsed:=e',hd:=h',beat:=b' }:=by rw [tick1_nd hL,ht]
 have hndp:∀ p,1≤p→p≤c.n→p≠L→(tick1 c d w).nd p={ (w.nd p) with elapsed:=(w.nd p).elapsed+1 }:=fun p h1 h2 h3=>by rw [tick1_nd ⟨h1,h2⟩,hwait p h1 h2 h3]
 have hnet:∀ x,x∈(tick1 c d w).net↔x∈out:=fun x=>by
  rw [tick1_net h0]
  constructor
  ·rintro ⟨p,hp,hx⟩
   by_cases hpL:p=L
   ·rw [hpL,ht] at hx;exact hx
   ·rw [hwait p hp.1 hp.2 hpL] at hx;exact absurd hx (by simp)
  ·intro hx;exact ⟨L,hL,by rw [ht];exact hx⟩
 obtain ⟨g1,O1,E1⟩:=hO.tick1 (d:=d) hc hK
 have hpr:∀ p,1≤p→p≤c.n→p≠L→((tick1 c d w).nd p).role=1∧((tick1 c d w).nd p).term=T∧((tick1 c d w).nd p).leader=L:=fun p h1 h2 h3=>by rw [hndp p h1 h2 h3];exact h.pr p h1 h2 h3
 rcases hbo with ⟨hb,ho⟩ | ⟨hb,hb2,ho⟩
 ·
  have hnx:=O1.inv.nxt L (by rw [hndL];exact hLr.1)
  have hfin:((tick1 c d w).nd L).log=lg:=by rw [hndL];exact hLr.2.2
  rw [hfin] at hnx
  have hnx':∀ p,p≠L→((tick1 c d w).nd L).nx p≤lg.length+1:=fun p hp=>(hnx p hp).2
  rw [hndL] at hnx'
  have hmem:∀ p,1≤p→p≤c.n→p≠L→app c { (w.nd L) with elapsed:=e',hd:=h',beat:=b' } p∈(tick1 c d w).net:=fun p h1 h2 h3=>(hnet _).2 (by rw [ho];exact List.mem_map.2 ⟨p,mem_others.2 ⟨⟨h1,h2⟩,by show p≠(w.nd L).id;rw [hid];exact h3⟩,rfl⟩)
  have hR:Rep c L T lg 0 e' (tick1 c d w).nd (tick1 c d w).net:=by
   refine ⟨by rw [hndL];exact ⟨hLr.1,hLr.2.1,hLr.2.2,hb,rfl⟩,hpr,fun x hx=>?_,fun p h1 h2 h3=>?_,?_,fun p h1 h2 h3=>.inr ⟨_,hmem p h1 h2 h3,rfl,rfl⟩,fun p h1 h2 h3=>.inr (.inl ⟨_,hmem p h1 h2 h3,rfl,rfl⟩)⟩
   ·have hx:=(hnet x).1 hx
    rw [ho] at hx
    obtain ⟨_,p,hp,rfl⟩:=mem_apps hx
    have hpL:p≠L:=by have:=(mem_others.1 hp).2;intro e;exact this (by rw [e];exact hid.symm)
    have:=app_rep (s:={ (w.nd L) with elapsed:=e',hd:=h',beat:=b' }) (p:=p) hc hLr.2.2 hLr.2.1 hid (hnx' p hpL)
    exact ⟨this.1,.inl this.2⟩
   ·left;rw [hndL];exact h.mt p h1 h2 h3
   ·rw [hndL]
    show countFrom c _ lg.length=(w.nd L).commit
    have hcm2:=h.cm
    cases hn:lg.length with
    | zero=>rfl
    | succ k =>
     unfold countFrom
     rw [if_pos (by show k+1≤(w.nd L).commit;omega)]
  have hTell:Tell c L lg (tick1 c d w).nd (tick1 c d w).net:=fun p h1 h2 h3=>by
   refine ⟨by rw [hndL];exact h.mt p h1 h2 h3,.inr ⟨_,hmem p h1 h2 h3,rfl,rfl,?_,h.cm⟩⟩
   show (w.nd L).nx p-1=lg.length
   have hnp:=hnx p h3
   rw [hndL] at hnp
   have hnp:(w.nd L).mt p<(w.nd L).nx p∧(w.nd L).nx p≤lg.length+1:=hnp
   have:=h.mt p h1 h2 h3
   omega
  obtain ⟨j,g2,n2,O2,E2,S2,B2,T2⟩:=hR.run (d:=d) hc O1 hlg
  rw [hT.eq n2] at O2 E2 S2 B2 T2
  refine ⟨g2,O2,E1.trans E2,S2,.inr fun p h1 h2=>?_⟩
  by_cases hp:p=L
  ·rw [hp,S2.cm];exact Nat.le_refl _
  ·exact T2 hTell p h1 h2 hp
 ·
  have hn0:(tick1 c d w).net=[]:=List.eq_nil_iff_forall_not_mem.2 fun x hx=>by
   have:=(hnet x).1 hx
   rw [ho] at this
   exact absurd this (by simp)
  have hw:tick1 c d w=w':=hT.eq (j:=0) hn0
  rw [hw] at O1 E1 hndL hndp hpr
  refine ⟨g1,O1,E1,⟨by rw [hndL];exact hLr,hpr,fun p h1 h2 h3=>by rw [hndL];exact h.mt p h1 h2 h3,by rw [hndL];exact h.cm,fun p h1 h2 h3=>?_,?_⟩,.inl ⟨by rw [hndL];exact hb,fun p=>?_⟩⟩
  ·rw [hndL,hndp p h1 h2 h3]
   have:=h.el p h1 h2 h3
   show (w.nd p).elapsed+1≤b'
   omega
  ·rw [hndL]
   show (∀ p,1≤p→p≤c.n→p≠L→p∈h')∨e'≤b'
   rcases heh with ⟨y,z⟩ | ⟨y,z⟩
   ·rcases h.hd with u | u
    ·left;rw [z];exact u
    ·right;omega
   ·right;omega
  ·by_cases hp:1≤p∧p≤c.n
   ·by_cases hpL:p=L
    ·rw [hpL,hndL];exact Nat.le_refl _
    ·rw [hndp p hp.1 hp.2 hpL];exact Nat.le_refl _
   ·rw [←hw,tick1_out hp];exact Nat.le_refl _
end
def drawC (c:Cfg) (f:Nat):Nat→Int:=fun id=>if id=f then 0 else (c.most:Int)-c.least
section
variable {n:Nat} {nd nd0:Nat→Nd} {g g' g0:Gh} {net net' r o:List Msg} {L T:Nat} {s s':Nd} {ms ms':List Msg} {c:Cfg} {draw:Int} {d:Nat→Int} {m x:Msg} {f K:Nat} {w w':Wd} {lg:List Ent} {ws:Nat→Wd}
theorem drawC_f (c:Cfg) (f:Nat):rnd c (drawC c f f)=c.least:=by
 unfold drawC rnd
 rw [if_pos rfl]
 simp
theorem drawC_n (hc:CfgOK c) {f p:Nat} (h:p≠f):rnd c (drawC c f p)=c.most:=by
 have hm:=hc.most
 unfold drawC rnd
 rw [if_neg h,Int.emod_eq_of_lt (by omega) (by omega)]
 omega
theorem tick_ok (hc:CfgOK c) (h:Ok c K w g) (hK:K+c.n<65536) (hT:Tick c d w w'):∃ g',Ok c (K+c.n) w' g'∧Ext w.nd w'.nd g g':=by
 obtain ⟨g1,O1,E1⟩:=h.tick1 (d:=d) hc hK
 obtain ⟨j,g2,_,n2,_,O2,_,E2⟩:=Ok.ends hc d (fun _ _=>True) (fun _ _ _ _ _ _ _ _=>trivial) _ _ g1 O1 trivial (Nat.le_refl _)
 rw [hT.eq n2] at O2 E2
 exact ⟨g2,O2,E1.trans E2⟩
theorem Trail.of (hc:CfgOK c) (h2:2≤c.n) (hf:1≤f∧f≤c.n) {N:Nat} (hT:∀ k,k<N→Tick c (drawC c f) (ws k) (ws (k+1))) (h0:Ok c K (ws 0) g) (hn:(ws 0).net=[]) (hb:∀ p,upTo ((ws 0).nd f).log ((ws 0).nd p).log) (hK:K+N*c.n<65536) (hN:∀ k,k≤N→NoLed c (ws k)):Trail c (drawC c f) f N ws:=by
 have key:∀ k,k≤N→∃ g,Ok c (K+k*c.n) (ws k) g∧(ws k).net=[]∧(∀ p,upTo ((ws k).nd f).log ((ws k).nd p).log):=by
  intro k
  induction k with
  | zero=>intro _;exact ⟨g,by rw [Nat.zero_mul];exact h0,hn,hb⟩
  | succ k ih =>
   intro hk
   obtain ⟨gk,a,b,e⟩:=ih (by omega)
   have hm:(k+1)*c.n≤N*c.n:=Nat.mul_le_mul_right _ hk
   rw [Nat.succ_mul] at hm ⊢
   obtain ⟨g',a',_,s'⟩:=still_of hc h2 a b e (by omega) (hT k (by omega)) (hN (k+1) hk)
   exact ⟨g',by rw [←Nat.add_assoc];exact a',(hT k (by omega)).2,s'.best⟩
 refine ⟨hc,h2,hf,drawC_f c f,fun p hp=>drawC_n hc hp,fun k hk p=>?_,fun k hk p hr=>?_,fun k hk=>?_,fun k hk hnl M hM=>?_⟩
 ·obtain ⟨g,a,_⟩:=key k hk;exact a.soft p
 ·obtain ⟨g,a,_⟩:=key k hk;exact a.inv.rng p hr
 ·obtain ⟨g,a,b,e⟩:=key k (by omega)
  have hm:(k+1)*c.n≤N*c.n:=Nat.mul_le_mul_right _ hk
  rw [Nat.succ_mul] at hm
  obtain ⟨g',_,_,s'⟩:=still_of hc h2 a b e (by omega) (hT k hk) (hN (k+1) hk)
  exact ⟨g,g',s'⟩
 ·obtain ⟨g,a,b,e⟩:=key k (by omega)
  have hm:(k+1)*c.n≤N*c.n:=Nat.mul_le_mul_right _ hk
  rw [Nat.succ_mul] at hm
  exact idle_of hc ⟨a,h2,b,hnl,e,hf,hM.1⟩ (by omega) (hT k hk) (hN (k+1) hk)
theorem Ok.net1 (h:Ok c K w g) (h1:c.n=1):w.net=[]:=List.eq_nil_iff_forall_not_mem.2 fun m hm=>by
 have hM:=(h.inv.msgs m hm).1
 have:=hM.rng
 have:=hM.form.ne
 omega
theorem one_lead (h1:c.n=1) (h4:s.role≠4) (he:s.timeout≤s.elapsed+1) (ht:s.term<65536) (hf:s.fin<65536):(tick c draw s).1.role=4:=by
 have hm:maj c 1=true:=by unfold maj;rw [h1];rfl
 unfold tick
 simp only
 rw [if_pos h4,if_pos he]
 unfold begin_
 simp only
 have hs:¬ (stuck (rest c draw { s with elapsed:=s.elapsed+1 })=true):=by
  unfold stuck rest Nd.fin
  unfold Nd.fin at hf
  simp
  omega
 rw [if_neg hs,if_pos hm]
 unfold stand
 simp only
 rw [if_pos hm]
 exact lead_role
theorem calm_bound (hc:CfgOK c) (hf:1≤f∧f≤c.n) {N:Nat} (hT:∀ k,k<N→Tick c (drawC c f) (ws k) (ws (k+1))) (h0:Ok c K (ws 0) g) (hn:(ws 0).net=[]) (hb:∀ p,upTo ((ws 0).nd f).log ((ws 0).nd p).log) (hK:K+N*c.n<65536) (hN:∀ k,k≤N→NoLed c (ws k)):N<5*c.most+5:=by
 by_cases h2:2≤c.n
 ·exact (Trail.of hc h2 hf hT h0 hn hb hK hN).ends
 ·have h1:c.n=1:=by have:=hc.n;omega
  have key:∀ k,k≤N→(∃ g,Ok c (K+k*c.n) (ws k) g)∧((ws k).nd 1).role≠4∧k≤((ws k).nd 1).elapsed:=by
   have hno:∀ k,k≤N→(∃ g,Ok c (K+k*c.n) (ws k) g)→((ws k).nd 1).role≠4:=fun k hk ⟨g,a⟩ hr=>hN k hk ⟨1,_,⟨by omega,by omega⟩,⟨hr,rfl⟩,fun p h1 h2 h3=>by omega⟩
   intro k
   induction k with
   | zero =>
    intro _
    have a:∃ g,Ok c (K+0*c.n) (ws 0) g:=⟨g,by rw [Nat.zero_mul];exact h0⟩
    exact ⟨a,hno 0 (Nat.zero_le _) a,Nat.zero_le _⟩
   | succ k ih =>
    intro hk
    obtain ⟨⟨gk,a⟩,b,e⟩:=ih (by omega)
    have hm:(k+1)*c.n≤N*c.n:=Nat.mul_le_mul_right _ hk
    rw [Nat.succ_mul] at hm
    obtain ⟨g',a',_⟩:=tick_ok hc a (by omega) (hT k (by omega))
    have a2:∃ g,Ok c (K+(k+1)*c.n) (ws (k+1)) g:=⟨g',by rw [Nat.succ_mul,←Nat.add_assoc];exact a'⟩
    have hr:=hno (k+1) hk a2
    refine ⟨a2,hr,?_⟩
    obtain ⟨g1,O1,_⟩:=a.tick1 (d:=drawC c f) hc (by omega)
    have hw:tick1 c (drawC c f) (ws k)=ws (k+1):=(hT k (by omega)).eq (j:=0) (O1.net1 h1)
    have hnd:=tick1_nd (c:=c) (d:=drawC c f) (w:=ws k) (p:=1) (by omega)
    rw [hw] at hnd
    have hlt:((ws k).nd 1).elapsed+1<((ws k).nd 1).timeout:=Nat.lt_of_not_le fun hle=>by
     have ht:=a.bnd.term 1
     have hs:=a.small
     have:=one_lead (c:=c) (draw:=drawC c f 1) h1 b hle (by omega) (a.soft 1).len
     rw [←hnd] at this
     exact hr this
    rw [tick_wait b hlt] at hnd
    rw [hnd]
    show k+1≤((ws k).nd 1).elapsed+1
    omega
  obtain ⟨⟨g,a⟩,b,e⟩:=key N (Nat.le_refl _)
  have:=(a.soft 1).el b
  have:=(a.soft 1).time
  omega
theorem Steady.told (hc:CfgOK c) (hL:1≤L∧L≤c.n) {N:Nat} (hNb:c.beat≤N) (hT:∀ k,k<N→Tick c d (ws k) (ws (k+1))) (h0:Ok c K (ws 0) g) (hn:(ws 0).net=[]) (hS:Steady c L T lg (ws 0).nd) (hK:K+N*c.n<65536):∃ g',Ok c (K+N*c.n) (ws N) g'∧(ws N).net=[]∧Steady c L T lg (ws N).nd∧∀ p,1≤p→p≤c.n→lg.length≤((ws N).nd p).commit:=by
 have key:∀ k,k≤N→∃ g',Ok c (K+k*c.n) (ws k) g'∧(ws k).net=[]∧Steady c L T lg (ws k).nd∧((∀ p,1≤p→p≤c.n→lg.length≤((ws k).nd p).commit)∨k≤((ws k).nd L).beat):=by
  intro k
  induction k with
  | zero=>intro _;exact ⟨g,by rw [Nat.zero_mul];exact h0,hn,hS,.inr (Nat.zero_le _)⟩
  | succ k ih =>
   intro hk
   obtain ⟨gk,a,b,e,l⟩:=ih (by omega)
   have hm:(k+1)*c.n≤N*c.n:=Nat.mul_le_mul_right _ hk
   rw [Nat.succ_mul] at hm ⊢
   obtain ⟨g',a',_,s',t⟩:=e.ticks hc hL b a (by omega) (hT k (by omega))
   refine ⟨g',by rw [←Nat.add_assoc];exact a',(hT k (by omega)).2,s',?_⟩
   rcases t with ⟨t1,t2⟩ | t
   ·rcases l with l | l
    ·exact .inl fun p h1 h2=>Nat.le_trans (l p h1 h2) (t2 p)
    ·exact .inr (by omega)
   ·exact .inl t
 obtain ⟨g',a,b,e,l⟩:=key N (Nat.le_refl _)
 refine ⟨g',a,b,e,l.elim id fun hle=>?_⟩
 have:=(a.soft L).el4 e.Lr.1
 omega
end
def fresh (c:Cfg) (draw:Int) (id term vote:Nat) (log:List Ent) (commit:Nat):Nd:=rest c draw { id:=id,term:=term,vote:=vote,log:=log,commit:=commit }
section
variable {n:Nat} {nd nd0:Nat→Nd} {g g' g0:Gh} {net net' r o:List Msg} {i L T:Nat} {s s':Nd} {ms ms':List Msg} {c:Cfg} {draw:Int} {d:Nat→Int} {m x:Msg} {f K:Nat} {w w':Wd}
def gh0:Gh:=⟨fun _=>0,fun _=>[],fun _ _=>0,fun _ _=>0,fun _ _=>[],fun _ _=>[]⟩
theorem tmL_nil (k:Nat):tmL [] k=0:=by unfold tmL;split <;> simp
theorem inv0 (h:∀ i,(nd i).id=i∧(nd i).term=0∧(nd i).vote=0∧(nd i).log=[]∧(nd i).commit=0∧(nd i).role=1):Inv n nd [] gh0:=by
 constructor
 ·exact fun i=>(h i).1
 ·exact fun i hr=>absurd (h i).2.2.2.2.2 hr
 ·intro t k;show tmL [] k≤t;rw [tmL_nil];exact Nat.zero_le _
 ·exact fun _=>Agree.nil
 ·exact fun t ht=>absurd rfl ht
 ·exact fun t _=>⟨rfl,fun _=>rfl⟩
 ·exact fun i hr=>by have:=(h i).2.2.2.2.2;omega
 ·exact fun i hr=>by have:=(h i).2.2.2.2.2;omega
 ·exact fun i=>(h i).2.2.1.symm
 ·exact fun _ _ _=>⟨rfl,rfl⟩
 ·exact fun i hr=>by have:=(h i).2.2.2.2.2;omega
 ·exact fun i hr=>by have:=(h i).2.2.2.2.2;omega
 ·exact fun t q d hd hq=>absurd hq.symm hd
 ·exact fun t t' k _ hl _ _ _=>absurd rfl hl
 ·exact fun t t' q k _ hv _ _ _ _=>absurd rfl hv
 ·exact fun _ _=>Nat.le_refl _
 ·exact fun q=>⟨Nat.zero_le _,by show (nd q).log.take 0=([]:List Ent).take 0;simp⟩
 ·intro t q k h1 h2 _ _
  have h2:k≤0:=h2
  omega
 ·intro i;rw [(h i).2.2.2.1];exact Agree.nil
 ·intro i k;rw [(h i).2.2.2.1,tmL_nil];exact Nat.zero_le _
 ·intro i;rw [(h i).2.2.2.2.1];exact ⟨Nat.zero_le _,.inl rfl⟩
 ·exact fun m hm=>absurd hm (by simp)
theorem soft_fresh (hc:CfgOK c) {id term vote commit:Nat} {log:List Ent} (hl:log.length<65536):Soft c (fresh c draw id term vote log commit):=by
 have hr:=rnd_le hc draw
 have:=hc.least
 exact ⟨by show 1≤1∧1≤4;omega,fun h=>absurd (show (1:Nat)=4 from h) (by omega),fun h=>absurd (show (1:Nat)=2∨(1:Nat)=3 from h) (by omega),hr,fun _=>by show 0<rnd c draw;omega,fun h=>absurd (show (1:Nat)=4 from h) (by omega),fun h=>absurd (show (1:Nat)=2 from h) (by omega),fun h=>absurd (show (1:Nat)=3 from h) (by omega),fun h=>absurd (show (1:Nat)=4 from h) (by omega),hl⟩
def start (c:Cfg):Wd:=⟨fun i=>fresh c ((i:Int)-1) i 0 0 [] 0,[]⟩
theorem Ok.start (hc:CfgOK c):Ok c 0 (start c) gh0:=by
 have h0:∀ f:Nd→Nat,(∀ i,f ((Rf.start c).nd i)=0)→cnt c f (Rf.start c).nd=0:=fun f hf=>by
  unfold cnt
  have:=sum_le_const (l:=List.range' 1 c.n) (f:=fun i=>f ((Rf.start c).nd i)) (k:=0) fun i _=>Nat.le_of_eq (hf i)
  omega
 refine ⟨inv0 fun i=>⟨rfl,rfl,rfl,rfl,rfl,rfl⟩,fun i=>soft_fresh hc (by simp),⟨fun i=>?_,fun i=>?_,fun m hm=>absurd hm (by simp [Rf.start])⟩,by omega⟩
 ·rw [h0 lw fun _=>rfl];exact Nat.le_refl _
 ·rw [h0 pw fun _=>rfl];exact Nat.le_refl _
theorem Ok.sub (h:Ok c K w g) (hn:∀ x∈net',x∈w.net):Ok c K ⟨w.nd,net'⟩ g :=
 ⟨h.inv.net' fun x hx=>.inl (hn x hx),h.soft,⟨h.bnd.fin,h.bnd.term,fun x hx=>h.bnd.net x (hn x hx)⟩,h.small⟩
theorem Ok.more (h:Ok c K w g) {k:Nat} (hk:K≤k) (h2:k<65536):Ok c k w g :=
 ⟨h.inv,h.soft,⟨fun i=>Nat.le_trans (h.bnd.fin i) hk,fun i=>Nat.le_trans (h.bnd.term i) hk,fun x hx h5=>Nat.le_trans (h.bnd.net x hx h5) hk⟩,h2⟩
theorem Ok.come (h:Ok c K w g) (hc:CfgOK c) (hm:m∈w.net) (hnet:∀ x∈net',x∈w.net∨x∈(message c draw m (w.nd m.dst)).2):∃ g',Ok c K ⟨setN w.nd m.dst (message c draw m (w.nd m.dst)).1,net'⟩ g'∧Ext w.nd (setN w.nd m.dst (message c draw m (w.nd m.dst)).1) g g':=by
 obtain ⟨g',a,b⟩:=Inv.deliver (draw:=draw) h.inv hc.batch.2 rfl hm hnet
 have hb:=h.bnd.deliver (draw:=draw) h.inv hm (h.soft m.dst).role a hnet
 refine ⟨g',⟨a,fun j=>?_,hb,h.small⟩,b⟩
 show Soft c (setN w.nd m.dst (message c draw m (w.nd m.dst)).1 j)
 by_cases hj:j=m.dst
 ·subst hj
  rw [setN_at]
  exact soft_message hc (h.soft _) (h.room _) fun hk=>by
   have h1:=h.bnd.net m hm hk
   have:=h.small
   omega
 ·rw [setN_ne _ _ hj];exact h.soft j
theorem Ok.crash (h:Ok c K w g) (hc:CfgOK c) (hi:1≤i∧i≤c.n) {k:Nat} (hk:k≤(w.nd i).commit):Ok c K ⟨setN w.nd i (fresh c draw i (w.nd i).term (w.nd i).vote (w.nd i).log k),w.net⟩ g∧Ext w.nd (setN w.nd i (fresh c draw i (w.nd i).term (w.nd i).vote (w.nd i).log k)) g g:=by
 have hE:Ext w.nd (setN w.nd i (fresh c draw i (w.nd i).term (w.nd i).vote (w.nd i).log k)) g g:=.refl fun q=>by
  by_cases hq:q=i
  ·subst hq;rw [setN_at];exact Nat.le_refl _
  ·rw [setN_ne _ _ hq];exact Nat.le_refl _
 have hl:=cnt_turn (c:=c) (nd:=w.nd) (f:=lw) (s:=fresh c draw i (w.nd i).term (w.nd i).vote (w.nd i).log k) hi
 have hp:=cnt_turn (c:=c) (nd:=w.nd) (f:=pw) (s:=fresh c draw i (w.nd i).term (w.nd i).vote (w.nd i).log k) hi
 have l0:lw (fresh c draw i (w.nd i).term (w.nd i).vote (w.nd i).log k)=0:=rfl
 have p0:pw (fresh c draw i (w.nd i).term (w.nd i).vote (w.nd i).log k)=0:=rfl
 refine ⟨⟨h.inv.node i _ hi rfl (Nat.le_refl _) rfl (by show (w.nd i).vote=if (w.nd i).term<(w.nd i).term then 0 else (w.nd i).vote;rw [if_neg (Nat.lt_irrefl _)]) (fun h4=>absurd (show (1:Nat)=4 from h4) (by omega)) (fun h3=>absurd (show (1:Nat)=3 from h3) (by omega)) ?_,fun j=>?_,⟨fun j=>?_,fun j=>?_,fun x hx h5=>?_⟩,h.small⟩,hE⟩
 ·have hcm:=h.inv.comm i
  refine ⟨Nat.le_trans hk hcm.1,?_⟩
  rcases hcm.2 with y | ⟨t0,c',y1,y2,y3,y4⟩
  ·left;show k=0;omega
  ·exact .inr ⟨t0,c',y1,Nat.le_trans hk y2,y3,take_of_take y4 hk⟩
 ·show Soft c (setN w.nd i _ j)
  by_cases hj:j=i
  ·subst hj;rw [setN_at];exact soft_fresh hc (h.soft j).len
  ·rw [setN_ne _ _ hj];exact h.soft j
 ·show (setN w.nd i _ j).fin+cnt c lw (setN w.nd i _)≤K
  by_cases hj:j=i
  ·subst hj
   rw [setN_at]
   have:=h.bnd.fin j
   have e:(fresh c draw j (w.nd j).term (w.nd j).vote (w.nd j).log k).fin=(w.nd j).fin:=rfl
   omega
  ·rw [setN_ne _ _ hj];have:=h.bnd.fin j;omega
 ·show (setN w.nd i _ j).term+cnt c pw (setN w.nd i _)≤K
  by_cases hj:j=i
  ·subst hj
   rw [setN_at]
   have:=h.bnd.term j
   have e:(fresh c draw j (w.nd j).term (w.nd j).vote (w.nd j).log k).term=(w.nd j).term:=rfl
   omega
  ·rw [setN_ne _ _ hj];have:=h.bnd.term j;omega
 ·have:=h.bnd.net x hx h5
  show x.idx+x.es.length+cnt c lw (setN w.nd i _)≤K
  omega
end
def H3 (l:List Msg):Prop:=∀ x∈l,x.kind=3→x.hint=0
section
variable {c:Cfg} {draw:Int} {s:Nd} {m:Msg}
theorem H3.nil:H3 []:=fun x hx=>absurd hx (by simp)
theorem H3.one {x:Msg} (h:x.kind≠3):H3 [x]:=fun y hy hk=>by
 rw [List.mem_singleton] at hy;subst hy;exact absurd hk h
theorem H3.apps:H3 (apps c s):=fun x hx hk=>by
 obtain ⟨p,_,rfl⟩:=List.mem_map.1 hx
 exact absurd (show (5:Nat)=3 from hk) (by decide)
theorem H3.lead:H3 (lead c s).2:=by
 unfold Rf.lead
 exact H3.apps
theorem H3.stand:H3 (stand c draw s).2:=by
 unfold Rf.stand
 simp only
 split
 ·exact H3.lead
 ·intro x hx hk
  obtain ⟨p,_,rfl⟩:=List.mem_map.1 hx
  rfl
theorem H3.begin:H3 (begin_ c draw s).2:=by
 unfold begin_
 simp only
 split
 ·exact H3.nil
 ·split
  ·exact H3.stand
  ·intro x hx hk
   obtain ⟨p,_,rfl⟩:=List.mem_map.1 hx
   rfl
theorem H3.tick:H3 (tick c draw s).2:=by
 unfold Rf.tick
 simp only
 split
 ·split
  ·exact H3.begin
  ·exact H3.nil
 ·split
  ·exact H3.nil
  ·split
   ·split
    ·exact H3.apps
    ·exact H3.nil
   ·split
    ·exact H3.apps
    ·exact H3.nil
theorem H3.propose {l:List (List Int)}:H3 (propose c l s).2:=by
 unfold Rf.propose
 exact H3.apps
theorem H3.re {k t i:Nat} {r:Bool} {h:Nat} (hk:k≠3):H3 [re s m k t i r h]:=H3.one hk
theorem H3.old:H3 (old m s):=by
 unfold Rf.old
 split
 ·exact H3.re (by decide)
 ·split
  ·exact H3.re (by decide)
  ·split
   ·exact H3.re (by decide)
   ·exact H3.nil
theorem H3.kinds:H3 (kinds c draw m s).2:=by
 unfold Rf.kinds
 split
 ·unfold preVote
  split <;> exact H3.re (by decide)
 ·unfold preReply
  split
  ·exact H3.nil
  ·simp only
   split
   ·exact H3.stand
   ·exact H3.nil
 ·unfold vote
  split <;> exact H3.re (by decide)
 ·unfold voteReply
  split
  ·exact H3.nil
  ·split
   ·simp only
    split
    ·exact H3.lead
    ·exact H3.nil
   ·simp only
    generalize (if m.src∈s.gr then s else { s with rf:=put s.rf m.src })=s1
    split <;> exact H3.nil
 ·unfold append
  simp only
  split
  ·exact H3.re (by decide)
  ·split
   ·exact H3.re (by decide)
   ·split
    ·exact H3.re (by decide)
    ·exact H3.re (by decide)
 ·unfold appendReply
  split
  ·exact H3.nil
  ·simp only
   split
   ·split
    ·exact H3.one (show (5:Nat)≠3 by decide)
    ·exact H3.nil
   ·split
    ·split
     ·exact H3.apps
     ·split
      ·exact H3.one (show (5:Nat)≠3 by decide)
      ·exact H3.nil
    ·exact H3.nil
 ·exact H3.nil
theorem H3.message:H3 (message c draw m s).2:=by
 unfold Rf.message
 split
 ·exact H3.nil
 ·split
  ·exact H3.kinds
  ·split
   ·exact H3.old
   ·exact H3.kinds
theorem H3.append {a b:List Msg} (h:H3 a) (k:H3 b):H3 (a++b):=fun x hx=>(List.mem_append.1 hx).elim (h x) (k x)
theorem H3.sub {a b:List Msg} (h:H3 a) (k:∀ x∈b,x∈a):H3 b:=fun x hx=>h x (k x hx)
end
end Go.Proofs.YtocogcgnahbpkaaGreat.Rf
