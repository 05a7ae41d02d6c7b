import Derived.Test.YtocogcgnahbpkaaGreatC3
namespace Go.Proofs.YtocogcgnahbpkaaGreat.Rf
structure Wd where
 nd:Nat→Nd
 net:List Msg
def Wd.come (c:Cfg) (draw:Int) (m:Msg) (nd:Nat→Nd):(Nat→Nd)×List Msg:=(setN nd m.dst (message c draw m (nd m.dst)).1,(message c draw m (nd m.dst)).2)
def Wd.arr (c:Cfg) (d:Nat→Int) (w:Wd):Wd :=
 match w.net with
 | []=>w
 | m :: r=>⟨(Wd.come c (d m.dst) m w.nd).1,r++(Wd.come c (d m.dst) m w.nd).2⟩
def Wd.run (c:Cfg) (d:Nat→Int):Nat→Wd→Wd
 | 0,w=>w
 | k+1,w=>Wd.run c d k (w.arr c d)
section
variable {n:Nat} {nd:Nat→Nd} {g g' g0:Gh} {net net' r:List Msg} {i:Nat} {s s':Nd} {ms ms':List Msg} {c:Cfg} {draw:Int} {m:Msg}
theorem Pays.le {nd':Nat→Nd} {x:Nd×List Msg} (h:bud c s≤bud c s') (hp:Pays c g g' nd nd' m s x):Pays c g g' nd nd' m s' x:=by
 unfold Pays at hp ⊢;omega
theorem message_pays (hI:Inv n nd net g) (hm:m∈net) (hn:c.n=n) (hI':Inv n (setN nd m.dst (message c draw m (nd m.dst)).1) net' g') :
  Pays c g g' nd (setN nd m.dst (message c draw m (nd m.dst)).1) m (nd m.dst) (message c draw m (nd m.dst)):=by
 have hM:=(hI.msgs m hm).1
 unfold message at hI' ⊢
 split at hI'
 ·rename_i h;rw [if_pos h];exact pays_nil (Nat.le_refl _)
 ·rename_i h1
  rw [if_neg h1]
  split at hI'
  ·rename_i h2
   rw [if_pos h2]
   have hlog:(follow c draw m.term (if m.kind=5 then m.src else 0) (nd m.dst)).log=(nd m.dst).log:=rfl
   have hr1:(follow c draw m.term (if m.kind=5 then m.src else 0) (nd m.dst)).role=1:=rfl
   have hb:bud c (follow c draw m.term (if m.kind=5 then m.src else 0) (nd m.dst))≤bud c (nd m.dst):=by rw [bud1 hr1];exact Nat.zero_le _
   refine Pays.le hb ?_
   generalize follow c draw m.term (if m.kind=5 then m.src else 0) (nd m.dst)=s1 at hI' hlog hr1 hb ⊢
   unfold kinds
   split
   ·exact pays_preVote _ (by assumption)
   ·exact pays_preReply _
   ·exact pays_vote _ (by assumption)
   ·exact pays_voteReply _
   ·exact pays_append hI hm (by assumption) hlog (by omega) _
   ·unfold appendReply
    rw [if_pos (by omega)]
    exact pays_nil (Nat.le_refl _)
   ·exact pays_nil (Nat.le_refl _)
  ·rename_i h2
   rw [if_neg h2]
   split at hI'
   ·rename_i h3
    rw [if_pos h3]
    exact pays_old hM.form.ne h3 _ fun x hx=>setN_ne _ _ hx
   ·rename_i h3
    rw [if_neg h3]
    have hterm:3≤m.kind→m.term=(nd m.dst).term:=fun hk=>Classical.byContradiction fun hne=>h2 ⟨by omega,by omega,.inl (by omega)⟩
    unfold kinds at hI' ⊢
    split
    ·exact pays_preVote _ (by assumption)
    ·exact pays_preReply _
    ·exact pays_vote _ (by assumption)
    ·exact pays_voteReply _
    ·rename_i hk
     exact pays_append hI hm hk rfl (by have:=hterm (by omega);omega) _
    ·rename_i hk
     rw [hk] at hI'
     exact pays_appendReply hI hm hk rfl hn (fun _=>hterm (by omega)) hI'
    ·exact pays_nil (Nat.le_refl _)
theorem psi_down (hI:Inv n nd (m :: r) g) (hn:c.n=n) (hI':Inv n (setN nd m.dst (message c draw m (nd m.dst)).1) net' g') (hE:∀ t q,g.ack t q≤g'.ack t q) (hr:1≤(nd m.dst).role∧(nd m.dst).role≤4) :
  psi c g' (setN nd m.dst (message c draw m (nd m.dst)).1) (r++(message c draw m (nd m.dst)).2)+1≤psi c g nd (m :: r):=by
 have hM:=(hI.msgs m (by simp)).1
 have h1:=message_pays (draw:=draw) hI (by simp) hn hI'
 have h2:(r.map (wt g' (setN nd m.dst (message c draw m (nd m.dst)).1))).sum≤(r.map (wt g nd)).sum:=sum_le fun x _=>wt_mono hE (message_tr hr) x
 have h3:=sum_turn (l:=List.range' 1 c.n) (f:=fun j=>bud c (nd j)) (f':=fun j=>bud c (setN nd m.dst (message c draw m (nd m.dst)).1 j)) (i:=m.dst) (List.nodup_range' (step:=1) (by omega)) (List.mem_range'_1.2 (by have:=hM.rng.2;omega)) fun x _ hx=>by rw [setN_ne _ _ hx]
 simp only [setN_at] at h3
 unfold Pays at h1
 unfold psi
 rw [List.map_append,List.sum_append,List.map_cons,List.sum_cons]
 omega
theorem bud_le (hI:Inv n nd net g) (i:Nat):bud c (nd i)≤(others c (nd i).id).length*(8*(nd i).fin+12):=by
 unfold bud
 split
 ·rename_i h4
  have h1:((others c (nd i).id).map (pay (nd i))).sum≤(others c (nd i).id).length*(4*(nd i).fin):=sum_le_const fun p hp=>by
   have:=hI.nxt i h4 p (by have:=(mem_others.1 hp).2;rw [hI.ids] at this;exact this)
   unfold pay
   have:(nd i).fin=(nd i).log.length:=rfl
   omega
  have h2:(others c (nd i).id).length*((nd i).fin-(nd i).commit)≤(others c (nd i).id).length*(nd i).fin:=Nat.mul_le_mul_left _ (Nat.sub_le ..)
  generalize (others c (nd i).id).length=d at *
  generalize (nd i).fin=f at *
  have e1:d*(4*f)=4*(d*f):=Nat.mul_left_comm ..
  have e2:d*(8*f+12)=8*(d*f)+12*d:=by rw [Nat.mul_add,Nat.mul_left_comm,Nat.mul_comm d 12]
  omega
 ·generalize (others c (nd i).id).length=d
  generalize (nd i).fin=f
  have e2:d*(8*f+12)=8*(d*f)+12*d:=by rw [Nat.mul_add,Nat.mul_left_comm,Nat.mul_comm d 12]
  have e3:d*(8*f+10)=8*(d*f)+10*d:=by rw [Nat.mul_add,Nat.mul_left_comm,Nat.mul_comm d 10]
  split
  ·omega
  ·split <;> omega
theorem others_len (c:Cfg) (id:Nat):(others c id).length≤c.n:=by
 have:=List.length_filter_le (fun p=>decide (p≠id)) (List.range' 1 c.n)
 rw [List.length_range'] at this
 exact this
theorem psi_le (hI:Inv n nd net g) {h:Nat} (hh:∀ i,(nd i).log.length≤h):psi c g nd net≤4*net.length+c.n*(c.n*(8*h+12)):=by
 unfold psi
 have h1:(net.map (wt g nd)).sum≤net.length*4:=sum_le_const fun x _=>wt_app x
 have h2:((List.range' 1 c.n).map fun i=>bud c (nd i)).sum≤(List.range' 1 c.n).length*(c.n*(8*h+12)):=sum_le_const fun i _=>by
  refine Nat.le_trans (bud_le hI i) ?_
  have:=hh i
  exact Nat.mul_le_mul (others_len ..) (by show 8*(nd i).log.length+12≤_;omega)
 rw [List.length_range'] at h2
 omega
theorem Inv.deliver (hI:Inv n nd net g) (hb:c.batch≤16) (hn:c.n=n) (hm:m∈net) (hnet:∀ x∈net',x∈net∨x∈(message c draw m (nd m.dst)).2):∃ g',Inv n (setN nd m.dst (message c draw m (nd m.dst)).1) net' g'∧Ext nd (setN nd m.dst (message c draw m (nd m.dst)).1) g g':=by
 obtain ⟨_,g',a,b⟩:=Good.message (draw:=draw) (Good.start hI (hI.msgs m hm).1.rng.2) hb hn hm rfl
 refine ⟨g',a.net' fun x hx=>.inl ?_,b⟩
 rw [List.nil_append]
 rcases hnet x hx with h | h
 ·exact List.mem_append_left _ h
 ·exact List.mem_append_right _ h
theorem Inv.own (hI:Inv n nd net g) (hi:1≤i∧i≤n) {x:Nd×List Msg} (hx:∀ g0 ms,Good n nd i net g0 (nd i) ms→Good n nd i net g0 x.1 (ms++x.2)) (hnet:∀ y∈net',y∈net∨y∈x.2):∃ g',Inv n (setN nd i x.1) net' g'∧Ext nd (setN nd i x.1) g g':=by
 obtain ⟨_,g',a,b⟩:=hx g [] (Good.start hI hi)
 refine ⟨g',a.net' fun x hx=>.inl ?_,b⟩
 rw [List.nil_append]
 rcases hnet x hx with h | h
 ·exact List.mem_append_left _ h
 ·exact List.mem_append_right _ h
def Wd.OK (c:Cfg) (w:Wd) (g:Gh):Prop:=Inv c.n w.nd w.net g∧∀ i,1≤(w.nd i).role∧(w.nd i).role≤4
end
section
variable {n:Nat} {nd:Nat→Nd} {g g' g0:Gh} {net net' r:List Msg} {i:Nat} {s s':Nd} {ms ms':List Msg} {c:Cfg} {draw:Int} {m:Msg}
theorem lead_term:(lead c s).1.term=s.term:=by
 unfold lead
 simp only
 split <;> rfl
theorem stand_term:(stand c draw s).1.term=s.term+1:=by
 unfold stand
 simp only
 split
 ·rw [lead_term];rfl
 ·rfl
theorem kinds_term:(kinds c draw m s).1.term=s.term∨(m.kind=5∧(kinds c draw m s).1.term=max s.term m.term)∨(s.role=2∧m.kind=2∧m.rej=false∧m.term=s.term+1∧(kinds c draw m s).1.term=s.term+1):=by
 unfold kinds
 split
 ·unfold preVote;split <;> exact .inl rfl
 ·rename_i hk
  unfold preReply
  split
  ·exact .inl rfl
  ·rename_i hne
   simp only
   split
   ·refine .inr (.inr ⟨by omega,hk,?_,by omega,stand_term⟩)
    cases hb:m.rej with
    | false=>rfl
    | true=>exact absurd (.inr (.inl hb)) hne
   ·exact .inl rfl
 ·unfold vote;split <;> exact .inl rfl
 ·unfold voteReply
  split
  ·exact .inl rfl
  ·split
   ·simp only
    split
    ·exact .inl lead_term
    ·exact .inl rfl
   ·simp only
    have:(if m.src∈s.gr then s else { s with rf:=put s.rf m.src }).term=s.term:=by split <;> rfl
    generalize (if m.src∈s.gr then s else { s with rf:=put s.rf m.src })=s1 at this ⊢
    split
    ·left;show max s1.term s1.term=s.term;omega
    ·exact .inl this
 ·rename_i hk
  refine .inr (.inl ⟨hk,?_⟩)
  unfold append
  simp only
  split
  ·rfl
  ·split
   ·rfl
   ·split <;> rfl
 ·unfold appendReply
  split
  ·exact .inl rfl
  ·simp only
   split
   ·split <;> exact .inl rfl
   ·split
    ·split
     ·exact .inl rfl
     ·split <;> exact .inl rfl
    ·exact .inl rfl
 ·exact .inl rfl
theorem message_term:(message c draw m s).1.term=s.term∨(s.term<m.term∧(message c draw m s).1.term=m.term∧(3≤m.kind∨(m.kind=2∧m.rej=true)∨m.kind=0))∨(s.role=2∧m.kind=2∧m.rej=false∧m.term=s.term+1∧(message c draw m s).1.term=s.term+1):=by
 unfold message
 split
 ·exact .inl rfl
 ·split
  ·rename_i h1 h2
   right;left
   have hf:(follow c draw m.term (if m.kind=5 then m.src else 0) s).term=m.term:=by show max s.term m.term=_;omega
   have hr:(follow c draw m.term (if m.kind=5 then m.src else 0) s).role=1:=rfl
   refine ⟨h2.1,?_,if k2:m.kind=2 then .inr (.inl ⟨k2,h2.2.2.resolve_left fun x=>x k2⟩) else if k3:3≤m.kind then .inl k3 else .inr (.inr (by omega))⟩
   rcases kinds_term (c:=c) (draw:=draw) (m:=m) (s:=follow c draw m.term (if m.kind=5 then m.src else 0) s) with h | ⟨_,h⟩ | ⟨h,_⟩
   ·rw [h,hf]
   ·rw [h,hf,Nat.max_self]
   ·omega
  ·split
   ·exact .inl rfl
   ·rename_i h1 h2 h3
    rcases kinds_term (c:=c) (draw:=draw) (m:=m) (s:=s) with h | ⟨h,h'⟩ | h
    ·exact .inl h
    ·left
     rw [h']
     have:¬ s.term<m.term:=fun hl=>h2 ⟨hl,by omega,.inl (by omega)⟩
     omega
    ·exact .inr (.inr h)
theorem message_depose (hk:m.kind=6) (ht:s.term<m.term):(message c draw m s).1.role=1:=by
 unfold message
 rw [if_neg (by omega),if_pos ⟨ht,by omega,.inl (by omega)⟩]
 unfold kinds
 rw [hk]
 simp only
 unfold appendReply
 rw [if_pos (by show ¬ ((1:Nat)=4);omega)]
 rfl
theorem append_leader:(append c draw m s).1.leader=m.src∧(append c draw m s).1.role=1:=by
 unfold append
 simp only
 split
 ·exact ⟨rfl,rfl⟩
 ·split
  ·exact ⟨rfl,rfl⟩
  ·split <;> exact ⟨rfl,rfl⟩
theorem message_append (hk:m.kind=5) (ht:s.term≤m.term):(message c draw m s).1.role=1∧(message c draw m s).1.leader=m.src∧(message c draw m s).1.term=m.term:=by
 have key:∀ s1:Nd,s1.term≤m.term→(kinds c draw m s1).1.role=1∧(kinds c draw m s1).1.leader=m.src∧(kinds c draw m s1).1.term=m.term:=fun s1 h1=>by
  have hka:kinds c draw m s1=append c draw m s1:=by unfold kinds;simp only [hk]
  have ht:(kinds c draw m s1).1.term=m.term:=by
   rw [hka]
   unfold append
   simp only
   have hm:max s1.term m.term=m.term:=by omega
   split
   ·exact hm
   ·split
    ·exact hm
    ·split <;> exact hm
  refine ⟨?_,?_,ht⟩
  ·rw [hka];exact append_leader.2
  ·rw [hka];exact append_leader.1
 unfold message
 rw [if_neg (by omega)]
 split
 ·exact key _ (by show max s.term m.term≤_;omega)
 ·rw [if_neg (by omega)]
  exact key _ ht
theorem message_old5 (hk:m.kind=5) (ht:m.term<s.term):(message c draw m s).2=[re s m 6 s.term m.idx true 0]:=by
 unfold message
 rw [if_neg (by omega),if_neg (by omega),if_pos ht]
 unfold old
 rw [if_pos hk]
theorem message_follower (h1:s.role=1):s.term<(message c draw m s).1.term∨((message c draw m s).1.term=s.term∧(message c draw m s).1.role=1∧((message c draw m s).1.leader=s.leader∨(m.kind=5∧m.term=s.term∧(message c draw m s).1.leader=m.src))):=by
 have hr:(message c draw m s).1.role=1:=by
  rcases message_tr (c:=c) (draw:=draw) (m:=m) (s:=s) (by omega) with h | h | h
  ·exact h
  ·omega
  ·omega
 rcases message_term (c:=c) (draw:=draw) (m:=m) (s:=s) with h | h | h
 ·right
  refine ⟨h,hr,?_⟩
  unfold message at h ⊢
  split at h
  ·rename_i h2;rw [if_pos h2];exact .inl rfl
  ·rename_i h2
   rw [if_neg h2]
   split at h
   ·rename_i h3
    exfalso
    have hf:(follow c draw m.term (if m.kind=5 then m.src else 0) s).term=m.term:=by show max s.term m.term=_;omega
    have hr:(follow c draw m.term (if m.kind=5 then m.src else 0) s).role=1:=rfl
    rcases kinds_term (c:=c) (draw:=draw) (m:=m) (s:=follow c draw m.term (if m.kind=5 then m.src else 0) s) with x | ⟨_,x⟩ | ⟨x,_⟩
    ·omega
    ·omega
    ·omega
   ·rename_i h3
    rw [if_neg h3]
    split at h
    ·rename_i h4;rw [if_pos h4];exact .inl rfl
    ·rename_i h4
     rw [if_neg h4]
     unfold kinds
     split
     ·unfold preVote;split <;> exact .inl rfl
     ·unfold preReply;rw [if_pos (by omega)];exact .inl rfl
     ·unfold vote;split <;> exact .inl rfl
     ·unfold voteReply;rw [if_pos (by omega)];exact .inl rfl
     ·rename_i hk
      exact .inr ⟨hk,by have:¬ s.term<m.term:=fun hl=>h3 ⟨hl,by omega,.inl (by omega)⟩
                        omega,append_leader.1⟩
     ·unfold appendReply;rw [if_pos (by omega)];exact .inl rfl
     ·exact .inl rfl
 ·exact .inl (by omega)
 ·omega
theorem stand_leads (h4:(stand c draw s).1.role=4):(stand c draw s).2=apps c (stand c draw s).1:=by
 unfold stand at h4 ⊢
 simp only at h4 ⊢
 split at h4
 ·rename_i h;rw [if_pos h];rfl
 ·exact absurd h4 (by show ¬ ((3:Nat)=4);omega)
theorem message_leads (h:s.role≠4) (h4:(message c draw m s).1.role=4):(message c draw m s).2=apps c (message c draw m s).1:=by
 have key:∀ s1:Nd,s1.role≠4→(kinds c draw m s1).1.role=4→(kinds c draw m s1).2=apps c (kinds c draw m s1).1:=fun s1 h h4=>by
  unfold kinds at h4 ⊢
  split at h4
  ·unfold preVote at h4;split at h4 <;> exact absurd h4 h
  ·unfold preReply at h4 ⊢
   split at h4
   ·exact absurd h4 h
   ·rename_i h1
    rw [if_neg h1]
    simp only at h4 ⊢
    split at h4
    ·rename_i h2;rw [if_pos h2];exact stand_leads h4
    ·exact absurd h4 h
  ·unfold vote at h4;split at h4 <;> exact absurd h4 h
  ·unfold voteReply at h4 ⊢
   split at h4
   ·exact absurd h4 h
   ·rename_i h1
    rw [if_neg h1]
    split at h4
    ·rename_i h2
     rw [if_pos h2]
     simp only at h4 ⊢
     split at h4
     ·rename_i h3;rw [if_pos h3];rfl
     ·exact absurd h4 h
    ·simp only at h4
     have h5:(if m.src∈s1.gr then s1 else { s1 with rf:=put s1.rf m.src }).role≠4:=by split <;> exact h
     generalize (if m.src∈s1.gr then s1 else { s1 with rf:=put s1.rf m.src })=s2 at h4 h5
     split at h4
     ·exact absurd h4 (by show ¬ ((1:Nat)=4);omega)
     ·exact absurd h4 h5
  ·rw [append_leader.2] at h4;omega
  ·unfold appendReply at h4;rw [if_pos h] at h4;exact absurd h4 h
  ·exact absurd h4 h
 unfold message at h4 ⊢
 split at h4
 ·exact absurd h4 h
 ·rename_i h1
  rw [if_neg h1]
  split at h4
  ·rename_i h2;rw [if_pos h2];exact key _ (by show ¬ ((1:Nat)=4);omega) h4
  ·rename_i h2
   rw [if_neg h2]
   split at h4
   ·exact absurd h4 h
   ·rename_i h3;rw [if_neg h3];exact key _ h h4
def Wrote (net:List Msg) (L T p:Nat):Prop:=∃ m∈net,m.kind=5∧m.src=L∧m.dst=p∧m.term=T
def LDn (c:Cfg) (L T:Nat) (w:Wd):Prop :=
 ((w.nd L).role=4∧(w.nd L).term=T) →
   (∀ p,1≤p→p≤c.n→p≠L→Wrote w.net L T p∨T<(w.nd p).term∨((w.nd p).term=T∧(w.nd p).role=1∧(w.nd p).leader=L)) ∧
   ((∃ p,(1≤p∧p≤c.n)∧T<(w.nd p).term)→(∃ m∈w.net,m.dst=L∧m.kind=6∧T<m.term)∨(∃ p,(1≤p∧p≤c.n)∧T<(w.nd p).term∧Wrote w.net L T p))
theorem Wrote.keep {L T p:Nat} (h:Wrote (m :: r) L T p) (hne:¬ (m.kind=5∧m.src=L∧m.dst=p∧m.term=T)) (ms:List Msg):Wrote (r++ms) L T p:=by
 obtain ⟨x,hx,h⟩:=h
 rcases List.mem_cons.1 hx with rfl | hx
 ·exact absurd h hne
 ·exact ⟨x,List.mem_append_left _ hx,h⟩
theorem LDn.arr {d:Nat→Int} {w:Wd} {L T:Nat} (h:LDn c L T w) (hOK:w.OK c g) (hI':∃ g',Inv c.n (w.arr c d).nd (w.arr c d).net g') (hT':∀ q,(w.nd q).term≤((w.arr c d).nd q).term) (hne:w.net≠[]):LDn c L T (w.arr c d):=by
 obtain ⟨nd,net⟩:=w
 match net,hne with
 | m :: r,_ =>
  obtain ⟨hI,hrole⟩:=hOK
  have hM:=(hI.msgs m (by simp)).1
  have htO:=(hI.msgs m (by simp)).2
  simp only at hI hrole
  show LDn c L T ⟨setN nd m.dst (message c (d m.dst) m (nd m.dst)).1,r++(message c (d m.dst) m (nd m.dst)).2⟩
  obtain ⟨g',hI'⟩:=hI'
  change Inv c.n (setN nd m.dst (message c (d m.dst) m (nd m.dst)).1) (r++(message c (d m.dst) m (nd m.dst)).2) g' at hI'
  have hidN:=hI'.ids m.dst
  rw [setN_at] at hidN
  change ∀ q,(nd q).term≤(setN nd m.dst (message c (d m.dst) m (nd m.dst)).1 q).term at hT'
  intro hL
  simp only at hL ⊢
  by_cases hd:m.dst=L
  ·
   by_cases hnew:(nd L).role≠4
   ·
    rw [hd,setN_at] at hL
    have hw:=message_leads hnew hL.1
    have hid:(message c (d L) m (nd L)).1.id=L:=by rw [hd] at hidN;exact hidN
    have hall:∀ p,1≤p→p≤c.n→p≠L→Wrote (r++(message c (d m.dst) m (nd m.dst)).2) L T p:=fun p h1 h2 h3=>by
     rw [hd,hw]
     refine ⟨app c _ p,List.mem_append_right _ (List.mem_map.2 ⟨p,mem_others.2 ⟨⟨h1,h2⟩,by rw [hid];exact h3⟩,rfl⟩),rfl,hid,rfl,hL.2⟩
    refine ⟨fun p h1 h2 h3=>.inl (hall p h1 h2 h3),fun ⟨p,h1,h2⟩=>.inr ⟨p,h1,h2,hall p h1.1 h1.2 fun hp=>?_⟩⟩
    subst hp
    rw [hd,setN_at] at h2
    omega
   have hL':(nd L).role=4∧(nd L).term=T:=by
    rw [hd,setN_at] at hL
    rcases message_tr (c:=c) (draw:=d L) (m:=m) (s:=nd L) (hrole L) with x | x | x
    ·omega
    ·exact absurd x.2.1 hnew
    ·exact ⟨x.1,by rw [←x.2.2];exact hL.2⟩
   obtain ⟨hA,hB⟩:=h hL'
   simp only at hA hB
   have hno:¬ (m.kind=6∧T<m.term):=fun ⟨a,b⟩=>by
    rw [hd,setN_at,message_depose a (by omega)] at hL
    omega
   have hsame:∀ p,p≠L→setN nd m.dst (message c (d m.dst) m (nd m.dst)).1 p=nd p:=fun p hp=>setN_ne _ _ (by rw [hd];exact hp)
   refine ⟨fun p h1 h2 h3=>?_,fun ⟨p,h1,h2⟩=>?_⟩
   ·rw [hsame p h3]
    rcases hA p h1 h2 h3 with x | x
    ·exact .inl (x.keep (fun y=>h3 (by rw [←y.2.2.1];exact hd)) _)
    ·exact .inr x
   ·have hp:p≠L:=fun hp=>by
     subst hp
     have:=hL.2
     omega
    rw [hsame p hp] at h2
    rcases hB ⟨p,h1,h2⟩ with ⟨x,hx,hx1,hx2,hx3⟩ | ⟨q,h4,h5,h6⟩
    ·rcases List.mem_cons.1 hx with rfl | hx
     ·exact absurd ⟨hx2,hx3⟩ hno
     ·exact .inl ⟨x,List.mem_append_left _ hx,hx1,hx2,hx3⟩
    ·have hq:q≠L:=fun hq=>by subst hq;omega
     exact .inr ⟨q,h4,by rw [hsame q hq];exact h5,h6.keep (fun y=>hq (by rw [←y.2.2.1];exact hd)) _⟩
  ·
   have hLs:setN nd m.dst (message c (d m.dst) m (nd m.dst)).1 L=nd L:=setN_ne _ _ fun e=>hd e.symm
   rw [hLs] at hL
   obtain ⟨hA,hB⟩:=h hL
   simp only at hA hB
   have hlid:=(hI.lead L hL.1).1
   rw [hL.2] at hlid
   have hTp:=hT' m.dst
   rw [setN_at] at hTp
   refine ⟨fun p h1 h2 h3=>?_,fun ⟨p,h1,h2⟩=>?_⟩
   ·by_cases hp:p=m.dst
    ·subst hp
     rw [setN_at]
     by_cases hm:m.kind=5∧m.src=L∧m.dst=m.dst∧m.term=T
     ·by_cases ht:T<(nd m.dst).term
      ·exact .inr (.inl (by omega))
      ·have:=message_append (c:=c) (draw:=d m.dst) (s:=nd m.dst) hm.1 (by omega)
       exact .inr (.inr ⟨by rw [this.2.2];exact hm.2.2.2,this.1,by rw [this.2.1];exact hm.2.1⟩)
     ·rcases hA _ h1 h2 h3 with x | x | x
      ·exact .inl (x.keep hm _)
      ·exact .inr (.inl (by omega))
      ·rcases message_follower (c:=c) (draw:=d m.dst) (m:=m) x.2.1 with y | ⟨y,z,u⟩
       ·exact .inr (.inl (by omega))
       ·refine .inr (.inr ⟨by rw [y];exact x.1,z,?_⟩)
        rcases u with u | ⟨u,v,u'⟩
        ·rw [u];exact x.2.2
        ·rw [u',←(hM.app u).1,v,x.1];exact hlid
    ·rw [setN_ne _ _ hp]
     rcases hA p h1 h2 h3 with x | x
     ·exact .inl (x.keep (fun y=>hp y.2.2.1.symm) _)
     ·exact .inr x
   ·by_cases hbefore:∃ q,(1≤q∧q≤c.n)∧T<(nd q).term
    ·rcases hB hbefore with ⟨x,hx,hx1,hx2,hx3⟩ | ⟨q,h4,h5,h6⟩
     ·rcases List.mem_cons.1 hx with rfl | hx
      ·exact absurd hx1 hd
      ·exact .inl ⟨x,List.mem_append_left _ hx,hx1,hx2,hx3⟩
     ·by_cases hm:m.kind=5∧m.src=L∧m.dst=q∧m.term=T
      ·
       left
       obtain ⟨k1,k2,k3,k4⟩:=hm
       have:=message_old5 (c:=c) (draw:=d m.dst) (s:=nd m.dst) k1 (by rw [k3];omega)
       refine ⟨_,List.mem_append_right _ (by rw [this];exact List.mem_singleton.2 rfl),k2,rfl,?_⟩
       show T<(nd m.dst).term
       rw [k3];exact h5
      ·right
       refine ⟨q,h4,Nat.lt_of_lt_of_le h5 (hT' q),h6.keep hm _⟩
    ·
     have hp:p=m.dst:=Classical.byContradiction fun hp=>hbefore ⟨p,h1,by rw [setN_ne _ _ hp] at h2;exact h2⟩
     subst hp
     rw [setN_at] at h2
     have hle:¬ T<(nd m.dst).term:=fun x=>hbefore ⟨_,h1,x⟩
     have hsrc:¬ T<(nd m.src).term:=fun x=>hbefore ⟨_,hM.rng.1,x⟩
     rcases message_term (c:=c) (draw:=d m.dst) (m:=m) (s:=nd m.dst) with x | ⟨x,y,z⟩ | ⟨x,y,z,u,v⟩
     ·omega
     ·have:m.term≤(nd m.src).term:=by
       rcases z with z | ⟨z,z'⟩ | z
       ·exact htO.2.2 z
       ·exact htO.2.1 z z'
       ·have:=hM.form.kind;omega
      omega
     ·rcases hA m.dst h1.1 h1.2 hd with k | k | k
      ·refine .inr ⟨m.dst,h1,by rw [setN_at];omega,k.keep (fun q=>by omega) _⟩
      ·omega
      ·omega
def Led (c:Cfg) (L T:Nat) (nd:Nat→Nd):Prop:=((nd L).role=4∧(nd L).term=T)∧∀ p,1≤p→p≤c.n→p≠L→(nd p).term=T∧(nd p).role=1∧(nd p).leader=L
theorem LDn.done {w:Wd} {L T:Nat} (h:LDn c L T w) (h0:w.net=[]) (hL:(w.nd L).role=4∧(w.nd L).term=T):Led c L T w.nd:=by
 obtain ⟨hA,hB⟩:=h hL
 refine ⟨hL,fun p h1 h2 h3=>?_⟩
 rcases hA p h1 h2 h3 with ⟨x,hx,_⟩ | x | x
 ·rw [h0] at hx;exact absurd hx (by simp)
 ·rcases hB ⟨p,⟨h1,h2⟩,x⟩ with ⟨y,hy,_⟩ | ⟨q,_,_,y,hy,_⟩
  ·rw [h0] at hy;exact absurd hy (by simp)
  ·rw [h0] at hy;exact absurd hy (by simp)
 ·exact x
end
structure CfgOK (c:Cfg):Prop where
 n:1≤c.n∧c.n≤5
 least:2≤c.least∧c.least≤12
 most:c.least+3≤c.most∧c.most≤c.least+18
 beat:1≤c.beat∧c.beat<c.least
 batch:1≤c.batch∧c.batch≤16
structure Soft (c:Cfg) (s:Nd):Prop where
 role:1≤s.role∧s.role≤4
 lead:s.role=4→s.leader=s.id
 pre:s.role=2∨s.role=3→s.leader=0
 time:c.least≤s.timeout∧s.timeout≤c.most
 el:s.role≠4→s.elapsed<s.timeout
 el4:s.role=4→s.elapsed<c.most∧s.beat<c.beat
 gr2:s.role=2→s.gr.Nodup∧¬ (maj c s.gr.length=true)
 gr3:s.role=3→¬ (maj c s.gr.length=true)
 last:s.role=4→s.tm s.fin=s.term
 len:s.fin<65536
section
variable {n:Nat} {nd:Nat→Nd} {g g' g0:Gh} {net net' r:List Msg} {i:Nat} {s s':Nd} {ms ms':List Msg} {c:Cfg} {draw:Int} {m:Msg}
theorem rnd_le (hc:CfgOK c) (draw:Int):c.least≤rnd c draw∧rnd c draw≤c.most:=by
 unfold rnd
 have h1:=hc.most
 have h2:=Int.emod_nonneg draw (show (c.most:Int)-c.least+1≠0 by omega)
 have h3:=Int.emod_lt_of_pos draw (show (0:Int)<(c.most:Int)-c.least+1 by omega)
 omega
theorem last_append (l:List Ent) (es:List Ent) (t:Nat) (he:∀ e∈es,e.term=t) (hne:es≠[]):tmL (l++es) (l++es).length=t:=by
 unfold tmL
 have hl:0<es.length:=List.length_pos_iff.2 hne
 rw [if_neg (by rw [List.length_append];omega),List.getElem?_append_right (by rw [List.length_append];omega)]
 rw [List.length_append,List.getElem?_eq_getElem (by omega)]
 exact he _ (List.getElem_mem _)
theorem soft_lead (hc:CfgOK c) (ht:c.least≤s.timeout∧s.timeout≤c.most) (hl:s.fin+1<65536):Soft c (lead c s).1:=by
 have key:∀ s1:Nd,s1.role=4→s1.leader=s1.id→s1.timeout=s.timeout→s1.elapsed=0→s1.beat=0→s1.tm s1.fin=s1.term→s1.fin<65536→Soft c (count c s1):=fun s1 h1 h2 h3 h4 h5 h6 h7 =>
  ⟨by show 1≤s1.role∧s1.role≤4;omega,fun _=>h2,fun h=>absurd (show s1.role=2∨s1.role=3 from h) (by omega),by show c.least≤s1.timeout∧s1.timeout≤c.most;rw [h3];exact ht,fun h=>absurd h1 h,fun _=>by show s1.elapsed<_∧s1.beat<_;have:=hc.beat;have:=hc.most;omega,fun h=>absurd (show s1.role=2 from h) (by omega),fun h=>absurd (show s1.role=3 from h) (by omega),fun _=>h6,h7⟩
 unfold lead
 simp only
 split
 ·refine key _ rfl rfl rfl rfl rfl ?_ ?_
  ·exact last_append s.log ([⟨s.term,[]⟩]:List Ent) s.term (fun e he=>by obtain rfl:=List.mem_singleton.1 he;rfl) (by simp)
  ·show (s.log++([⟨s.term,[]⟩]:List Ent)).length<65536
   rw [List.length_append];exact hl
 ·rename_i h
  exact absurd (show s.fin<1099511627776 by omega) h
theorem soft_stand (hc:CfgOK c) (hl:s.fin+1<65536):Soft c (stand c draw s).1:=by
 have hr:=rnd_le hc draw
 unfold stand
 simp only
 split
 ·exact soft_lead hc hr hl
 ·rename_i h
  exact ⟨by show 1≤3∧3≤4;omega,fun h=>absurd (show (3:Nat)=4 from h) (by omega),fun _=>rfl,hr,fun _=>by show 0<rnd c draw;have:=hc.least;omega,fun h=>absurd (show (3:Nat)=4 from h) (by omega),fun h=>absurd (show (3:Nat)=2 from h) (by omega),fun _=>h,fun h=>absurd (show (3:Nat)=4 from h) (by omega),by show s.fin<65536;omega⟩
theorem soft_follow (hc:CfgOK c) (t l:Nat) (hl:s.fin<65536):Soft c (follow c draw t l s):=by
 have hr:=rnd_le hc draw
 exact ⟨by show 1≤1∧1≤4;omega,fun h=>absurd (show (1:Nat)=4 from h) (by omega),fun h=>absurd (show (1:Nat)=2∨(1:Nat)=3 from h) (by omega),hr,fun _=>by show 0<rnd c draw;have:=hc.least;omega,fun h=>absurd (show (1:Nat)=4 from h) (by omega),fun h=>absurd (show (1:Nat)=2 from h) (by omega),fun h=>absurd (show (1:Nat)=3 from h) (by omega),fun h=>absurd (show (1:Nat)=4 from h) (by omega),hl⟩
theorem soft_begin (hc:CfgOK c) (hs:Soft c s) (h4:s.role≠4) (hl:s.fin+1<65536):Soft c (begin_ c draw s).1:=by
 have hr:=rnd_le hc draw
 have h0:0<rnd c draw:=by have:=hc.least;omega
 unfold begin_
 simp only
 split
 ·exact ⟨hs.role,fun h=>absurd h h4,hs.pre,hr,fun _=>h0,fun h=>absurd h h4,hs.gr2,hs.gr3,fun h=>absurd h h4,hs.len⟩
 ·split
  ·exact soft_stand hc hl
  ·rename_i h
   exact ⟨by show 1≤2∧2≤4;omega,fun h=>absurd (show (2:Nat)=4 from h) (by omega),fun _=>rfl,hr,fun _=>h0,fun h=>absurd (show (2:Nat)=4 from h) (by omega),fun _=>⟨by show [s.id].Nodup;simp,h⟩,fun h=>absurd (show (2:Nat)=3 from h) (by omega),fun h=>absurd (show (2:Nat)=4 from h) (by omega),hs.len⟩
theorem soft_tick (hc:CfgOK c) (hs:Soft c s) (hl:s.fin+1<65536):Soft c (tick c draw s).1:=by
 unfold tick
 simp only
 by_cases h4:s.role≠4
 ·rw [if_pos h4]
  split
  ·
   have hs':Soft c { s with elapsed:=0 }:=⟨hs.role,hs.lead,hs.pre,hs.time,fun _=>by show 0<s.timeout;have:=hs.time;have:=hc.least;omega,fun h=>absurd h h4,hs.gr2,hs.gr3,fun h=>absurd h h4,hs.len⟩
   have:=soft_begin (draw:=draw) hc hs' h4 hl
   exact this
  ·rename_i hlt
   exact ⟨hs.role,hs.lead,hs.pre,hs.time,fun _=>by show s.elapsed+1<s.timeout;exact Nat.lt_of_not_le hlt,fun h=>absurd h h4,hs.gr2,hs.gr3,fun h=>absurd h h4,hs.len⟩
 ·rw [if_neg h4]
  have h4:s.role=4:=by omega
  have hm0:0<c.most:=by have:=hc.most;have:=hc.least;omega
  have hb0:0<c.beat:=hc.beat.1
  split
  ·exact soft_follow hc _ _ hs.len
  ·by_cases he:c.most≤s.elapsed+1
   ·simp only [if_pos he]
    split
    ·exact ⟨hs.role,hs.lead,fun h=>absurd (show s.role=2∨s.role=3 from h) (by omega),hs.time,fun h=>absurd h4 h,fun _=>⟨hm0,hb0⟩,fun h=>absurd (show s.role=2 from h) (by omega),fun h=>absurd (show s.role=3 from h) (by omega),hs.last,hs.len⟩
    ·rename_i hb
     exact ⟨hs.role,hs.lead,fun h=>absurd (show s.role=2∨s.role=3 from h) (by omega),hs.time,fun h=>absurd h4 h,fun _=>⟨hm0,Nat.lt_of_not_le hb⟩,fun h=>absurd (show s.role=2 from h) (by omega),fun h=>absurd (show s.role=3 from h) (by omega),hs.last,hs.len⟩
   ·simp only [if_neg he]
    split
    ·exact ⟨hs.role,hs.lead,fun h=>absurd (show s.role=2∨s.role=3 from h) (by omega),hs.time,fun h=>absurd h4 h,fun _=>⟨Nat.lt_of_not_le he,hb0⟩,fun h=>absurd (show s.role=2 from h) (by omega),fun h=>absurd (show s.role=3 from h) (by omega),hs.last,hs.len⟩
    ·rename_i hb
     exact ⟨hs.role,hs.lead,fun h=>absurd (show s.role=2∨s.role=3 from h) (by omega),hs.time,fun h=>absurd h4 h,fun _=>⟨Nat.lt_of_not_le he,Nat.lt_of_not_le hb⟩,fun h=>absurd (show s.role=2 from h) (by omega),fun h=>absurd (show s.role=3 from h) (by omega),hs.last,hs.len⟩
theorem soft_propose (hs:Soft c s) {l:List (List Int)} (hne:l≠[]) (hl:s.fin+l.length<65536):Soft c (propose c l s).1:=by
 unfold propose
 simp only
 refine ⟨hs.role,hs.lead,hs.pre,hs.time,hs.el,hs.el4,hs.gr2,hs.gr3,fun _=>?_,?_⟩
 ·exact last_append s.log (l.map fun b=>(⟨s.term,b⟩:Ent)) s.term (fun e he=>by obtain ⟨b,_,rfl⟩:=List.mem_map.1 he;rfl) (by simpa using hne)
 ·show (s.log++l.map fun b=>(⟨s.term,b⟩:Ent)).length<65536
  rw [List.length_append,List.length_map];exact hl
theorem merge_len (es:List Ent):∀ (log:List Ent) (j:Nat),(merge log j es).1.length≤max log.length (j+es.length):=by
 induction es with
 | nil=>intro log j;exact Nat.le_max_left ..
 | cons e es ih =>
  intro log j
  unfold merge
  split
  ·have:=ih log (j+1)
   rw [List.length_cons];omega
  ·simp only
   rw [List.length_append,List.length_take,List.length_take,List.length_cons]
   omega
theorem soft_kinds (hc:CfgOK c) (hs:Soft c s) (hl:(s.role=2∨s.role=3)→s.fin+1<65536) (hm:m.kind=5→m.idx+m.es.length<65536):Soft c (kinds c draw m s).1:=by
 have hr:=rnd_le hc draw
 have h0:0<rnd c draw:=by have:=hc.least;omega
 unfold kinds
 split
 ·unfold preVote;split <;> exact hs
 ·unfold preReply
  split
  ·exact hs
  ·rename_i hne
   have h2:s.role=2:=Classical.byContradiction fun h=>hne (.inl h)
   simp only
   split
   ·exact soft_stand hc (hl (.inl h2))
   ·rename_i h
    exact ⟨hs.role,hs.lead,hs.pre,hs.time,hs.el,hs.el4,fun _=>⟨nodup_put (hs.gr2 h2).1 _,h⟩,fun h=>absurd (show s.role=3 from h) (by omega),hs.last,hs.len⟩
 ·unfold vote
  split
  ·exact ⟨hs.role,hs.lead,hs.pre,hr,fun _=>h0,fun h4=>⟨by show 0<c.most;have:=hc.most;have:=hc.least;omega,(hs.el4 h4).2⟩,hs.gr2,hs.gr3,hs.last,hs.len⟩
  ·exact hs
 ·unfold voteReply
  split
  ·exact hs
  ·rename_i hne
   have h3:s.role=3:=Classical.byContradiction hne
   split
   ·simp only
    split
    ·exact soft_lead hc hs.time (hl (.inr h3))
    ·rename_i h
     exact ⟨hs.role,hs.lead,hs.pre,hs.time,hs.el,hs.el4,fun h=>absurd (show s.role=2 from h) (by omega),fun _=>h,hs.last,hs.len⟩
   ·simp only
    have:Soft c (if m.src∈s.gr then s else { s with rf:=put s.rf m.src }):=by
     split
     ·exact hs
     ·exact ⟨hs.role,hs.lead,hs.pre,hs.time,hs.el,hs.el4,hs.gr2,hs.gr3,hs.last,hs.len⟩
    generalize (if m.src∈s.gr then s else { s with rf:=put s.rf m.src })=s1 at this ⊢
    split
    ·exact soft_follow hc _ _ this.len
    ·exact this
 ·rename_i hk
  have hf:=soft_follow (draw:=draw) hc m.term m.src hs.len
  unfold append
  simp only
  split
  ·exact hf
  ·split
   ·exact hf
   ·split
    ·exact hf
    ·refine ⟨hf.role,hf.lead,hf.pre,hf.time,hf.el,hf.el4,hf.gr2,hf.gr3,fun h=>absurd (show (1:Nat)=4 from h) (by omega),?_⟩
     have:=merge_len m.es (follow c draw m.term m.src s).log m.idx
     have h1:=hs.len
     have h2:=hm hk
     show (merge (follow c draw m.term m.src s).log m.idx m.es).1.length<65536
     have h3:(follow c draw m.term m.src s).log.length=s.fin:=rfl
     omega
 ·unfold appendReply
  split
  ·exact hs
  ·rename_i hne
   have h4:s.role=4:=Classical.byContradiction hne
   have k:∀ s1:Nd,s1.id=s.id→s1.role=s.role→s1.leader=s.leader→s1.timeout=s.timeout→s1.elapsed=s.elapsed→s1.beat=s.beat→s1.term=s.term→s1.log=s.log→Soft c s1:=fun s1 a b d e f x y z =>
    ⟨by rw [b];exact hs.role,by rw [b,d,a];exact hs.lead,by rw [b,d];exact hs.pre,by rw [e];exact hs.time,by rw [b,e,f];exact hs.el,by rw [b,f,x];exact hs.el4,fun h=>absurd h (by omega),fun h=>absurd h (by omega),by rw [b,y];unfold Nd.tm Nd.fin;rw [z];exact hs.last,by unfold Nd.fin;rw [z];exact hs.len⟩
   simp only
   split
   ·split <;> exact k _ rfl rfl rfl rfl rfl rfl rfl rfl
   ·split
    ·split
     ·exact k _ rfl rfl rfl rfl rfl rfl rfl rfl
     ·split <;> exact k _ rfl rfl rfl rfl rfl rfl rfl rfl
    ·exact k _ rfl rfl rfl rfl rfl rfl rfl rfl
 ·exact hs
theorem soft_message (hc:CfgOK c) (hs:Soft c s) (hl:(s.role=2∨s.role=3)→s.fin+1<65536) (hm:m.kind=5→m.idx+m.es.length<65536):Soft c (message c draw m s).1:=by
 unfold message
 split
 ·exact hs
 ·split
  ·exact soft_kinds hc (soft_follow hc _ _ hs.len) (fun h=>absurd (show (1:Nat)=2∨(1:Nat)=3 from h) (by omega)) hm
  ·split
   ·exact hs
   ·exact soft_kinds hc hs hl hm
theorem preVote_fst:(preVote m s).1=s:=by unfold preVote;split <;> rfl
theorem kinds_time (h:(kinds c draw m s).1.role≠4):((kinds c draw m s).1.elapsed=0∧(kinds c draw m s).1.timeout=rnd c draw)∨((kinds c draw m s).1.elapsed=s.elapsed∧(kinds c draw m s).1.timeout=s.timeout∧s.role≠4):=by
 unfold kinds at h ⊢
 split at h
 ·rw [preVote_fst] at h ⊢;exact .inr ⟨rfl,rfl,h⟩
 ·unfold preReply at h ⊢
  split at h
  ·rename_i h1;rw [if_pos h1];exact .inr ⟨rfl,rfl,h⟩
  ·rename_i h1
   rw [if_neg h1]
   simp only at h ⊢
   split at h
   ·rename_i h2
    rw [if_pos h2]
    unfold stand at h ⊢
    simp only at h ⊢
    split at h
    ·exact absurd lead_role h
    ·rename_i h3;rw [if_neg h3];exact .inl ⟨rfl,rfl⟩
   ·rename_i h2;rw [if_neg h2];exact .inr ⟨rfl,rfl,h⟩
 ·unfold vote at h ⊢
  split at h
  ·rename_i h1;rw [if_pos h1];exact .inl ⟨rfl,rfl⟩
  ·rename_i h1;rw [if_neg h1];exact .inr ⟨rfl,rfl,h⟩
 ·unfold voteReply at h ⊢
  split at h
  ·rename_i h1;rw [if_pos h1];exact .inr ⟨rfl,rfl,h⟩
  ·rename_i h1
   rw [if_neg h1]
   split at h
   ·rename_i h2
    rw [if_pos h2]
    simp only at h ⊢
    split at h
    ·exact absurd lead_role h
    ·rename_i h3;rw [if_neg h3];exact .inr ⟨rfl,rfl,h⟩
   ·rename_i h2
    rw [if_neg h2]
    simp only at h ⊢
    have h3:s.role≠4:=by omega
    have h4:(if m.src∈s.gr then s else { s with rf:=put s.rf m.src }).elapsed=s.elapsed∧(if m.src∈s.gr then s else { s with rf:=put s.rf m.src }).timeout=s.timeout:=by split <;> exact ⟨rfl,rfl⟩
    generalize (if m.src∈s.gr then s else { s with rf:=put s.rf m.src })=s1 at h h4 ⊢
    split at h
    ·rename_i h5;rw [if_pos h5];exact .inl ⟨rfl,rfl⟩
    ·rename_i h5;rw [if_neg h5];exact .inr ⟨h4.1,h4.2,h3⟩
 ·left
  unfold append
  simp only
  split
  ·exact ⟨rfl,rfl⟩
  ·split
   ·exact ⟨rfl,rfl⟩
   ·split <;> exact ⟨rfl,rfl⟩
 ·unfold appendReply at h ⊢
  split at h
  ·rename_i h1;rw [if_pos h1];exact .inr ⟨rfl,rfl,h⟩
  ·rename_i h1
   have h4:s.role=4:=by omega
   exfalso
   apply h
   rcases kinds_tr (c:=c) (draw:=draw) (m:=m) (s:=s) (by omega) with x | x | x
   ·simp only
    split
    ·split <;> exact h4
    ·split
     ·split
      ·exact h4
      ·split <;> exact h4
     ·exact h4
   ·omega
   ·simp only
    split
    ·split <;> exact h4
    ·split
     ·split
      ·exact h4
      ·split <;> exact h4
     ·exact h4
 ·exact .inr ⟨rfl,rfl,h⟩
theorem message_time (h:(message c draw m s).1.role≠4):((message c draw m s).1.elapsed=0∧(message c draw m s).1.timeout=rnd c draw)∨((message c draw m s).1.elapsed=s.elapsed∧(message c draw m s).1.timeout=s.timeout∧s.role≠4):=by
 unfold message at h ⊢
 split at h
 ·rename_i h1;rw [if_pos h1];exact .inr ⟨rfl,rfl,h⟩
 ·rename_i h1
  rw [if_neg h1]
  split at h
  ·rename_i h2
   rw [if_pos h2]
   rcases kinds_time h with x | ⟨x,y,_⟩
   ·exact .inl x
   ·exact .inl ⟨x,y⟩
  ·rename_i h2
   rw [if_neg h2]
   split at h
   ·rename_i h3;rw [if_pos h3];exact .inr ⟨rfl,rfl,h⟩
   ·rename_i h3;rw [if_neg h3];exact kinds_time h
end
end Go.Proofs.YtocogcgnahbpkaaGreat.Rf
