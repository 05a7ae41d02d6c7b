import Derived.Test.YtocogcgnahbpkaaGreatC4
namespace Go.Proofs.YtocogcgnahbpkaaGreat.Rf
section
variable {n:Nat} {nd:Nat→Nd} {g g' g0:Gh} {net net' r:List Msg} {i:Nat} {s s':Nd} {ms ms':List Msg} {c:Cfg} {draw:Int} {m x:Msg}
theorem lead_id:(lead c s).1.id=s.id:=by
 unfold lead
 simp only
 split <;> rfl
theorem mem_apps (h:x∈apps c s):x.kind=5∧∃ p,p∈others c s.id∧x=app c s p:=by
 obtain ⟨p,hp,rfl⟩:=List.mem_map.1 h
 exact ⟨rfl,p,hp,rfl⟩
structure Out (c:Cfg) (m:Msg) (s s':Nd) (x:Msg):Prop where
 src:x.src=s.id
 kinds:(m.kind=1∧x.kind=2∧x.dst=m.src)∨(m.kind=3∧x.kind=4∧x.dst=m.src)∨(m.kind=5∧x.kind=6∧x.dst=m.src)
  ∨(m.kind=2∧x.kind=3∧x.term=s.term+1∧s'.role=3)∨(x.kind=5∧(m.kind=4∨m.kind=6∨(m.kind=2∧maj c 1=true))∧s'.role=4∧∃ p,x=app c s' p)
theorem out_kinds (hx:x∈(kinds c draw m s).2):Out c m s (kinds c draw m s).1 x:=by
 unfold kinds at hx ⊢
 split at hx
 ·rename_i hk
  unfold preVote at hx
  split at hx
  ·obtain rfl:=List.mem_singleton.1 hx;exact ⟨rfl,.inl ⟨hk,rfl,rfl⟩⟩
  ·obtain rfl:=List.mem_singleton.1 hx;exact ⟨rfl,.inl ⟨hk,rfl,rfl⟩⟩
 ·rename_i hk
  unfold preReply at hx ⊢
  split at hx
  ·exact absurd hx (by simp)
  ·rename_i h1
   rw [if_neg h1]
   simp only at hx ⊢
   split at hx
   ·rename_i h2
    rw [if_pos h2]
    unfold stand at hx ⊢
    simp only at hx ⊢
    split at hx
    ·rename_i h3
     rw [if_pos h3]
     obtain ⟨a,p,_,b⟩:=mem_apps hx
     refine ⟨by rw [b];exact lead_id (c:=c),.inr (.inr (.inr (.inr ⟨a,.inr (.inr ⟨hk,h3⟩),lead_role,p,b⟩)))⟩
    ·rename_i h3
     rw [if_neg h3]
     obtain ⟨p,_,rfl⟩:=List.mem_map.1 hx
     exact ⟨rfl,.inr (.inr (.inr (.inl ⟨hk,rfl,rfl,rfl⟩)))⟩
   ·exact absurd hx (by simp)
 ·rename_i hk
  unfold vote at hx
  split at hx
  ·obtain rfl:=List.mem_singleton.1 hx;exact ⟨rfl,.inr (.inl ⟨hk,rfl,rfl⟩)⟩
  ·obtain rfl:=List.mem_singleton.1 hx;exact ⟨rfl,.inr (.inl ⟨hk,rfl,rfl⟩)⟩
 ·rename_i hk
  unfold voteReply at hx ⊢
  split at hx
  ·exact absurd hx (by simp)
  ·rename_i h1
   rw [if_neg h1]
   split at hx
   ·rename_i h2
    rw [if_pos h2]
    simp only at hx ⊢
    split at hx
    ·rename_i h3
     rw [if_pos h3]
     obtain ⟨a,p,_,b⟩:=mem_apps hx
     exact ⟨by rw [b];exact lead_id (c:=c),.inr (.inr (.inr (.inr ⟨a,.inl hk,lead_role,p,b⟩)))⟩
    ·exact absurd hx (by simp)
   ·simp only at hx
    generalize (if m.src∈s.gr then s else { s with rf:=put s.rf m.src })=s1 at hx
    split at hx <;> exact absurd hx (by simp)
 ·rename_i hk
  unfold append at hx
  simp only at hx
  split at hx
  ·obtain rfl:=List.mem_singleton.1 hx;exact ⟨rfl,.inr (.inr (.inl ⟨hk,rfl,rfl⟩))⟩
  ·split at hx
   ·obtain rfl:=List.mem_singleton.1 hx;exact ⟨rfl,.inr (.inr (.inl ⟨hk,rfl,rfl⟩))⟩
   ·split at hx
    ·obtain rfl:=List.mem_singleton.1 hx;exact ⟨rfl,.inr (.inr (.inl ⟨hk,rfl,rfl⟩))⟩
    ·obtain rfl:=List.mem_singleton.1 hx;exact ⟨rfl,.inr (.inr (.inl ⟨hk,rfl,rfl⟩))⟩
 ·rename_i hk
  unfold appendReply at hx ⊢
  split at hx
  ·exact absurd hx (by simp)
  ·rename_i h1
   have h4:s.role=4:=Classical.byContradiction h1
   rw [if_neg h1]
   simp only at hx ⊢
   split at hx
   ·rename_i h2
    rw [if_pos h2]
    split at hx
    ·rename_i h3
     rw [if_pos h3]
     obtain rfl:=List.mem_singleton.1 hx
     exact ⟨rfl,.inr (.inr (.inr (.inr ⟨rfl,.inr (.inl hk),h4,_,rfl⟩)))⟩
    ·exact absurd hx (by simp)
   ·rename_i h2
    rw [if_neg h2]
    split at hx
    ·rename_i h3
     rw [if_pos h3]
     split at hx
     ·rename_i h5
      rw [if_pos h5]
      obtain ⟨a,p,_,b⟩:=mem_apps hx
      exact ⟨by rw [b];rfl,.inr (.inr (.inr (.inr ⟨a,.inr (.inl hk),h4,p,b⟩)))⟩
     ·rename_i h5
      rw [if_neg h5]
      split at hx
      ·rename_i h6
       rw [if_pos h6]
       obtain rfl:=List.mem_singleton.1 hx
       exact ⟨rfl,.inr (.inr (.inr (.inr ⟨rfl,.inr (.inl hk),h4,_,rfl⟩)))⟩
      ·exact absurd hx (by simp)
    ·exact absurd hx (by simp)
 ·exact absurd hx (by simp)
theorem out_message (hx:x∈(message c draw m s).2):Out c m s (message c draw m s).1 x:=by
 unfold message at hx ⊢
 split at hx
 ·exact absurd hx (by simp)
 ·rename_i h1
  rw [if_neg h1]
  split at hx
  ·rename_i h2
   rw [if_pos h2]
   have:=out_kinds hx
   refine ⟨this.src,?_⟩
   rcases this.kinds with a | a | a | a | a
   ·exact .inl a
   ·exact .inr (.inl a)
   ·exact .inr (.inr (.inl a))
   ·
    exfalso
    have h3:=kinds_tr (c:=c) (draw:=draw) (m:=m) (s:=follow c draw m.term (if m.kind=5 then m.src else 0) s) (by show 1≤1∧1≤4;omega)
    rcases h3 with y | y | y
    ·omega
    ·exact y.1 rfl
    ·exact absurd (show (1:Nat)=4 from y.1) (by omega)
   ·exact .inr (.inr (.inr (.inr a)))
  ·rename_i h2
   rw [if_neg h2]
   split at hx
   ·rename_i h3
    rw [if_pos h3]
    unfold old at hx
    split at hx
    ·obtain rfl:=List.mem_singleton.1 hx;exact ⟨rfl,.inr (.inr (.inl ⟨by assumption,rfl,rfl⟩))⟩
    ·split at hx
     ·obtain rfl:=List.mem_singleton.1 hx;exact ⟨rfl,.inl ⟨by assumption,rfl,rfl⟩⟩
     ·split at hx
      ·obtain rfl:=List.mem_singleton.1 hx;exact ⟨rfl,.inr (.inl ⟨by assumption,rfl,rfl⟩)⟩
      ·exact absurd hx (by simp)
   ·rename_i h3
    rw [if_neg h3];exact out_kinds hx
def lw (s:Nd):Nat:=if s.role=2∨s.role=3 then 1 else 0
def pw (s:Nd):Nat:=if s.role=2 then 1 else 0
def cnt (c:Cfg) (f:Nd→Nat) (nd:Nat→Nd):Nat:=((List.range' 1 c.n).map fun i=>f (nd i)).sum
structure Bnd (c:Cfg) (K:Nat) (nd:Nat→Nd) (net:List Msg):Prop where
 fin:∀ i,(nd i).fin+cnt c lw nd≤K
 term:∀ i,(nd i).term+cnt c pw nd≤K
 net:∀ m∈net,m.kind=5→m.idx+m.es.length+cnt c lw nd≤K
theorem kinds_fin:(kinds c draw m s).1.fin+lw (kinds c draw m s).1≤s.fin+lw s∨(m.kind=5∧(kinds c draw m s).1.fin≤m.idx+m.es.length∧(kinds c draw m s).1.role=1):=by
 have hlead:∀ s1:Nd,(lead c s1).1.fin≤s1.fin+1:=fun s1=>by
  unfold lead
  simp only
  split
  ·show (s1.log++[_]).length≤s1.log.length+1
   rw [List.length_append];exact Nat.le_refl _
  ·exact Nat.le_succ _
 have hstand:∀ s1:Nd,s1.role=2→(stand c draw s1).1.fin+lw (stand c draw s1).1≤s1.fin+1:=fun s1 h2=>by
  unfold stand
  simp only
  split
  ·have:=hlead (rest c draw { s1 with term:=s1.term+1,vote:=s1.id,role:=3,leader:=0,gr:=[s1.id],rf:=[] })
   unfold lw
   rw [if_neg (by rw [lead_role];omega)]
   exact this
  ·exact Nat.le_refl _
 unfold kinds
 split
 ·rw [preVote_fst];exact .inl (Nat.le_refl _)
 ·unfold preReply
  split
  ·exact .inl (Nat.le_refl _)
  ·rename_i hne
   have h2:s.role=2:=Classical.byContradiction fun h=>hne (.inl h)
   simp only
   split
   ·left
    have:lw s=1:=by unfold lw;rw [if_pos (.inl h2)]
    rw [this]
    exact hstand { s with gr:=put s.gr m.src } h2
   ·exact .inl (Nat.le_refl _)
 ·unfold vote;split <;> exact .inl (Nat.le_refl _)
 ·unfold voteReply
  split
  ·exact .inl (Nat.le_refl _)
  ·rename_i hne
   have h3:s.role=3:=Classical.byContradiction hne
   have h1:lw s=1:=by unfold lw;rw [if_pos (.inr h3)]
   split
   ·simp only
    split
    ·left
     have:=hlead { s with rf:=s.rf.filter (·≠m.src),gr:=put s.gr m.src }
     have h0:lw (lead c { s with rf:=s.rf.filter (·≠m.src),gr:=put s.gr m.src }).1=0:=by unfold lw;rw [if_neg (by rw [lead_role];omega)]
     rw [h0,h1]
     exact this
    ·exact .inl (Nat.le_refl _)
   ·simp only
    have:(if m.src∈s.gr then s else { s with rf:=put s.rf m.src }).fin=s.fin∧lw (if m.src∈s.gr then s else { s with rf:=put s.rf m.src })=lw s:=by split <;> exact ⟨rfl,rfl⟩
    generalize (if m.src∈s.gr then s else { s with rf:=put s.rf m.src })=s1 at this ⊢
    split
    ·left
     have h0:lw (follow c draw s1.term 0 s1)=0:=rfl
     show s1.fin+lw (follow c draw s1.term 0 s1)≤_
     rw [h0];omega
    ·left;rw [this.1,this.2];exact Nat.le_refl _
 ·rename_i hk
  have hr:=(append_leader (c:=c) (draw:=draw) (m:=m) (s:=s)).2
  have h0:lw (append c draw m s).1=0:=by unfold lw;rw [if_neg (by omega)]
  by_cases hf:(append c draw m s).1.fin≤m.idx+m.es.length
  ·exact .inr ⟨hk,hf,hr⟩
  ·left
   rw [h0]
   have:(append c draw m s).1.fin≤max s.fin (m.idx+m.es.length):=by
    unfold append
    simp only
    split
    ·exact Nat.le_max_left ..
    ·split
     ·exact Nat.le_max_left ..
     ·split
      ·exact Nat.le_max_left ..
      ·exact merge_len m.es _ m.idx
   omega
 ·unfold appendReply
  split
  ·exact .inl (Nat.le_refl _)
  ·simp only
   split
   ·split <;> exact .inl (Nat.le_refl _)
   ·split
    ·split
     ·exact .inl (Nat.le_refl _)
     ·split <;> exact .inl (Nat.le_refl _)
    ·exact .inl (Nat.le_refl _)
 ·exact .inl (Nat.le_refl _)
theorem message_fin:(message c draw m s).1.fin+lw (message c draw m s).1≤s.fin+lw s∨(m.kind=5∧(message c draw m s).1.fin≤m.idx+m.es.length∧(message c draw m s).1.role=1):=by
 unfold message
 split
 ·exact .inl (Nat.le_refl _)
 ·split
  ·rcases kinds_fin (c:=c) (draw:=draw) (m:=m) (s:=follow c draw m.term (if m.kind=5 then m.src else 0) s) with h | h
   ·left
    have h0:lw (follow c draw m.term (if m.kind=5 then m.src else 0) s)=0:=rfl
    have h1:(follow c draw m.term (if m.kind=5 then m.src else 0) s).fin=s.fin:=rfl
    omega
   ·exact .inr h
  ·split
   ·exact .inl (Nat.le_refl _)
   ·exact kinds_fin
theorem tr_lw (h:Tr s s') (hs:1≤s.role∧s.role≤4):lw s'≤lw s:=by
 unfold lw
 rcases h with h | h | h
 ·rw [if_neg (by omega)];exact Nat.zero_le _
 ·rw [if_pos (c:=s.role=2∨s.role=3) (by omega)]
  split <;> omega
 ·rw [if_neg (by omega)];exact Nat.zero_le _
theorem stand_role':(stand c draw s).1.role=3∨(stand c draw s).1.role=4:=by
 unfold stand
 simp only
 split
 ·exact .inr lead_role
 ·exact .inl rfl
theorem message_pw:pw (message c draw m s).1≤pw s∧((message c draw m s).1.term+pw (message c draw m s).1≤s.term+pw s∨(message c draw m s).1.term=m.term∧pw (message c draw m s).1=0∧(3≤m.kind∨(m.kind=2∧m.rej=true)∨m.kind=0)):=by
 have hk:∀ s1:Nd,s1.role≠2→(kinds c draw m s1).1.role≠2:=fun s1 h1=>by
  unfold kinds
  split
  ·rw [preVote_fst];exact h1
  ·unfold preReply
   rw [if_pos (.inl h1)];exact h1
  ·unfold vote;split <;> exact h1
  ·unfold voteReply
   split
   ·exact h1
   ·split
    ·simp only
     split
     ·rw [lead_role];omega
     ·exact h1
    ·simp only
     have:(if m.src∈s1.gr then s1 else { s1 with rf:=put s1.rf m.src }).role≠2:=by split <;> exact h1
     generalize (if m.src∈s1.gr then s1 else { s1 with rf:=put s1.rf m.src })=s2 at this ⊢
     split
     ·show (1:Nat)≠2;omega
     ·exact this
  ·rw [append_leader.2];omega
  ·unfold appendReply
   split
   ·exact h1
   ·simp only
    split
    ·split <;> exact h1
    ·split
     ·split
      ·exact h1
      ·split <;> exact h1
     ·exact h1
  ·exact h1
 have hm:s.role≠2→(message c draw m s).1.role≠2:=fun h1=>by
  unfold message
  split
  ·exact h1
  ·split
   ·exact hk _ (by show (1:Nat)≠2;omega)
   ·split
    ·exact h1
    ·exact hk _ h1
 have h1:pw (message c draw m s).1≤pw s:=by
  unfold pw
  by_cases h:s.role=2
  ·rw [if_pos h];split <;> omega
  ·rw [if_neg (hm h)];exact Nat.zero_le _
 refine ⟨h1,?_⟩
 rcases message_term (c:=c) (draw:=draw) (m:=m) (s:=s) with h | ⟨h,h',h''⟩ | ⟨h,h2,h3,h4,h'⟩
 ·left;omega
 ·right
  refine ⟨h',?_,h''⟩
  unfold message at h' ⊢
  split at h'
  ·exact absurd h' (by show ¬ s.term=m.term;omega)
  ·rename_i h5
   rw [if_neg h5]
   split at h'
   ·rename_i h6
    rw [if_pos h6]
    unfold pw
    rw [if_neg (hk _ (by show (1:Nat)≠2;omega))]
   ·rename_i h6
    split at h'
    ·exact absurd h' (by show ¬ s.term=m.term;omega)
    ·exfalso
     rcases h'' with y | y | y
     ·exact h6 ⟨h,by omega,.inl (by omega)⟩
     ·exact h6 ⟨h,by omega,.inr y.2⟩
     ·exact h6 ⟨h,by omega,.inl (by omega)⟩
 ·left
  have h5:pw s=1:=by unfold pw;rw [if_pos h]
  have h6:pw (message c draw m s).1=0:=by
   unfold message at h' ⊢
   split at h'
   ·exact absurd h' (by show ¬ s.term=s.term+1;omega)
   ·rename_i h7
    rw [if_neg h7]
    split at h'
    ·rename_i h8
     rw [h3] at h8;rcases h8.2.2 with y | y
     ·exact absurd h2 y
     ·exact absurd y (by simp)
    ·rename_i h8
     rw [if_neg h8]
     split at h'
     ·exact absurd h' (by show ¬ s.term=s.term+1;omega)
     ·rename_i h9
      rw [if_neg h9]
      unfold kinds at h' ⊢
      simp only [h2] at h' ⊢
      unfold preReply at h' ⊢
      split at h'
      ·exact absurd h' (by show ¬ s.term=s.term+1;omega)
      ·rename_i h10
       rw [if_neg h10]
       simp only at h' ⊢
       split at h'
       ·rename_i h11
        rw [if_pos h11]
        unfold pw
        rw [if_neg]
        have:=stand_role' (c:=c) (draw:=draw) (s:={ s with gr:=put s.gr m.src })
        omega
       ·exact absurd h' (by show ¬ s.term=s.term+1;omega)
  omega
theorem cnt_turn {f:Nd→Nat} (hi:1≤i∧i≤c.n):cnt c f (setN nd i s)+f (nd i)=cnt c f nd+f s:=by
 have:=sum_turn (l:=List.range' 1 c.n) (f:=fun j=>f (nd j)) (f':=fun j=>f (setN nd i s j)) (i:=i) (List.nodup_range' (step:=1) (by omega)) (List.mem_range'_1.2 (by omega)) fun x _ hx=>by rw [setN_ne _ _ hx]
 simp only [setN_at] at this
 exact this
theorem Bnd.deliver {K:Nat} (h:Bnd c K nd net) (hI:Inv c.n nd net g) (hm:m∈net) (hr:1≤(nd m.dst).role∧(nd m.dst).role≤4)
  (hI':Inv c.n (setN nd m.dst (message c draw m (nd m.dst)).1) net' g') (hnet:∀ x∈net',x∈net∨x∈(message c draw m (nd m.dst)).2):Bnd c K (setN nd m.dst (message c draw m (nd m.dst)).1) net':=by
 have hM:=(hI.msgs m hm).1
 have htO:=(hI.msgs m hm).2
 have hd:=hM.rng.2
 have hl:=cnt_turn (c:=c) (nd:=nd) (f:=lw) (s:=(message c draw m (nd m.dst)).1) hd
 have hp:=cnt_turn (c:=c) (nd:=nd) (f:=pw) (s:=(message c draw m (nd m.dst)).1) hd
 have h1:=tr_lw (message_tr (c:=c) (draw:=draw) (m:=m) hr) hr
 obtain ⟨h2,h3⟩:=message_pw (c:=c) (draw:=draw) (m:=m) (s:=nd m.dst)
 have hfin:∀ j,(setN nd m.dst (message c draw m (nd m.dst)).1 j).fin+cnt c lw (setN nd m.dst (message c draw m (nd m.dst)).1)≤K:=fun j=>by
  by_cases hj:j=m.dst
  ·subst hj
   rw [setN_at]
   rcases message_fin (c:=c) (draw:=draw) (m:=m) (s:=nd m.dst) with a | ⟨a,b,_⟩
   ·have:=h.fin m.dst;omega
   ·have:=h.net m hm a;omega
  ·rw [setN_ne _ _ hj];have:=h.fin j;omega
 refine ⟨hfin,fun j=>?_,fun x hx hk=>?_⟩
 ·by_cases hj:j=m.dst
  ·subst hj
   rw [setN_at]
   rcases h3 with a | ⟨a,b,d⟩
   ·have:=h.term m.dst;omega
   ·have hsrc:m.term≤(nd m.src).term:=by
     rcases d with z | ⟨z,z'⟩ | z
     ·exact htO.2.2 z
     ·exact htO.2.1 z z'
     ·have:=hM.form.kind;omega
    have:=h.term m.src
    omega
  ·rw [setN_ne _ _ hj];have:=h.term j;omega
 ·rcases hnet x hx with y | y
  ·have:=h.net x y hk;omega
  ·have ho:=out_message y
   have hxI:=(hI'.msgs x hx).1
   rcases ho.kinds with a | a | a | a | ⟨_,_,hr4,p,hxp⟩
   ·omega
   ·omega
   ·omega
   ·omega
   ·have h5:=hI'.nxt m.dst (by rw [setN_at];exact hr4)
    rw [setN_at] at h5
    have hid':=hI'.ids m.dst
    rw [setN_at] at hid'
    have hpne:p≠m.dst:=fun e=>hxI.form.ne (by rw [hxp];show (message c draw m (nd m.dst)).1.id=p;rw [hid',e])
    have h6:=h5 p hpne
    have h7:=hfin m.dst
    rw [setN_at] at h7
    have h8:x.idx+x.es.length≤(message c draw m (nd m.dst)).1.fin:=by
     rw [hxp]
     show (message c draw m (nd m.dst)).1.nx p-1+(((message c draw m (nd m.dst)).1.log.drop ((message c draw m (nd m.dst)).1.nx p-1)).take c.batch).length≤(message c draw m (nd m.dst)).1.log.length
     rw [List.length_take,List.length_drop]
     omega
    omega
end
structure Ok (c:Cfg) (K:Nat) (w:Wd) (g:Gh):Prop where
 inv:Inv c.n w.nd w.net g
 soft:∀ i,Soft c (w.nd i)
 bnd:Bnd c K w.nd w.net
 small:K<65536
section
variable {n:Nat} {nd nd0:Nat→Nd} {g g' g0:Gh} {net net' r:List Msg} {i:Nat} {s s':Nd} {ms ms':List Msg} {c:Cfg} {draw:Int} {d:Nat→Int} {m x:Msg} {K:Nat}
theorem sum_mem {f:Nat→Nat} {l:List Nat} {i:Nat} (h:i∈l):f i≤(l.map f).sum:=by
 induction l with
 | nil=>exact absurd h (by simp)
 | cons a l ih =>
  simp only [List.map_cons,List.sum_cons]
  rcases List.mem_cons.1 h with rfl | h
  ·omega
  ·have:=ih h;omega
theorem Ok.room {w:Wd} (h:Ok c K w g) (i:Nat) (hr:(w.nd i).role=2∨(w.nd i).role=3):(w.nd i).fin+1<65536:=by
 have h1:=h.bnd.fin i
 have h2:=h.inv.rng i (by omega)
 have h3:lw (w.nd i)≤cnt c lw w.nd:=sum_mem (f:=fun j=>lw (w.nd j)) (List.mem_range'_1.2 (by omega))
 have h4:lw (w.nd i)=1:=by unfold lw;rw [if_pos hr]
 have:=h.small
 omega
theorem Ok.arr {w:Wd} (h:Ok c K w g) (hc:CfgOK c) (d:Nat→Int) (hne:w.net≠[]):∃ g',Ok c K (w.arr c d) g'∧Ext w.nd (w.arr c d).nd g g'∧psi c g' (w.arr c d).nd (w.arr c d).net+1≤psi c g w.nd w.net:=by
 obtain ⟨nd,net⟩:=w
 match net,hne with
 | m :: r,_ =>
  obtain ⟨g',a,b⟩:=Inv.deliver (draw:=d m.dst) (net':=r++(message c (d m.dst) m (nd m.dst)).2) h.inv hc.batch.2 rfl (m:=m) (by simp) fun x hx=>by
   rcases List.mem_append.1 hx with h | h
   ·exact .inl (by simp [h])
   ·exact .inr h
  have hb:=h.bnd.deliver (draw:=d m.dst) h.inv (m:=m) (by simp) (h.soft m.dst).role a fun x hx=>by
   rcases List.mem_append.1 hx with h | h
   ·exact .inl (by simp [h])
   ·exact .inr h
  refine ⟨g',⟨a,fun j=>?_,hb,h.small⟩,b,psi_down h.inv rfl a b.ack (h.soft m.dst).role⟩
  show Soft c (setN nd m.dst (message c (d m.dst) m (nd m.dst)).1 j)
  by_cases hj:j=m.dst
  ·subst hj
   rw [setN_at]
   exact soft_message hc (h.soft _) (h.room _) fun hk=>by
    have h1:=h.bnd.net m (by simp) hk
    have:=h.small
    omega
  ·rw [setN_ne _ _ hj];exact h.soft j
theorem Ok.ends (hc:CfgOK c) (d:Nat→Int) (P:Gh→Wd→Prop) (hP:∀ w g g',Ok c K w g→P g w→w.net≠[]→Ok c K (w.arr c d) g'→Ext w.nd (w.arr c d).nd g g'→P g' (w.arr c d)):∀ k (w:Wd) (g:Gh),Ok c K w g→P g w→psi c g w.nd w.net≤k→∃ j g',j≤k∧(w.run c d j).net=[]∧(∀ j',j'<j→(w.run c d j').net≠[])∧Ok c K (w.run c d j) g'∧P g' (w.run c d j)∧Ext w.nd (w.run c d j).nd g g':=by
 intro k
 induction k with
 | zero =>
  intro w g h hp hk
  by_cases hne:w.net=[]
  ·exact ⟨0,g,Nat.le_refl _,hne,fun _ h=>absurd h (Nat.not_lt_zero _),h,hp,.refl fun _=>Nat.le_refl _⟩
  ·obtain ⟨g',_,_,x⟩:=h.arr hc d hne
   omega
 | succ k ih =>
  intro w g h hp hk
  by_cases hne:w.net=[]
  ·exact ⟨0,g,Nat.zero_le _,hne,fun _ h=>absurd h (Nat.not_lt_zero _),h,hp,.refl fun _=>Nat.le_refl _⟩
  ·obtain ⟨g',a,b,x⟩:=h.arr hc d hne
   obtain ⟨j,g2,e1,e2,e3,e4,e5,e6⟩:=ih (w.arr c d) g' a (hP w g g' h hp hne a b) (by omega)
   refine ⟨j+1,g2,by omega,e2,fun j' hj=>?_,e4,e5,b.trans e6⟩
   cases j' with
   | zero=>exact hne
   | succ j'=>exact e3 j' (by omega)
theorem Ok.phase (hc:CfgOK c) (d:Nat→Int) (P:Gh→(Nat→Nd)→List Msg→List Msg→Prop)
  (hP:∀ nd m r o g g',Ok c K ⟨nd,m :: r++o⟩ g→P g nd (m :: r) o→Ok c K ⟨setN nd m.dst (message c (d m.dst) m (nd m.dst)).1,r++(o++(message c (d m.dst) m (nd m.dst)).2)⟩ g'→Ext nd (setN nd m.dst (message c (d m.dst) m (nd m.dst)).1) g g'→P g' (setN nd m.dst (message c (d m.dst) m (nd m.dst)).1) r (o++(message c (d m.dst) m (nd m.dst)).2)) :
  ∀ l nd o g,Ok c K ⟨nd,l++o⟩ g→P g nd l o→∃ g' nd' o',Wd.run c d l.length ⟨nd,l++o⟩=⟨nd',o'⟩∧Ok c K ⟨nd',o'⟩ g'∧Ext nd nd' g g'∧P g' nd' [] o':=by
 intro l
 induction l with
 | nil=>intro nd o g h hp;exact ⟨g,nd,o,rfl,h,.refl fun _=>Nat.le_refl _,hp⟩
 | cons m r ih =>
  intro nd o g h hp
  obtain ⟨g',a,b,_⟩:=h.arr hc d (by simp)
  have e:(Wd.arr c d ⟨nd,m :: r++o⟩)=⟨setN nd m.dst (message c (d m.dst) m (nd m.dst)).1,r++(o++(message c (d m.dst) m (nd m.dst)).2)⟩:=by
   show (⟨_,(r++o)++_⟩:Wd)=_
   rw [List.append_assoc];rfl
  rw [e] at a b
  obtain ⟨g2,nd',o',h1,h2,h3,h4⟩:=ih _ _ g' a (hP nd m r o g g' h hp a b)
  refine ⟨g2,nd',o',?_,h2,b.trans h3,h4⟩
  show Wd.run c d r.length (Wd.arr c d ⟨nd,m :: r++o⟩)=_
  rw [e];exact h1
theorem upTo_refl (l:List Ent):upTo l l:=.inr ⟨rfl,Nat.le_refl _⟩
theorem upTo_trans {a b l:List Ent} (h1:upTo a b) (h2:upTo b l):upTo a l:=by
 unfold upTo at *;omega
theorem upTo_take (hT:∀ t k,tmL (g.llog t) k≤t) {a l:List Ent} (hA:Agree g l) (h:upTo a l) (k:Nat):upTo a (l.take k):=by
 rcases Nat.lt_or_ge k l.length with hk | hk
 ·have hl:(l.take k).length=k:=by rw [List.length_take];omega
  have h1:tmL (l.take k) k=tmL l k:=tmL_take l (Nat.le_refl _)
  have h2:=hA.mono hT (show k≤l.length by omega) (Nat.le_refl _)
  unfold upTo at *
  rw [hl,h1]
  rcases h with h | ⟨h,h'⟩
  ·left;omega
  ·rcases Nat.lt_or_ge (tmL l k) (tmL a a.length) with y | y
   ·exact .inl y
   ·right;omega
 ·rw [List.take_of_length_le hk];exact h
theorem kinds_log:(kinds c draw m s).1.log=s.log∨(m.kind=5∧m.idx≤s.fin∧s.tm m.idx=m.lt∧(kinds c draw m s).1.log=(merge s.log m.idx m.es).1)∨(s.role≠4∧(kinds c draw m s).1.role=4):=by
 unfold kinds
 split
 ·rw [preVote_fst];exact .inl rfl
 ·unfold preReply
  split
  ·exact .inl rfl
  ·rename_i hne
   have h2:s.role=2:=Classical.byContradiction fun h=>hne (.inl h)
   simp only
   split
   ·unfold stand
    simp only
    split
    ·exact .inr (.inr ⟨by omega,lead_role⟩)
    ·exact .inl rfl
   ·exact .inl rfl
 ·unfold vote;split <;> exact .inl rfl
 ·unfold voteReply
  split
  ·exact .inl rfl
  ·rename_i hne
   have h3:s.role=3:=Classical.byContradiction hne
   split
   ·simp only
    split
    ·exact .inr (.inr ⟨by omega,lead_role⟩)
    ·exact .inl rfl
   ·simp only
    have:(if m.src∈s.gr then s else { s with rf:=put s.rf m.src }).log=s.log:=by split <;> rfl
    generalize (if m.src∈s.gr then s else { s with rf:=put s.rf m.src })=s1 at this ⊢
    split
    ·exact .inl this
    ·exact .inl this
 ·rename_i hk
  unfold append
  simp only
  split
  ·exact .inl rfl
  ·split
   ·exact .inl rfl
   ·split
    ·exact .inl rfl
    ·rename_i h1 h2 h3
     exact .inr (.inl ⟨hk,Nat.le_of_not_lt h2,Classical.byContradiction h3,rfl⟩)
 ·unfold appendReply
  split
  ·exact .inl rfl
  ·simp only
   split
   ·split <;> exact .inl rfl
   ·split
    ·split
     ·exact .inl rfl
     ·split <;> exact .inl rfl
    ·exact .inl rfl
 ·exact .inl rfl
theorem message_log:(message c draw m s).1.log=s.log∨(m.kind=5∧s.term≤m.term∧m.idx≤s.fin∧s.tm m.idx=m.lt∧(message c draw m s).1.log=(merge s.log m.idx m.es).1)∨(s.role≠4∧(message c draw m s).1.role=4):=by
 unfold message
 split
 ·exact .inl rfl
 ·split
  ·rename_i h1 h2
   rcases kinds_log (c:=c) (draw:=draw) (m:=m) (s:=follow c draw m.term (if m.kind=5 then m.src else 0) s) with h | ⟨a,h⟩ | ⟨a,h⟩
   ·exact .inl h
   ·exact .inr (.inl ⟨a,by omega,h⟩)
   ·exfalso
    rcases kinds_tr (c:=c) (draw:=draw) (m:=m) (s:=follow c draw m.term (if m.kind=5 then m.src else 0) s) (by show 1≤1∧1≤4;omega) with y | y | y
    ·omega
    ·exact y.1 rfl
    ·exact a y.1
  ·split
   ·exact .inl rfl
   ·rename_i h1 h2 h3
    rcases kinds_log (c:=c) (draw:=draw) (m:=m) (s:=s) with h | ⟨a,h⟩ | h
    ·exact .inl h
    ·exact .inr (.inl ⟨a,by omega,h⟩)
    ·exact .inr (.inr h)
def Roles (c:Cfg) (m:Msg) (s s':Nd):Prop :=
 s'.role=1∨(s'.role=s.role∧s'.term=s.term)∨(s.role=2∧m.kind=2∧s'.term=s.term+1∧(s'.role=3∨(s'.role=4∧maj c 1=true)))∨(s.role=3∧m.kind=4∧s'.role=4∧s'.term=s.term)
theorem kinds_roles:Roles c m s (kinds c draw m s).1:=by
 unfold kinds
 split
 ·rw [preVote_fst];exact .inr (.inl ⟨rfl,rfl⟩)
 ·rename_i hk
  unfold preReply
  split
  ·exact .inr (.inl ⟨rfl,rfl⟩)
  ·rename_i hne
   have h2:s.role=2:=Classical.byContradiction fun h=>hne (.inl h)
   simp only
   split
   ·refine .inr (.inr (.inl ⟨h2,hk,stand_term,?_⟩))
    unfold stand
    simp only
    split
    ·exact .inr ⟨lead_role,by assumption⟩
    ·exact .inl rfl
   ·exact .inr (.inl ⟨rfl,rfl⟩)
 ·unfold vote;split <;> exact .inr (.inl ⟨rfl,rfl⟩)
 ·rename_i hk
  unfold voteReply
  split
  ·exact .inr (.inl ⟨rfl,rfl⟩)
  ·rename_i hne
   have h3:s.role=3:=Classical.byContradiction hne
   split
   ·simp only
    split
    ·exact .inr (.inr (.inr ⟨h3,hk,lead_role,lead_term⟩))
    ·exact .inr (.inl ⟨rfl,rfl⟩)
   ·simp only
    have:(if m.src∈s.gr then s else { s with rf:=put s.rf m.src }).role=s.role∧(if m.src∈s.gr then s else { s with rf:=put s.rf m.src }).term=s.term:=by split <;> exact ⟨rfl,rfl⟩
    generalize (if m.src∈s.gr then s else { s with rf:=put s.rf m.src })=s1 at this ⊢
    split
    ·exact .inl rfl
    ·exact .inr (.inl this)
 ·exact .inl append_leader.2
 ·unfold appendReply
  split
  ·exact .inr (.inl ⟨rfl,rfl⟩)
  ·simp only
   split
   ·split <;> exact .inr (.inl ⟨rfl,rfl⟩)
   ·split
    ·split
     ·exact .inr (.inl ⟨rfl,rfl⟩)
     ·split <;> exact .inr (.inl ⟨rfl,rfl⟩)
    ·exact .inr (.inl ⟨rfl,rfl⟩)
 ·exact .inr (.inl ⟨rfl,rfl⟩)
theorem message_roles:Roles c m s (message c draw m s).1:=by
 unfold message
 split
 ·exact .inr (.inl ⟨rfl,rfl⟩)
 ·split
  ·have hr:(follow c draw m.term (if m.kind=5 then m.src else 0) s).role=1:=rfl
   rcases kinds_roles (c:=c) (draw:=draw) (m:=m) (s:=follow c draw m.term (if m.kind=5 then m.src else 0) s) with h | h | h | h
   ·exact .inl h
   ·exact .inl (by rw [h.1,hr])
   ·omega
   ·omega
  ·split
   ·exact .inr (.inl ⟨rfl,rfl⟩)
   ·exact kinds_roles
theorem merge_id (l:List Ent) (es:List Ent):∀ j,j+es.length≤l.length→es=(l.drop j).take es.length→(merge l j es).1=l:=by
 induction es with
 | nil=>intros;rfl
 | cons e es ih =>
  intro j h1 h2
  rw [List.length_cons] at h1
  have hj:j<l.length:=by omega
  have hd:l.drop j=l[j] :: l.drop (j+1):=(List.drop_eq_getElem_cons hj)
  have he:e=l[j]∧es=(l.drop (j+1)).take es.length:=by
   rw [hd,List.length_cons,List.take_succ_cons] at h2
   injection h2 with a b
   exact ⟨a,b⟩
  unfold merge
  rw [if_pos (by rw [List.getElem?_eq_getElem hj,he.1];rfl)]
  exact ih (j+1) (by omega) he.2
def bg (c:Cfg) (nd0:Nat→Nd) (p:Nat):Prop:=(1≤p∧p≤c.n)∧(nd0 p).role≠4∧(nd0 p).timeout≤(nd0 p).elapsed+1
def Slice (nd0:Nat→Nd) (m:Msg):Prop:=(nd0 m.src).role=4∧m.term=(nd0 m.src).term∧m.idx+m.es.length≤(nd0 m.src).log.length∧m.lt=tmL (nd0 m.src).log m.idx∧m.es=((nd0 m.src).log.drop m.idx).take m.es.length
structure Com (c:Cfg) (d:Nat→Int) (f:Nat) (nd0:Nat→Nd) (g0:Gh) (g:Gh) (nd:Nat→Nd) (net:List Msg):Prop where
 ext:Ext nd0 nd g0 g
 bgs:∀ p,bg c nd0 p→(nd p).role≠4∧((nd p).role=2→(nd p).term=(nd0 p).term)∧((nd p).role=3→(nd p).term=(nd0 p).term+1)
 led:∀ p,(nd p).role=4→(nd0 p).role=4∧(nd p).term=(nd0 p).term∧(nd p).log=(nd0 p).log
 best:(nd f).log=(nd0 f).log∧∀ p,upTo (nd0 f).log (nd p).log
 apps:∀ m∈net,m.kind=5→Slice nd0 m
 time:∀ p,1≤p→p≤c.n→(nd p).role≠4→((nd p).elapsed=0∧(nd p).timeout=rnd c (d p))∨((nd p).elapsed=(nd0 p).elapsed+1∧(nd p).timeout=(nd0 p).timeout∧(nd0 p).role≠4)
 beat:∀ p,1≤p→p≤c.n→(nd p).role=4→(tick c (d p) (nd0 p)).1.role=4∧(nd p).beat=(tick c (d p) (nd0 p)).1.beat
theorem message_beat (h4:s.role=4) (h:(message c draw m s).1.role=4):(message c draw m s).1.beat=s.beat:=by
 have key:∀ s1:Nd,s1.role=4→(kinds c draw m s1).1.beat=s1.beat∨(kinds c draw m s1).1.role=1:=fun s1 h4=>by
  unfold kinds
  split
  ·rw [preVote_fst];exact .inl rfl
  ·unfold preReply;rw [if_pos (by omega)];exact .inl rfl
  ·unfold vote;split <;> exact .inl rfl
  ·unfold voteReply;rw [if_pos (by omega)];exact .inl rfl
  ·exact .inr append_leader.2
  ·unfold appendReply
   split
   ·exact .inl rfl
   ·simp only
    split
    ·split <;> exact .inl rfl
    ·split
     ·split
      ·exact .inl rfl
      ·split <;> exact .inl rfl
     ·exact .inl rfl
  ·exact .inl rfl
 unfold message at h ⊢
 split at h
 ·rename_i h1;rw [if_pos h1]
 ·rename_i h1
  rw [if_neg h1]
  split at h
  ·exfalso
   rcases kinds_tr (c:=c) (draw:=draw) (m:=m) (s:=follow c draw m.term (if m.kind=5 then m.src else 0) s) (by show 1≤1∧1≤4;omega) with y | y | y
   ·omega
   ·exact y.1 rfl
   ·exact absurd (show (1:Nat)=4 from y.1) (by omega)
  ·rename_i h2
   rw [if_neg h2]
   split at h
   ·rename_i h3;rw [if_pos h3]
   ·rename_i h3
    rw [if_neg h3]
    rcases key s h4 with y | y
    ·exact y
    ·omega
theorem Com.step {f:Nat} {net0:List Msg} (h:Com c d f nd0 g0 g nd net) (hI0:Inv c.n nd0 net0 g0) (hb0:∀ p,upTo (nd0 f).log (nd0 p).log) (hl0:∀ p,(nd0 p).role=4→(nd0 p).tm (nd0 p).fin=(nd0 p).term) (hI:Inv c.n nd net g) (hm:m∈net) (hs:Soft c (nd m.dst))
  (hnet:∀ x∈net',x∈net∨x∈(message c (d m.dst) m (nd m.dst)).2) (hI':Inv c.n (setN nd m.dst (message c (d m.dst) m (nd m.dst)).1) net' g') (hE:Ext nd (setN nd m.dst (message c (d m.dst) m (nd m.dst)).1) g g')
  (hnl:(message c (d m.dst) m (nd m.dst)).1.role=4→(nd m.dst).role=4) :
  Com c d f nd0 g0 g' (setN nd m.dst (message c (d m.dst) m (nd m.dst)).1) net':=by
 have hM:=(hI.msgs m hm).1
 have htr:=message_tr (c:=c) (draw:=d m.dst) (m:=m) hs.role
 have hterm:=message_term (c:=c) (draw:=d m.dst) (m:=m) (s:=nd m.dst)
 have hlog:=message_log (c:=c) (draw:=d m.dst) (m:=m) (s:=nd m.dst)
 have hled:∀ p,(setN nd m.dst (message c (d m.dst) m (nd m.dst)).1 p).role=4→(nd0 p).role=4∧(setN nd m.dst (message c (d m.dst) m (nd m.dst)).1 p).term=(nd0 p).term∧(setN nd m.dst (message c (d m.dst) m (nd m.dst)).1 p).log=(nd0 p).log:=fun p=>by
  by_cases hp:p=m.dst
  ·subst hp
   rw [setN_at]
   intro hr
   have h4:=hnl hr
   obtain ⟨a,b,e⟩:=h.led _ h4
   refine ⟨a,?_,?_⟩
   ·rcases htr with y | y | y
    ·omega
    ·omega
    ·rw [y.2.2];exact b
   ·rcases hlog with y | ⟨y,z,_⟩ | y
    ·rw [y];exact e
    ·have:=message_append (c:=c) (draw:=d m.dst) y z
     omega
    ·omega
  ·rw [setN_ne _ _ hp];exact h.led p
 refine ⟨h.ext.trans hE,fun p hp=>?_,hled,⟨?_,fun p=>?_⟩,fun x hx hk=>?_,fun p h1 h2' hr=>?_,fun p h1 h2' hr=>?_⟩
 ·obtain ⟨a,b,e⟩:=h.bgs p hp
  by_cases hpd:p=m.dst
  ·subst hpd
   rw [setN_at]
   refine ⟨fun hr=>a (hnl hr),fun hr=>?_,fun hr=>?_⟩
   ·rcases message_roles (c:=c) (draw:=d m.dst) (m:=m) (s:=nd m.dst) with y | y | y | y
    ·omega
    ·rw [y.2];exact b (by rw [←y.1];exact hr)
    ·omega
    ·omega
   ·rcases message_roles (c:=c) (draw:=d m.dst) (m:=m) (s:=nd m.dst) with y | y | y | y
    ·omega
    ·rw [y.2];exact e (by rw [←y.1];exact hr)
    ·rw [y.2.2.1,b y.1]
    ·omega
  ·rw [setN_ne _ _ hpd];exact ⟨a,b,e⟩
 ·
  by_cases hpd:f=m.dst
  ·rw [←hpd,setN_at]
   rw [←hpd] at hlog hnl hterm
   rcases hlog with y | ⟨hk,ht,hidx,htm,y⟩ | y
   ·rw [y];exact h.best.1
   ·rw [y,h.best.1]
    obtain ⟨a1,a2,a3,a4,a5⟩:=h.apps m hm hk
    have hF:(nd0 f).log=(nd0 m.src).log:=by
     have hup:=hb0 m.src
     have hlast:tmL (nd0 m.src).log (nd0 m.src).log.length=(nd0 m.src).term:=hl0 _ a1
     have hft:tmL (nd0 f).log (nd0 f).log.length≤(nd0 m.src).term:=by
      have h1:=hI.logT f (nd f).log.length
      rw [h.best.1] at h1
      omega
     unfold upTo at hup
     rw [hlast] at hup
     have hT1:(nd0 m.src).term=tmL (nd0 f).log (nd0 f).log.length∧(nd0 m.src).log.length≤(nd0 f).log.length:=by omega
     obtain ⟨l1,l2,_⟩:=hI0.lead m.src a1
     have hne:1≤(nd0 f).log.length:=by
      refine Classical.byContradiction fun hn=>?_
      have h0:(nd0 f).log.length=0:=by omega
      have h00:=hT1.1
      rw [h0] at h00
      have:=hM.form.term
      have:tmL (nd0 f).log 0=0:=rfl
      omega
     obtain ⟨_,_,q3,q4⟩:=hI0.logA f (nd0 f).log.length hne (Nat.le_refl _)
     rw [←hT1.1,l2] at q3 q4
     rw [List.take_length] at q4
     rw [q4,List.take_of_length_le (by omega)]
    rw [hF]
    exact merge_id _ _ _ a3 a5
   ·exact absurd (hnl y.2) y.1
  ·rw [setN_ne _ _ hpd];exact h.best.1
 ·by_cases hpd:p=m.dst
  ·subst hpd
   rw [setN_at]
   rcases hlog with y | ⟨hk,ht,hidx,htm,y⟩ | y
   ·rw [y];exact h.best.2 _
   ·rw [y]
    obtain ⟨a1,a2,a3,a4,a5⟩:=h.apps m hm hk
    have hAL:Agree g (nd0 m.src).log:=h.ext.agree (hI0.logA _)
    have hA:=hI.logA m.dst
    have hpre:(nd m.dst).log.take m.idx=(nd0 m.src).log.take m.idx:=by
     rcases Nat.eq_zero_or_pos m.idx with h0 | h0
     ·rw [h0];simp
     ·exact hA.same hAL h0 hidx (by omega) (by show (nd m.dst).tm m.idx=_;rw [htm];exact a4)
    obtain ⟨_,_,_,_,z,_⟩:=merge_spec hA hAL m.es m.idx hidx a3 a5 hpre
    rcases z with z | ⟨z,_⟩
    ·rw [z];exact h.best.2 _
    ·rw [z];exact upTo_take hI.llT hAL (hb0 _) _
   ·exact absurd (hnl y.2) y.1
  ·rw [setN_ne _ _ hpd];exact h.best.2 p
 ·
  rcases hnet x hx with y | y
  ·exact h.apps x y hk
  ·have ho:=out_message y
   rcases ho.kinds with a | a | a | a | ⟨_,_,hr4,p,hxp⟩
   ·omega
   ·omega
   ·omega
   ·omega
   ·have hl:=hled m.dst (by rw [setN_at];exact hr4)
    rw [setN_at] at hl
    have hxI:=(hI'.msgs x hx).1
    have h5:=hI'.nxt m.dst (by rw [setN_at];exact hr4)
    rw [setN_at] at h5
    have hid':=hI'.ids m.dst
    rw [setN_at] at hid'
    have hpne:p≠m.dst:=fun e=>hxI.form.ne (by rw [hxp];show (message c (d m.dst) m (nd m.dst)).1.id=p;rw [hid',e])
    have h6:=h5 p hpne
    have hsrc:x.src=m.dst:=by rw [hxp];exact hid'
    unfold Slice
    rw [hsrc]
    refine ⟨hl.1,by rw [hxp,←hl.2.1];rfl,?_,?_,?_⟩
    ·rw [hxp,←hl.2.2]
     show (message c (d m.dst) m (nd m.dst)).1.nx p-1+(((message c (d m.dst) m (nd m.dst)).1.log.drop ((message c (d m.dst) m (nd m.dst)).1.nx p-1)).take c.batch).length≤_
     rw [List.length_take,List.length_drop]
     omega
    ·rw [hxp,←hl.2.2];rfl
    ·rw [hxp,←hl.2.2]
     show ((message c (d m.dst) m (nd m.dst)).1.log.drop ((message c (d m.dst) m (nd m.dst)).1.nx p-1)).take c.batch=((message c (d m.dst) m (nd m.dst)).1.log.drop ((message c (d m.dst) m (nd m.dst)).1.nx p-1)).take (((message c (d m.dst) m (nd m.dst)).1.log.drop ((message c (d m.dst) m (nd m.dst)).1.nx p-1)).take c.batch).length
     rw [List.length_take,←List.take_take,List.take_length]
 ·by_cases hpd:p=m.dst
  ·subst hpd
   rw [setN_at] at hr ⊢
   rcases message_time hr with y | ⟨y,z,w⟩
   ·exact .inl y
   ·rw [y,z];exact h.time _ h1 h2' w
  ·rw [setN_ne _ _ hpd] at hr ⊢;exact h.time p h1 h2' hr
 ·by_cases hpd:p=m.dst
  ·subst hpd
   rw [setN_at] at hr ⊢
   have h4:=hnl hr
   rw [message_beat h4 hr]
   exact h.beat _ h1 h2' h4
  ·rw [setN_ne _ _ hpd] at hr ⊢;exact h.beat p h1 h2' hr
end
end Go.Proofs.YtocogcgnahbpkaaGreat.Rf
