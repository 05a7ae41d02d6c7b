import Derived.Test.YtocogcgnahbpkaaGreatB10
namespace Go.Proofs.YtocogcgnahbpkaaGreat.Rf
def Small (n:Nat) (l:List Nat):Prop:=l.Nodup∧∀ q∈l,1≤q∧q≤n
theorem Small.nil {n:Nat}:Small n []:=⟨List.nodup_nil,fun q hq=>absurd hq (by simp)⟩
theorem Small.one {n q:Nat} (h:1≤q∧q≤n):Small n [q]:=⟨by simp,fun x hx=>by rw [List.mem_singleton] at hx;subst hx;exact h⟩
theorem Small.put {n q:Nat} {l:List Nat} (h:Small n l) (hq:1≤q∧q≤n):Small n (put l q):=by
 unfold Rf.put
 split
 ·exact h
 ·rename_i hn
  refine ⟨List.nodup_append.2 ⟨h.1,by simp,fun a ha b hb e=>?_⟩,fun x hx=>?_⟩
  ·rw [List.mem_singleton] at hb;subst hb;subst e;exact hn ha
  ·rcases List.mem_append.1 hx with hx | hx
   ·exact h.2 x hx
   ·rw [List.mem_singleton] at hx;subst hx;exact hq
theorem Small.filter {n:Nat} {l:List Nat} (h:Small n l) (P:Nat→Bool):Small n (l.filter P):=⟨h.1.filter _,fun q hq=>h.2 q (List.mem_filter.1 hq).1⟩
theorem Small.len {n:Nat} {l:List Nat} (h:Small n l):l.length≤n:=by
 have:=nodup_le (R:=List.range' 1 n) h.1 fun q hq=>List.mem_range'_1.2 (by have:=h.2 q hq;omega)
 rwa [List.length_range'] at this
structure Tame (c:Cfg) (s:Nd):Prop where
 beat:s.beat≤c.beat
 gr:Small c.n s.gr
 rf:Small c.n s.rf
 hd:Small c.n s.hd
 vt:s.vote≤c.n
section
variable {c:Cfg} {draw:Int} {s:Nd} {m:Msg}
theorem Tame.fresh {i t v k:Nat} {l:List Ent} (hv:v≤c.n):Tame c (fresh c draw i t v l k):=⟨Nat.zero_le _,Small.nil,Small.nil,Small.nil,hv⟩
theorem Tame.follow (h:Tame c s) (t l:Nat):Tame c (follow c draw t l s):=⟨h.beat,h.gr,h.rf,h.hd,by show (if s.term<t then 0 else s.vote)≤c.n;split;exact Nat.zero_le _;exact h.vt⟩
theorem Tame.lead (h:Tame c s):Tame c (lead c s).1:=by
 unfold Rf.lead
 simp only
 split <;> exact ⟨Nat.zero_le _,h.gr,h.rf,Small.nil,h.vt⟩
theorem Tame.stand (h:Tame c s) (hi:1≤s.id∧s.id≤c.n):Tame c (stand c draw s).1:=by
 have h1:Tame c (rest c draw { s with term:=s.term+1,vote:=s.id,role:=3,leader:=0,gr:=[s.id],rf:=[] }):=⟨h.beat,Small.one hi,Small.nil,h.hd,hi.2⟩
 unfold Rf.stand
 simp only
 split
 ·exact h1.lead
 ·exact h1
theorem Tame.begin (h:Tame c s) (hi:1≤s.id∧s.id≤c.n):Tame c (begin_ c draw s).1:=by
 unfold begin_
 simp only
 split
 ·exact ⟨h.beat,h.gr,h.rf,h.hd,h.vt⟩
 ·have h1:Tame c { (rest c draw s) with role:=2,leader:=0,gr:=[s.id] }:=⟨h.beat,Small.one hi,h.rf,h.hd,h.vt⟩
  split
  ·exact h1.stand hi
  ·exact h1
theorem Tame.tick (h:Tame c s) (hi:1≤s.id∧s.id≤c.n) (hb:s.role=4→s.beat<c.beat):Tame c (tick c draw s).1:=by
 unfold Rf.tick
 simp only
 split
 ·split
  ·exact Tame.begin (s:={ s with elapsed:=s.elapsed+1 }) ⟨h.beat,h.gr,h.rf,h.hd,h.vt⟩ hi
  ·exact ⟨h.beat,h.gr,h.rf,h.hd,h.vt⟩
 ·rename_i h4
  have hb:=hb (by omega)
  split
  ·exact ⟨by show s.beat+1≤c.beat;omega,h.gr,h.rf,h.hd,by show (if s.term<s.term then 0 else s.vote)≤c.n;split;exact Nat.zero_le _;exact h.vt⟩
  ·by_cases he:c.most≤s.elapsed+1
   ·simp only [if_pos he]
    split
    ·exact ⟨Nat.zero_le _,h.gr,h.rf,Small.nil,h.vt⟩
    ·exact ⟨by show s.beat+1≤c.beat;omega,h.gr,h.rf,Small.nil,h.vt⟩
   ·simp only [if_neg he]
    split
    ·exact ⟨Nat.zero_le _,h.gr,h.rf,h.hd,h.vt⟩
    ·exact ⟨by show s.beat+1≤c.beat;omega,h.gr,h.rf,h.hd,h.vt⟩
theorem Tame.propose (h:Tame c s) {l:List (List Int)}:Tame c (propose c l s).1:=⟨h.beat,h.gr,h.rf,h.hd,h.vt⟩
theorem Tame.far (h:Tame c s) (p:Nat):Tame c (far p s):=by
 unfold Rf.far
 split
 ·exact ⟨h.beat,h.gr,h.rf,h.hd.filter _,h.vt⟩
 ·exact h
theorem Tame.kinds (h:Tame c s) (hi:1≤s.id∧s.id≤c.n) (hm:1≤m.src∧m.src≤c.n):Tame c (kinds c draw m s).1:=by
 unfold Rf.kinds
 split
 ·rw [preVote_fst];exact h
 ·unfold preReply
  split
  ·exact h
  ·have h1:Tame c { s with gr:=Rf.put s.gr m.src }:=⟨h.beat,h.gr.put hm,h.rf,h.hd,h.vt⟩
   simp only
   split
   ·exact h1.stand hi
   ·exact h1
 ·unfold vote
  split
  ·exact ⟨h.beat,h.gr,h.rf,h.hd,hm.2⟩
  ·exact h
 ·unfold voteReply
  split
  ·exact h
  ·split
   ·have h1:Tame c { s with rf:=s.rf.filter (·≠m.src),gr:=Rf.put s.gr m.src }:=⟨h.beat,h.gr.put hm,h.rf.filter _,h.hd,h.vt⟩
    simp only
    split
    ·exact h1.lead
    ·exact h1
   ·simp only
    have h1:Tame c (if m.src∈s.gr then s else { s with rf:=Rf.put s.rf m.src }):=by
     split
     ·exact h
     ·exact ⟨h.beat,h.gr,h.rf.put hm,h.hd,h.vt⟩
    generalize (if m.src∈s.gr then s else { s with rf:=Rf.put s.rf m.src })=s1 at h1 ⊢
    split
    ·exact h1.follow _ _
    ·exact h1
 ·unfold append
  simp only
  split
  ·exact h.follow _ _
  ·split
   ·exact h.follow _ _
   ·split
    ·exact h.follow _ _
    ·exact ⟨h.beat,h.gr,h.rf,h.hd,(h.follow (draw:=draw) m.term m.src).vt⟩
 ·unfold appendReply
  split
  ·exact h
  ·have h1:Small c.n (Rf.put s.hd m.src):=h.hd.put hm
   simp only
   split
   ·split
    ·exact ⟨h.beat,h.gr,h.rf,h1,h.vt⟩
    ·exact ⟨h.beat,h.gr,h.rf,h1,h.vt⟩
   ·split
    ·split
     ·exact ⟨h.beat,h.gr,h.rf,h1,h.vt⟩
     ·split <;> exact ⟨h.beat,h.gr,h.rf,h1,h.vt⟩
    ·exact ⟨h.beat,h.gr,h.rf,h1,h.vt⟩
 ·exact h
theorem Tame.message (h:Tame c s) (hi:1≤s.id∧s.id≤c.n) (hm:1≤m.src∧m.src≤c.n):Tame c (message c draw m s).1:=by
 unfold Rf.message
 split
 ·exact h
 ·split
  ·exact (h.follow m.term (if m.kind=5 then m.src else 0)).kinds hi hm
  ·split
   ·exact h
   ·exact h.kinds hi hm
end
structure Nm (K:Nat) (x:Msg):Prop where
 term:x.term≤K+1
 idx:x.idx≤K
 com:x.commit≤K
 hint:x.hint≤K
def Nms (K:Nat) (l:List Msg):Prop:=∀ x∈l,Nm K x
structure Low (c:Cfg) (K:Nat) (s:Nd):Prop where
 fin:s.log.length≤K
 term:s.term≤K
 com:s.commit≤K
 nx:s.role=4→∀ p∈others c s.id,s.nx p≤K+1
section
variable {c:Cfg} {draw:Int} {s:Nd} {m:Msg} {K:Nat}
theorem Nm.more {x:Msg} {K':Nat} (h:Nm K x) (hk:K≤K'):Nm K' x:=⟨by have:=h.term;omega,Nat.le_trans h.idx hk,Nat.le_trans h.com hk,Nat.le_trans h.hint hk⟩
theorem Nms.more {l:List Msg} {K':Nat} (h:Nms K l) (hk:K≤K'):Nms K' l:=fun x hx=>(h x hx).more hk
theorem Nms.nil:Nms K []:=fun x hx=>absurd hx (by simp)
theorem Nms.one {x:Msg} (h:Nm K x):Nms K [x]:=fun y hy=>by rw [List.mem_singleton] at hy;subst hy;exact h
theorem Nms.append {a b:List Msg} (h:Nms K a) (k:Nms K b):Nms K (a++b):=fun x hx=>(List.mem_append.1 hx).elim (h x) (k x)
theorem Nms.sub {a b:List Msg} (h:Nms K a) (k:∀ x∈b,x∈a):Nms K b:=fun x hx=>h x (k x hx)
theorem Nm.app (h:Low c K s) (h4:s.role=4) {p:Nat} (hp:p∈others c s.id):Nm K (app c s p) :=
 ⟨Nat.le_succ_of_le h.term,by show s.nx p-1≤K;have:=h.nx h4 p hp;omega,h.com,Nat.zero_le _⟩
theorem Nms.apps (h:Low c K s) (h4:s.role=4):Nms K (apps c s):=fun x hx=>by
 obtain ⟨p,hp,rfl⟩:=List.mem_map.1 hx
 exact Nm.app h h4 hp
theorem Nms.lead (h:Low c K (lead c s).1):Nms K (lead c s).2:=Nms.apps h lead_role
theorem Nms.stand (hf:s.log.length≤K) (h:Low c K (stand c draw s).1):Nms K (stand c draw s).2:=by
 have ht:(Rf.stand c draw s).1.term=s.term+1:=stand_term
 have h1:=h.term
 unfold Rf.stand at h ⊢
 simp only at h ⊢
 split
 ·rename_i hm
  rw [if_pos hm] at h
  exact Nms.lead h
 ·intro x hx
  obtain ⟨p,_,rfl⟩:=List.mem_map.1 hx
  exact ⟨by show s.term+1≤K+1;omega,hf,Nat.zero_le _,Nat.zero_le _⟩
theorem Nms.begin (hf:s.log.length≤K) (ht:s.term≤K) (h:Low c K (begin_ c draw s).1):Nms K (begin_ c draw s).2:=by
 unfold begin_ at h ⊢
 simp only at h ⊢
 split
 ·exact Nms.nil
 ·rename_i h1
  rw [if_neg h1] at h
  split
  ·rename_i h2
   rw [if_pos h2] at h
   exact Nms.stand hf h
  ·intro x hx
   obtain ⟨p,_,rfl⟩:=List.mem_map.1 hx
   exact ⟨by show s.term+1≤K+1;omega,hf,Nat.zero_le _,Nat.zero_le _⟩
theorem Nms.tick (h0:Low c K s) (h:Low c K (tick c draw s).1):Nms K (tick c draw s).2:=by
 unfold Rf.tick at h ⊢
 simp only at h ⊢
 by_cases h4:s.role≠4
 ·rw [if_pos h4] at h ⊢
  split
  ·rename_i h1
   rw [if_pos h1] at h
   exact Nms.begin h0.fin h0.term h
  ·exact Nms.nil
 ·rw [if_neg h4] at h ⊢
  have h4:s.role=4:=by omega
  split
  ·exact Nms.nil
  ·rename_i h1
   rw [if_neg h1] at h
   by_cases he:c.most≤s.elapsed+1
   ·simp only [if_pos he] at h ⊢
    split
    ·rename_i h2;rw [if_pos h2] at h;exact Nms.apps h h4
    ·exact Nms.nil
   ·simp only [if_neg he] at h ⊢
    split
    ·rename_i h2;rw [if_pos h2] at h;exact Nms.apps h h4
    ·exact Nms.nil
theorem Nms.propose {l:List (List Int)} (h4:s.role=4) (h:Low c K (propose c l s).1):Nms K (propose c l s).2:=Nms.apps h h4
theorem Nms.re {k t i hh:Nat} {r:Bool} (h1:t≤K+1) (h2:i≤K) (h3:hh≤K):Nms K [re s m k t i r hh]:=Nms.one ⟨h1,h2,Nat.zero_le _,h3⟩
theorem merge_snd (es:List Ent):∀ (log:List Ent) (j:Nat),j≤log.length→(merge log j es).2≤(merge log j es).1.length:=by
 induction es with
 | nil=>intro log j h;exact h
 | cons e es ih =>
  intro log j h
  unfold merge
  split
  ·rename_i h1
   refine ih log (j+1) ?_
   cases hx:log[j]? with
   | none=>rw [hx] at h1;cases h1
   | some y=>exact (List.getElem?_eq_some_iff.1 hx).1
  ·simp only
   rw [List.length_append,List.length_take,List.length_take]
   omega
theorem Nms.kinds (hf:s.log.length≤K) (hc:s.commit≤K) (ht:s.term≤K+1) (hm:Nm K m) (hsrc:m.src∈others c s.id) (h:Low c K (kinds c draw m s).1):Nms K (kinds c draw m s).2:=by
 have hmt:=hm.term
 have hmi:=hm.idx
 unfold Rf.kinds at h ⊢
 split
 ·unfold preVote
  split
  ·exact Nms.re hmt (Nat.zero_le _) (Nat.zero_le _)
  ·exact Nms.re ht (Nat.zero_le _) (Nat.zero_le _)
 ·rename_i hk
  simp only [hk] at h
  unfold preReply at h ⊢
  split
  ·exact Nms.nil
  ·rename_i h1
   rw [if_neg h1] at h
   simp only at h ⊢
   split
   ·rename_i h2
    rw [if_pos h2] at h
    exact Nms.stand hf h
   ·exact Nms.nil
 ·unfold vote
  split
  ·exact Nms.re ht (Nat.zero_le _) (Nat.zero_le _)
  ·exact Nms.re ht (Nat.zero_le _) (Nat.zero_le _)
 ·rename_i hk
  simp only [hk] at h
  unfold voteReply at h ⊢
  split
  ·exact Nms.nil
  ·rename_i h1
   rw [if_neg h1] at h
   split
   ·rename_i h2
    rw [if_pos h2] at h
    simp only at h ⊢
    split
    ·rename_i h3
     rw [if_pos h3] at h
     exact Nms.lead h
    ·exact Nms.nil
   ·simp only
    generalize (if m.src∈s.gr then s else { s with rf:=Rf.put s.rf m.src })=s1
    split <;> exact Nms.nil
 ·rename_i hk
  simp only [hk] at h
  have htt:(follow c draw m.term m.src s).term≤K+1:=by show max s.term m.term≤K+1;omega
  unfold Rf.append at h ⊢
  simp only at h ⊢
  split
  ·exact Nms.re htt hc (Nat.zero_le _)
  ·rename_i h1
   rw [if_neg h1] at h
   split
   ·exact Nms.re htt hmi hf
   ·rename_i h2
    rw [if_neg h2] at h
    split
    ·exact Nms.re htt hmi (by omega)
    ·rename_i h3
     rw [if_neg h3] at h
     have h4:=merge_snd m.es s.log m.idx (Nat.le_of_not_lt h2)
     have h5:=h.fin
     exact Nms.re htt (Nat.le_trans h4 h5) (Nat.zero_le _)
 ·rename_i hk
  simp only [hk] at h
  unfold appendReply at h ⊢
  split
  ·exact Nms.nil
  ·rename_i h0
   have h4:s.role=4:=Classical.byContradiction h0
   rw [if_neg h0] at h
   simp only at h ⊢
   split
   ·rename_i h1
    rw [if_pos h1] at h
    split
    ·rename_i h2
     rw [if_pos h2] at h
     exact Nms.one (Nm.app h h4 hsrc)
    ·exact Nms.nil
   ·rename_i h1
    rw [if_neg h1] at h
    split
    ·rename_i h2
     rw [if_pos h2] at h
     split
     ·rename_i h3
      rw [if_pos h3] at h
      exact Nms.apps h h4
     ·rename_i h3
      rw [if_neg h3] at h
      split
      ·rename_i h5
       rw [if_pos h5] at h
       exact Nms.one (Nm.app h h4 hsrc)
      ·exact Nms.nil
    ·exact Nms.nil
 ·exact Nms.nil
theorem Nms.message (hs:Low c K s) (hm:Nm K m) (hsrc:m.src∈others c s.id) (h:Low c K (message c draw m s).1):Nms K (message c draw m s).2:=by
 have hmt:=hm.term
 have hst:=hs.term
 unfold Rf.message at h ⊢
 split
 ·exact Nms.nil
 ·rename_i h1
  rw [if_neg h1] at h
  split
  ·rename_i h2
   rw [if_pos h2] at h
   exact Nms.kinds hs.fin hs.com (by show max s.term m.term≤K+1;omega) hm hsrc h
  ·rename_i h2
   rw [if_neg h2] at h
   split
   ·unfold old
    split
    ·exact Nms.re (by omega) hm.idx (Nat.zero_le _)
    ·split
     ·exact Nms.re (by omega) (Nat.zero_le _) (Nat.zero_le _)
     ·split
      ·exact Nms.re (by omega) (Nat.zero_le _) (Nat.zero_le _)
      ·exact Nms.nil
   ·rename_i h3
    rw [if_neg h3] at h
    exact Nms.kinds hs.fin hs.com (by omega) hm hsrc h
end
end Go.Proofs.YtocogcgnahbpkaaGreat.Rf
namespace Go.Proofs.YtocogcgnahbpkaaGreat.Rf
def Few (c:Cfg) (l:List Msg):Prop:=l.length≤c.n+1
section
variable {c:Cfg} {draw:Int} {s:Nd} {m:Msg}
theorem Few.nil:Few c []:=Nat.zero_le _
theorem Few.one {x:Msg}:Few c [x]:=Nat.succ_le_succ (Nat.zero_le _)
theorem Few.map {f:Nat→Msg} {id:Nat}:Few c ((others c id).map f):=by
 unfold Few
 rw [List.length_map]
 exact Nat.le_succ_of_le (others_len c id)
theorem Few.apps:Few c (apps c s):=Few.map
theorem Few.lead:Few c (lead c s).2:=Few.apps
theorem Few.stand:Few c (stand c draw s).2:=by
 unfold Rf.stand
 simp only
 split
 ·exact Few.lead
 ·exact Few.map
theorem Few.begin:Few c (begin_ c draw s).2:=by
 unfold begin_
 simp only
 split
 ·exact Few.nil
 ·split
  ·exact Few.stand
  ·exact Few.map
theorem Few.tick:Few c (tick c draw s).2:=by
 unfold Rf.tick
 simp only
 split
 ·split
  ·exact Few.begin
  ·exact Few.nil
 ·split
  ·exact Few.nil
  ·split
   ·split
    ·exact Few.apps
    ·exact Few.nil
   ·split
    ·exact Few.apps
    ·exact Few.nil
theorem Few.propose {l:List (List Int)}:Few c (propose c l s).2:=Few.apps
theorem Few.old:Few c (old m s):=by
 unfold Rf.old
 split
 ·exact Few.one
 ·split
  ·exact Few.one
  ·split
   ·exact Few.one
   ·exact Few.nil
theorem Few.kinds:Few c (kinds c draw m s).2:=by
 unfold Rf.kinds
 split
 ·unfold preVote
  split <;> exact Few.one
 ·unfold preReply
  split
  ·exact Few.nil
  ·simp only
   split
   ·exact Few.stand
   ·exact Few.nil
 ·unfold vote
  split <;> exact Few.one
 ·unfold voteReply
  split
  ·exact Few.nil
  ·split
   ·simp only
    split
    ·exact Few.lead
    ·exact Few.nil
   ·simp only
    generalize (if m.src∈s.gr then s else { s with rf:=put s.rf m.src })=s1
    split <;> exact Few.nil
 ·unfold append
  simp only
  split
  ·exact Few.one
  ·split
   ·exact Few.one
   ·split
    ·exact Few.one
    ·exact Few.one
 ·unfold appendReply
  split
  ·exact Few.nil
  ·simp only
   split
   ·split
    ·exact Few.one
    ·exact Few.nil
   ·split
    ·split
     ·exact Few.apps
     ·split
      ·exact Few.one
      ·exact Few.nil
    ·exact Few.nil
 ·exact Few.nil
theorem Few.message:Few c (message c draw m s).2:=by
 unfold Rf.message
 split
 ·exact Few.nil
 ·split
  ·exact Few.kinds
  ·split
   ·exact Few.old
   ·exact Few.kinds
end
end Go.Proofs.YtocogcgnahbpkaaGreat.Rf
namespace Go.Proofs.YtocogcgnahbpkaaGreat.Rf
section
variable {c:Cfg} {g:Gh} {nd:Nat→Nd} {net:List Msg}
theorem net_psi:net.length≤psi c g nd net:=by
 unfold psi
 have:net.length≤(net.map (wt g nd)).sum:=by
  induction net with
  | nil=>exact Nat.le_refl _
  | cons a l ih =>
   have:=wt_pos (g:=g) (nd:=nd) a
   simp only [List.length_cons,List.map_cons,List.sum_cons]
   omega
 omega
theorem run_succ (d:Nat→Int) (k:Nat) (w:Wd):w.run c d (k+1)=(w.run c d k).arr c d:=by
 rw [run_add c d k 1 w];rfl
theorem tks_succ (d:Nat→Int) (k:Nat) (w:Wd):w.tks c d (List.range' 1 (k+1))=(w.tks c d (List.range' 1 k)).tk c d (k+1):=by
 rw [List.range'_concat,Wd.tks,Wd.tks,List.foldl_append]
 show Wd.tk c d _ (1+1*k)=_
 rw [Nat.one_mul,Nat.add_comm 1 k]
end
end Go.Proofs.YtocogcgnahbpkaaGreat.Rf
